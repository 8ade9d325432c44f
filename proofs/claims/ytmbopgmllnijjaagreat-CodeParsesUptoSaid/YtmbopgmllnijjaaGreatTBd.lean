/- What is proved here: contracts of functions of the program: of each function what it hands back and what it leaves in memory. Conditions: those that each theorem names. -/
import Derived.Test.YtmbopgmllnijjaaGreatTBc
import Derived.Test.YtmbopgmllnijjaaGreatTAq
set_option linter.unusedVariables false
set_option linter.unusedSimpArgs false
set_option linter.unusedSectionVars false
namespace Go.Vc
open Go Go.Proofs
set_option maxRecDepth 100000
set_option maxHeartbeats 16000000 in
theorem chkR_spec (p : PG) (zf : Nat) (lf : List PV) (tf : Bool) (zc : Nat) (lc : List PV) (tc : Bool) (hp : PGA p zf lf zc lc) (Post : PV → List (Nat × Blk) → Prop)
  (h : Post (.int .i64 (chkM p)) []) : Spec K 17 [.agg (pgc zf lf tf zc lc tc)] [] Post := by
 refine is17.specC [62, 102] K_ok K_mix false (by simp) (by simp [keys]) ?_
 have hf := FPs_len hp.fs
 have hc := VPs_len hp.cs
 have hz := zlf hp
 have hzc := zlc hp
 have hnf := hp.nf
 have hnc := hp.nc
 rw [chk_eq] at h
 (conv => whnf); repeat ((first | (apply And.intro;· exact Cl4) | apply T1 | apply T2 | apply T3 | apply T4 | apply T6 | apply T5); conv => whnf)
 rw [hf, hc]
 have e1 : (bif decide (16 < (p.funcs.length : Int)) then true else decide (256 < (p.consts.length : Int))) = (decide (16 < p.funcs.length) || decide (256 < p.consts.length)) := by
  rw [show decide (16 < (p.funcs.length : Int)) = decide (16 < p.funcs.length) from decide_eq_decide.2 (by omega), show decide (256 < (p.consts.length : Int)) = decide (256 < p.consts.length) from decide_eq_decide.2 (by omega)]
  cases decide (16 < p.funcs.length) <;> rfl
 rw [e1]
 have hA : (16 < p.funcs.length ∨ 256 < p.consts.length ∨ (p.funcs.any fun f => decide (512 < f.code.length)) = true) ↔ ((decide (16 < p.funcs.length) || decide (256 < p.consts.length)) = true ∨ (p.funcs.any fun f => decide (512 < f.code.length)) = true) := by
  rw [Bool.or_eq_true, decide_eq_true_eq, decide_eq_true_eq, or_assoc]
 cases c1 : (decide (16 < p.funcs.length) || decide (256 < p.consts.length))
 case true =>
  rw [if_pos (hA.2 (.inl c1))] at h
  refine Both.T rfl ?_
  (conv => whnf); repeat ((first | (apply And.intro;· exact Cl4) | apply T1 | apply T2 | apply T3 | apply T4 | apply T6 | apply T5); conv => whnf)
  exact h
 refine Both.F rfl ?_
 (conv => whnf); repeat ((first | (apply And.intro;· exact Cl4) | apply T1 | apply T2 | apply T3 | apply T4 | apply T6 | apply T5); conv => whnf)
 refine ⟨Nat, fun i => ⟨118, [(3, .int .i64 i), (2, .int .i64 0), (1, .ptr 0 0)], [(0, .box (pgc zf lf tf zc lc tc))], []⟩, fun i => i ≤ p.funcs.length ∧ ((p.funcs.take i).any fun f => decide (512 < f.code.length)) = false, fun i => p.funcs.length - i, ⟨[], 0, ⟨Nat.zero_le _, rfl⟩, ?_⟩, fun i hI => ?_⟩
 ·simp [meets, ghosts, St.le, St.get, look, keys, PV.labs, labsL, lookB, Blk.labs]
 obtain ⟨hi, hin⟩ := hI
 conv => (arg 5; dsimp only)
 (conv => whnf); repeat ((first | (apply And.intro;· exact Cl4) | apply T1 | apply T2 | apply T3 | apply T4 | apply T6 | apply T5); conv => whnf)
 rw [hf]
 by_cases hix : i < p.funcs.length
 ·rw [decide_eq_true (show (i : Int) < (p.funcs.length : Int) by omega)]
  (conv => whnf); repeat ((first | (apply And.intro;· exact Cl4) | apply T1 | apply T2 | apply T3 | apply T4 | apply T6 | apply T5); conv => whnf)
  obtain ⟨y, u, o, hq, hy⟩ := FPs_nth hp.fs hix
  rw [Int.toNat_natCast, hq]
  (conv => whnf); repeat ((first | (apply And.intro;· exact Cl4) | apply T1 | apply T2 | apply T3 | apply T4 | apply T6 | apply T5); conv => whnf)
  rw [List.length_map]
  cases c2 : decide (512 < p.funcs[i].code.length)
  ·rw [decide_eq_false (show ¬ 512 < (p.funcs[i].code.length : Int) by have := of_decide_eq_false c2; omega)]
   (conv => whnf); repeat ((first | (apply And.intro;· exact Cl4) | apply T1 | apply T2 | apply T3 | apply T4 | apply T6 | apply T5); conv => whnf)
   rw [wrap64 (n := (i : Int) + 1) (by omega) (by omega)]
   refine ⟨[], i + 1, ⟨hix, any_step (P := fun f => decide (512 < f.code.length)) hix hin c2⟩, by show p.funcs.length - (i + 1) < p.funcs.length - i; omega, ?_⟩
   simp [meets, ghosts, St.le, St.get, look, keys, PV.labs, labsL, lookB, Blk.labs]
  ·rw [decide_eq_true (show 512 < (p.funcs[i].code.length : Int) by have := of_decide_eq_true c2; omega)]
   rw [if_pos (hA.2 (.inr (any_hit (P := fun f => decide (512 < f.code.length)) hix c2)))] at h
   (conv => whnf); repeat ((first | (apply And.intro;· exact Cl4) | apply T1 | apply T2 | apply T3 | apply T4 | apply T6 | apply T5); conv => whnf)
   exact h
 obtain rfl : i = p.funcs.length := by omega
 rw [List.take_length] at hin
 rw [if_neg (fun hc => by rcases hA.1 hc with hc | hc <;> simp_all)] at h
 rw [decide_eq_false (show ¬ (p.funcs.length : Int) < (p.funcs.length : Int) by omega)]
 clear hA e1 hin hi hix c1
 (conv => whnf); repeat ((first | (apply And.intro;· exact Cl4) | apply T1 | apply T2 | apply T3 | apply T4 | apply T6 | apply T5); conv => whnf)
 rw [hf]
 have e2 : ((p.funcs.length : Int) == 0) = decide (p.funcs = []) := by rw [Bool.eq_iff_iff]; simp
 rw [e2]
 cases c3 : decide (p.funcs = [])
 case true =>
  rw [if_pos (.inl (of_decide_eq_true c3))] at h
  refine Both.T rfl ?_
  (conv => whnf); repeat ((first | (apply And.intro;· exact Cl4) | apply T1 | apply T2 | apply T3 | apply T4 | apply T6 | apply T5); conv => whnf)
  exact h
 have c3 := of_decide_eq_false c3
 refine Both.F rfl ?_
 (conv => whnf); repeat ((first | (apply And.intro;· exact Cl4) | apply T1 | apply T2 | apply T3 | apply T4 | apply T6 | apply T5); conv => whnf)
 refine ⟨Nat, fun i => ⟨118, [(4, .int .i64 i), (2, .int .i64 0), (1, .ptr 0 0)], [(0, .box (pgc zf lf tf zc lc tc))], []⟩, fun i => i ≤ p.consts.length ∧ ((p.consts.take i).any fun v => !mayV v) = false, fun i => p.consts.length - i, ⟨[], 0, ⟨Nat.zero_le _, rfl⟩, ?_⟩, fun i hI => ?_⟩
 ·simp [meets, ghosts, St.le, St.get, look, keys, PV.labs, labsL, lookB, Blk.labs]
 obtain ⟨hi, hin⟩ := hI
 conv => (arg 5; dsimp only)
 (conv => whnf); repeat ((first | (apply And.intro;· exact Cl4) | apply T1 | apply T2 | apply T3 | apply T4 | apply T6 | apply T5); conv => whnf)
 rw [hc]
 by_cases hix : i < p.consts.length
 ·rw [decide_eq_true (show (i : Int) < (p.consts.length : Int) by omega)]
  (conv => whnf); repeat ((first | (apply And.intro;· exact Cl4) | apply T1 | apply T2 | apply T3 | apply T4 | apply T6 | apply T5); conv => whnf)
  obtain ⟨y1, mp, u1, o1, y2, u2, o2, hq, hv, g1, g2, g3⟩ := (VPs_nth hp.cs hix).out
  have hcb := hp.cb _ (List.getElem_mem hix)
  rw [Int.toNat_natCast, hq]
  (conv => whnf); repeat ((first | (apply And.intro;· exact Cl4) | apply T1 | apply T2 | apply T3 | apply T4 | apply T6 | apply T5); conv => whnf)
  refine may_spec p.consts[i] y1 y2 mp _ _ _ ⟨hv, g1, g2, hcb.1, by have := hcb.2; omega⟩ ?_
  cases c2 : mayV p.consts[i]
  ·rw [if_pos (.inr (.inl (any_hit (P := fun v => !mayV v) hix (by rw [c2]; rfl))))] at h
   (conv => whnf); repeat ((first | (apply And.intro;· exact Cl4) | apply T1 | apply T2 | apply T3 | apply T4 | apply T6 | apply T5); conv => whnf)
   exact h
  ·(conv => whnf); repeat ((first | (apply And.intro;· exact Cl4) | apply T1 | apply T2 | apply T3 | apply T4 | apply T6 | apply T5); conv => whnf)
   rw [wrap64 (n := (i : Int) + 1) (by omega) (by omega)]
   refine ⟨[], i + 1, ⟨hix, any_step (P := fun v => !mayV v) hix hin (by rw [c2]; rfl)⟩, by show p.consts.length - (i + 1) < p.consts.length - i; omega, ?_⟩
   simp [meets, ghosts, St.le, St.get, look, keys, PV.labs, labsL, lookB, Blk.labs]
 obtain rfl : i = p.consts.length := by omega
 rw [List.take_length] at hin
 have c4 := hin
 rw [decide_eq_false (show ¬ (p.consts.length : Int) < (p.consts.length : Int) by omega)]
 clear hin hi hix
 (conv => whnf); repeat ((first | (apply And.intro;· exact Cl4) | apply T1 | apply T2 | apply T3 | apply T4 | apply T6 | apply T5); conv => whnf)
 have hh := heads_iff p
 refine ⟨Nat, fun i => ⟨118, [(5, .int .i64 i), (2, .int .i64 0), (1, .ptr 0 0)], [(0, .box (pgc zf lf tf zc lc tc))], []⟩, fun i => i ≤ p.funcs.length ∧ ∀ j (hj : j < p.funcs.length), j < i → headR p.funcs[j] = true ∧ findM p p.funcs[j].name = j, fun i => p.funcs.length - i, ⟨[], 0, ⟨Nat.zero_le _, fun j hj h => absurd h (by omega)⟩, ?_⟩, fun i hI => ?_⟩
 ·simp [meets, ghosts, St.le, St.get, look, keys, PV.labs, labsL, lookB, Blk.labs]
 obtain ⟨hi, hin⟩ := hI
 conv => (arg 5; dsimp only)
 (conv => whnf); repeat ((first | (apply And.intro;· exact Cl4) | apply T1 | apply T2 | apply T3 | apply T4 | apply T6 | apply T5); conv => whnf)
 rw [hf]
 by_cases hix : i < p.funcs.length
 ·rw [decide_eq_true (show (i : Int) < (p.funcs.length : Int) by omega)]
  (conv => whnf); repeat ((first | (apply And.intro;· exact Cl4) | apply T1 | apply T2 | apply T3 | apply T4 | apply T6 | apply T5); conv => whnf)
  obtain ⟨y, u, o, hq, hy⟩ := FPs_nth hp.fs hix
  have hqz : nth lf (Int.toNat (i : Int)) = .agg [.str p.funcs[i].name, .int .i64 p.funcs[i].args, .int .i64 p.funcs[i].locals, .sl y (p.funcs[i].code.map INP) u o] := by rw [Int.toNat_natCast, hq]
  have hk0 : 0 ≤ findM p p.funcs[i].name := by
   have := idxL_any (fun g : FD => g.name == p.funcs[i].name) p.funcs
   rw [any_hit (P := fun g : FD => g.name == p.funcs[i].name) hix (by simp)] at this
   exact of_decide_eq_true this
  refine ⟨Unit, fun _ => ⟨118, [(7, .bool true), (6, .int .i64 (findM p p.funcs[i].name)), (5, .int .i64 i), (2, .int .i64 0), (1, .ptr 0 0)], [(0, .box (pgc zf lf tf zc lc tc))], []⟩, fun _ => True, ?_, fun _ _ => ?_⟩
  ·(conv => whnf); repeat' (first | ((first | (apply And.intro;· exact Cl4) | apply T1 | apply T2 | apply T3 | apply T4 | apply T6 | apply T5); conv => whnf) | (rw [hqz]; conv => whnf) | (refine findR_spec p p.funcs[i].name zf lf tf zc lc tc hp _ ?_; conv => whnf) | ((refine Both.mk ?_ ?_ <;> fail_if_success (intro _)) <;> conv => whnf))
   all_goals (
    refine ⟨[], (), trivial, ?_⟩
    rw [if_neg (show ¬ 0 > findM p p.funcs[i].name by omega)]
    simp [meets, ghosts, St.le, St.get, look, keys, PV.labs, labsL, lookB, Blk.labs, hk0])
  conv => (arg 4; dsimp only)
  (conv => whnf); repeat ((first | (apply And.intro;· exact Cl4) | apply T1 | apply T2 | apply T3 | apply T4 | apply T6 | apply T5); conv => whnf)
  rw [hqz]
  (conv => whnf); repeat ((first | (apply And.intro;· exact Cl4) | apply T1 | apply T2 | apply T3 | apply T4 | apply T6 | apply T5); conv => whnf)
  refine headR_spec p.funcs[i] y _ _ ?_
  cases c5 : headR p.funcs[i]
  ·have : (p.funcs.any fun f => !headM p f) = true := by
    cases hb : (p.funcs.any fun f => !headM p f)
    ·have := (hh.2 hb i hix).1; rw [c5] at this; cases this
    ·rfl
   rw [if_pos (.inr (.inr this))] at h
   (conv => whnf); repeat ((first | (apply And.intro;· exact Cl4) | apply T1 | apply T2 | apply T3 | apply T4 | apply T6 | apply T5); conv => whnf)
   exact h
  ·(conv => whnf); repeat ((first | (apply And.intro;· exact Cl4) | apply T1 | apply T2 | apply T3 | apply T4 | apply T6 | apply T5); conv => whnf)
   by_cases c6 : findM p p.funcs[i].name = i
   ·rw [c6]
    rw [show ((i : Int) != (i : Int)) = false by simp]
    (conv => whnf); repeat ((first | (apply And.intro;· exact Cl4) | apply T1 | apply T2 | apply T3 | apply T4 | apply T6 | apply T5); conv => whnf)
    rw [wrap64 (n := (i : Int) + 1) (by omega) (by omega)]
    refine ⟨[], i + 1, ⟨hix, fun j hj hji => ?_⟩, by show p.funcs.length - (i + 1) < p.funcs.length - i; omega, ?_⟩
    ·by_cases hj2 : j < i
     ·exact hin j hj hj2
     ·obtain rfl : j = i := by omega
      exact ⟨c5, c6⟩
    ·simp [meets, ghosts, St.le, St.get, look, keys, PV.labs, labsL, lookB, Blk.labs]
   ·have : (p.funcs.any fun f => !headM p f) = true := by
     cases hb : (p.funcs.any fun f => !headM p f)
     ·exact absurd (hh.2 hb i hix).2 c6
     ·rfl
    rw [if_pos (.inr (.inr this))] at h
    rw [show (findM p p.funcs[i].name != (i : Int)) = true by simpa using c6]
    (conv => whnf); repeat ((first | (apply And.intro;· exact Cl4) | apply T1 | apply T2 | apply T3 | apply T4 | apply T6 | apply T5); conv => whnf)
    exact h
 obtain rfl : i = p.funcs.length := by omega
 have c7 := hh.1 fun i hi => hin i hi hi
 rw [if_neg (by rintro (hc | hc | hc); exact c3 hc; rw [c4] at hc; cases hc; rw [c7] at hc; cases hc)] at h
 rw [decide_eq_false (show ¬ (p.funcs.length : Int) < (p.funcs.length : Int) by omega)]
 clear hin hi hix hh
 (conv => whnf); repeat ((first | (apply And.intro;· exact Cl4) | apply T1 | apply T2 | apply T3 | apply T4 | apply T6 | apply T5); conv => whnf)
 refine ⟨Nat, fun i => ⟨118, [(8, .int .i64 i), (2, .int .i64 0), (1, .ptr 0 0)], [(0, .box (pgc zf lf tf zc lc tc))], []⟩, fun i => i ≤ p.funcs.length ∧ ((p.funcs.take i).any fun f => f.code.any fun x => !insR p f x) = false, fun i => p.funcs.length - i, ⟨[], 0, ⟨Nat.zero_le _, rfl⟩, ?_⟩, fun i hI => ?_⟩
 ·simp [meets, ghosts, St.le, St.get, look, keys, PV.labs, labsL, lookB, Blk.labs]
 obtain ⟨hi, hin⟩ := hI
 conv => (arg 5; dsimp only)
 (conv => whnf); repeat ((first | (apply And.intro;· exact Cl4) | apply T1 | apply T2 | apply T3 | apply T4 | apply T6 | apply T5); conv => whnf)
 rw [hf]
 by_cases hix : i < p.funcs.length
 rotate_left
 ·obtain rfl : i = p.funcs.length := by omega
  rw [decide_eq_false (show ¬ (p.funcs.length : Int) < (p.funcs.length : Int) by omega)]
  (conv => whnf); repeat ((first | (apply And.intro;· exact Cl4) | apply T1 | apply T2 | apply T3 | apply T4 | apply T6 | apply T5); conv => whnf)
  rw [List.take_length] at hin
  rw [if_neg (by rw [hin]; simp)] at h
  exact h
 rw [decide_eq_true (show (i : Int) < (p.funcs.length : Int) by omega)]
 (conv => whnf); repeat ((first | (apply And.intro;· exact Cl4) | apply T1 | apply T2 | apply T3 | apply T4 | apply T6 | apply T5); conv => whnf)
 obtain ⟨y, u, o, hq, hy⟩ := FPs_nth hp.fs hix
 have hqz : nth lf (Int.toNat (i : Int)) = .agg [.str p.funcs[i].name, .int .i64 p.funcs[i].args, .int .i64 p.funcs[i].locals, .sl y (p.funcs[i].code.map INP) u o] := by rw [Int.toNat_natCast, hq]
 have hcl := (hp.fb _ (List.getElem_mem hix)).code
 have hix2 : (fun f : FD => f.code.any fun x => !insR p f x) p.funcs[i] = (p.funcs[i].code.any fun x => !insR p p.funcs[i] x) := rfl
 have hst := fun hb => any_step (P := fun f : FD => f.code.any fun x => !insR p f x) hix hin hb
 have hht := fun hb => any_hit (P := fun f : FD => f.code.any fun x => !insR p f x) hix hb
 clear hin hix2
 generalize p.funcs[i] = f at hq hqz hcl hy hst hht
 refine ⟨Nat, fun k => ⟨118, [(9, .int .i64 k), (8, .int .i64 i), (2, .int .i64 0), (1, .ptr 0 0)], [(0, .box (pgc zf lf tf zc lc tc))], []⟩, fun k => k ≤ f.code.length ∧ ((f.code.take k).any fun x => !insR p f x) = false, fun k => f.code.length - k, ⟨[], 0, ⟨Nat.zero_le _, rfl⟩, ?_⟩, fun k hK => ?_⟩
 ·simp [meets, ghosts, St.le, St.get, look, keys, PV.labs, labsL, lookB, Blk.labs]
 obtain ⟨hk, hkn⟩ := hK
 conv => (arg 5; dsimp only)
 (conv => whnf); repeat ((first | (apply And.intro;· exact Cl4) | apply T1 | apply T2 | apply T3 | apply T4 | apply T6 | apply T5); conv => whnf)
 rw [hqz]
 (conv => whnf); repeat ((first | (apply And.intro;· exact Cl4) | apply T1 | apply T2 | apply T3 | apply T4 | apply T6 | apply T5); conv => whnf)
 rw [List.length_map]
 by_cases hkx : k < f.code.length
 rotate_left
 ·obtain rfl : k = f.code.length := by omega
  rw [decide_eq_false (show ¬ (f.code.length : Int) < (f.code.length : Int) by omega)]
  (conv => whnf); repeat ((first | (apply And.intro;· exact Cl4) | apply T1 | apply T2 | apply T3 | apply T4 | apply T6 | apply T5); conv => whnf)
  rw [wrap64 (n := (i : Int) + 1) (by omega) (by omega)]
  rw [List.take_length] at hkn
  refine ⟨[], i + 1, ⟨hix, hst hkn⟩, by show p.funcs.length - (i + 1) < p.funcs.length - i; omega, ?_⟩
  simp [meets, ghosts, St.le, St.get, look, keys, PV.labs, labsL, lookB, Blk.labs]
 rw [decide_eq_true (show (k : Int) < (f.code.length : Int) by omega)]
 (conv => whnf); repeat ((first | (apply And.intro;· exact Cl4) | apply T1 | apply T2 | apply T3 | apply T4 | apply T6 | apply T5); conv => whnf)
 have hqk : nth (f.code.map INP) (Int.toNat (k : Int)) = INP f.code[k] := by rw [Int.toNat_natCast, code_nth hkx]
 have hlm : (f.code.map INP).length = f.code.length := List.length_map _
 have hzy : y = 3 ∨ f.code.map INP = [] := hy.imp id fun e => by rw [e]; rfl
 generalize hxk : f.code[k] = x at hqk
 refine ⟨Unit, fun _ => ⟨118, [(117, .bool (!insR p f x)), (9, .int .i64 k), (8, .int .i64 i), (2, .int .i64 0), (1, .ptr 0 0)], [(0, .box (pgc zf lf tf zc lc tc))], []⟩, fun _ => True, ?_, fun _ _ => ?_⟩
 ·(conv => whnf); repeat' (first | ((first | (apply And.intro;· exact Cl4) | apply T1 | apply T2 | apply T3 | apply T4 | apply T6 | apply T5); conv => whnf) | (rw [hqz]; conv => whnf) | (rw [hqk]; conv => whnf) | (refine mayR_spec fitsR_spec p f x zf lf tf zc lc tc y _ hp _ ?_; conv => whnf) | ((refine Both.mk ?_ ?_ <;> fail_if_success (intro _)) <;> conv => whnf))
  all_goals (
   refine ⟨[], (), trivial, ?_⟩
   simp [meets, ghosts, St.le, St.get, look, keys, PV.labs, labsL, lookB, Blk.labs])
 conv => (arg 4; dsimp only)
 cases c8 : insR p f x
 ·(conv => whnf); repeat ((first | (apply And.intro;· exact Cl4) | apply T1 | apply T2 | apply T3 | apply T4 | apply T6 | apply T5); conv => whnf)
  rw [if_pos (hht (any_hit (P := fun x => !insR p f x) hkx (by rw [hxk, c8]; rfl)))] at h
  exact h
 ·(conv => whnf); repeat ((first | (apply And.intro;· exact Cl4) | apply T1 | apply T2 | apply T3 | apply T4 | apply T6 | apply T5); conv => whnf)
  rw [wrap64 (n := (k : Int) + 1) (by omega) (by omega)]
  refine ⟨[], k + 1, ⟨hkx, any_step (P := fun x => !insR p f x) hkx hkn (by rw [hxk, c8]; rfl)⟩, by show f.code.length - (k + 1) < f.code.length - k; omega, ?_⟩
  simp [meets, ghosts, St.le, St.get, look, keys, PV.labs, labsL, lookB, Blk.labs]
end Go.Vc
