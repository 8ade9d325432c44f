/- What is proved here: contracts of functions of the program: of each function what it hands back and what it leaves in memory. Conditions: those that each theorem names. -/
import Derived.Test.YtmbopgmllnijjaaGreatTAo
import Derived.Test.YtmbopgmllnijjaaGreatTAp
set_option linter.unusedVariables false
set_option linter.unusedSimpArgs false
set_option linter.unusedSectionVars false
namespace Go.Vc
open Go Go.Proofs
set_option maxRecDepth 100000
set_option maxHeartbeats 16000000 in
theorem moves_spec (p : PG) (x : IN) (zf : Nat) (lf : List PV) (tf : Bool) (zc : Nat) (lc : List PV) (tc : Bool) (hp : PGA p zf lf zc lc) (Post : PV → List (Nat × Blk) → Prop)
  (h : Post (.tup [.int .i64 (movesM p x).1, .int .i64 (movesM p x).2]) []) : Spec K 47 [.agg (pgc zf lf tf zc lc tc), INP x] [] Post := by
 obtain ⟨op, a, b⟩ := x
 show Spec K 47 [.agg (pgc zf lf tf zc lc tc), .agg [.int .i64 op, .int .i64 a, .int .i64 b]] [] Post
 have key : ∀ u v : Int, (u, v) = movesM p ⟨op, a, b⟩ → Post (.tup [.int .i64 u, .int .i64 v]) [] := fun u v e => by rw [← e] at h; exact h
 clear h
 refine is47.specW K_ok K_mix false (by simp) (by simp [keys]) ?_
 have hf := FPs_len hp.fs
 have hc := VPs_len hp.cs
 by_cases h21 : op = 21
 ·subst h21
  (conv => whnf); repeat ((first | (apply And.intro;· exact Cl4) | apply T1 | apply T2 | apply T3 | apply T4 | apply T6 | apply T5); conv => whnf)
  rw [hc]
  by_cases ha : 0 ≤ a ∧ a < (p.consts.length : Int)
  ·have hlt : a.toNat < p.consts.length := by omega
   obtain ⟨y1, mp, u1, o1, y2, u2, o2, hq, hv, g1, g2, g3⟩ := (VPs_nth hp.cs hlt).out
   have hz : zc = 5 ∨ lc = [] := hp.zc.imp id fun h => by rw [h] at hc; exact List.length_eq_zero_iff.1 hc
   rw [decide_eq_true ha.1, decide_eq_true ha.2]
   (conv => whnf); repeat ((first | (apply And.intro;· exact Cl4) | apply T1 | apply T2 | apply T3 | apply T4 | apply T6 | apply T5); conv => whnf)
   rw [hq]
   (conv => whnf); repeat ((first | (apply And.intro;· exact Cl4) | apply T1 | apply T2 | apply T3 | apply T4 | apply T6 | apply T5); conv => whnf)
   refine key _ _ ?_
   have hm := VPs_len hv
   rw [hm]
   show _ = movesM p ⟨21, a, b⟩
   unfold movesM
   simp [ha.1, List.getElem?_eq_getElem hlt]
  ·have : (bif decide (0 ≤ a) then decide (a < (p.consts.length : Int)) else false) = false := by
    by_cases h0 : 0 ≤ a
    ·rw [decide_eq_true h0, decide_eq_false (fun h => ha ⟨h0, h⟩)]; rfl
    ·rw [decide_eq_false h0]; rfl
   refine Both.F this ?_
   (conv => whnf); repeat ((first | (apply And.intro;· exact Cl4) | apply T1 | apply T2 | apply T3 | apply T4 | apply T6 | apply T5); conv => whnf)
   refine key _ _ ?_
   unfold movesM
   by_cases h0 : 0 ≤ a
   ·have : p.consts.length ≤ a.toNat := by omega
    simp [h0, List.getElem?_eq_none this]
   ·simp [h0]
 by_cases h29 : op = 29
 ·subst h29
  (conv => whnf); repeat ((first | (apply And.intro;· exact Cl4) | apply T1 | apply T2 | apply T3 | apply T4 | apply T6 | apply T5); conv => whnf)
  rw [hf]
  by_cases ha : 0 ≤ a ∧ a < (p.funcs.length : Int)
  ·have hlt : a.toNat < p.funcs.length := by omega
   obtain ⟨z, t, o, hq, _⟩ := FPs_nth hp.fs hlt
   have hz : zf = 4 ∨ lf = [] := hp.zf.imp id fun h => by rw [h] at hf; exact List.length_eq_zero_iff.1 hf
   rw [decide_eq_true ha.1, decide_eq_true ha.2]
   (conv => whnf); repeat ((first | (apply And.intro;· exact Cl4) | apply T1 | apply T2 | apply T3 | apply T4 | apply T6 | apply T5); conv => whnf)
   rw [hq]
   (conv => whnf); repeat ((first | (apply And.intro;· exact Cl4) | apply T1 | apply T2 | apply T3 | apply T4 | apply T6 | apply T5); conv => whnf)
   refine key _ _ ?_
   unfold movesM
   simp [ha.1, List.getElem?_eq_getElem hlt]
  ·have : (bif decide (0 ≤ a) then decide (a < (p.funcs.length : Int)) else false) = false := by
    by_cases h0 : 0 ≤ a
    ·rw [decide_eq_true h0, decide_eq_false (fun h => ha ⟨h0, h⟩)]; rfl
    ·rw [decide_eq_false h0]; rfl
   refine Both.F this ?_
   (conv => whnf); repeat ((first | (apply And.intro;· exact Cl4) | apply T1 | apply T2 | apply T3 | apply T4 | apply T6 | apply T5); conv => whnf)
   refine key _ _ ?_
   unfold movesM
   by_cases h0 : 0 ≤ a
   ·have : p.funcs.length ≤ a.toNat := by omega
    simp [h0, List.getElem?_eq_none this]
   ·simp [h0]
 have e21 : (op == 21) = false := by simpa using h21
 have e29 : (op == 29) = false := by simpa using h29
 (conv => whnf); repeat' (first | ((first | (apply And.intro;· exact Cl4) | apply T1 | apply T2 | apply T3 | apply T4 | apply T6 | apply T5 | refine Both.T (by assumption) ?_ | refine Both.F (by assumption) ?_); conv => whnf) | (refine Both.mk (fun hb => ?_) (fun hb => ?_) <;> conv => whnf))
 all_goals (refine key _ _ ?_; unfold movesM; grind)
end Go.Vc
namespace Go.Vc
open Go Go.Proofs
set_option maxRecDepth 100000
theorem inB_eq (a : Int) (n m : Nat) (h : n = m) : (bif decide (0 ≤ a) then decide (a < (n : Int)) else false) = inB a m := by
 subst h
 unfold inB
 cases decide (0 ≤ a) <;> rfl
theorem zlc {p : PG} {zf zc : Nat} {lf lc : List PV} (hp : PGA p zf lf zc lc) : zc = 5 ∨ lc = [] :=
 hp.zc.imp id fun h => by have := VPs_len hp.cs; rw [h] at this; exact List.length_eq_zero_iff.1 this
theorem zlf {p : PG} {zf zc : Nat} {lf lc : List PV} (hp : PGA p zf lf zc lc) : zf = 4 ∨ lf = [] :=
 hp.zf.imp id fun h => by have := FPs_len hp.fs; rw [h] at this; exact List.length_eq_zero_iff.1 this
set_option maxHeartbeats 4000000 in
theorem text_spec (p : PG) (n : Int) (zf : Nat) (lf : List PV) (tf : Bool) (zc : Nat) (lc : List PV) (tc : Bool) (hp : PGA p zf lf zc lc) (Post : PV → List (Nat × Blk) → Prop)
  (h : Post (.tup [.str (textM p n).1, .bool (textM p n).2]) [(0, .box (pgc zf lf tf zc lc tc))]) : Spec K 120 [.ptr 0 0, .int .i64 n] [(0, .box (pgc zf lf tf zc lc tc))] Post := by
 refine is120.specW K_ok K_mix false (by simp) (by simp [keys]) ?_
 have hc := VPs_len hp.cs
 have hz := zlc hp
 unfold textM at h
 (conv => whnf); repeat ((first | (apply And.intro;· exact Cl4) | apply T1 | apply T2 | apply T3 | apply T4 | apply T6 | apply T5); conv => whnf)
 rw [hc]
 by_cases h0 : 0 ≤ n
 ·rw [if_pos h0] at h
  rw [decide_eq_false (show ¬ n < 0 by omega)]
  (conv => whnf); repeat ((first | (apply And.intro;· exact Cl4) | apply T1 | apply T2 | apply T3 | apply T4 | apply T6 | apply T5); conv => whnf)
  by_cases h1 : n < p.consts.length
  ·have hlt : n.toNat < p.consts.length := by omega
   rw [List.getElem?_eq_getElem hlt] at h
   obtain ⟨y1, mp, u1, o1, y2, u2, o2, hq, hv, g1, g2, g3⟩ := (VPs_nth hp.cs hlt).out
   rw [decide_eq_false (show ¬ (p.consts.length : Int) ≤ n by omega)]
   (conv => whnf); repeat ((first | (apply And.intro;· exact Cl4) | apply T1 | apply T2 | apply T3 | apply T4 | apply T6 | apply T5); conv => whnf)
   rw [hq]
   (conv => whnf); repeat ((first | (apply And.intro;· exact Cl4) | apply T1 | apply T2 | apply T3 | apply T4 | apply T6 | apply T5); conv => whnf)
   (conv => whnf); repeat' (first | ((first | (apply And.intro;· exact Cl4) | apply T1 | apply T2 | apply T3 | apply T4 | apply T6 | apply T5); conv => whnf) | (fail; conv => whnf) | ((refine Both.mk ?_ ?_ <;> fail_if_success (intro _)) <;> conv => whnf))
   all_goals exact h
  ·rw [List.getElem?_eq_none (by omega)] at h
   rw [decide_eq_true (show (p.consts.length : Int) ≤ n by omega)]
   (conv => whnf); repeat ((first | (apply And.intro;· exact Cl4) | apply T1 | apply T2 | apply T3 | apply T4 | apply T6 | apply T5); conv => whnf)
   exact h
 ·rw [if_neg h0] at h
  rw [decide_eq_true (show n < 0 by omega)]
  (conv => whnf); repeat ((first | (apply And.intro;· exact Cl4) | apply T1 | apply T2 | apply T3 | apply T4 | apply T6 | apply T5); conv => whnf)
  exact h
theorem name_spec (s : List UInt8) (hs : s.length ≤ 1000000000) (Post : PV → List (Nat × Blk) → Prop) (h : Post (.bool (nameM s)) []) : Spec K 69 [.str s] [] Post := by
 refine is69.specW K_ok K_mix false (by simp) (by simp [keys]) ?_
 (conv => whnf); repeat ((first | (apply And.intro;· exact Cl4) | apply T1 | apply T2 | apply T3 | apply T4 | apply T6 | apply T5); conv => whnf)
 refine ⟨by show ((80 : Nat) : Int) * 1 ≤ _; omega, ?_⟩
 (conv => whnf); repeat ((first | (apply And.intro;· exact Cl4) | apply T1 | apply T2 | apply T3 | apply T4 | apply T6 | apply T5); conv => whnf)
 refine check_spec (.mk 5 0 [] [Vz] [s]) 5 1 [.agg [.int .i64 0, .int .i64 0, .str [], .sl 0 [] true false, .sl 0 [] true false]] _ _ _ ⟨?_, .inl rfl, .inl rfl, (show i64 5 ∧ i64 0 from ⟨⟨by decide, by decide⟩, ⟨by decide, by decide⟩⟩).2, ?_⟩ ?_
 ·exact ⟨_, _, rfl, ⟨0, [], true, false, 0, true, false, rfl, rfl, .inr rfl, .inr rfl, ⟨by decide, by decide⟩⟩, rfl⟩
 ·simp only [bulkV, bulkVs, nsBulk, Vz, List.length_nil]; omega
 ·unfold nameM at h
  cases hm : mayV (.mk 5 0 [] [Vz] [s])
  ·rw [hm] at h
   (conv => whnf); repeat ((first | (apply And.intro;· exact Cl4) | apply T1 | apply T2 | apply T3 | apply T4 | apply T6 | apply T5); conv => whnf)
   exact h
  ·rw [hm] at h
   (conv => whnf); repeat ((first | (apply And.intro;· exact Cl4) | apply T1 | apply T2 | apply T3 | apply T4 | apply T6 | apply T5); conv => whnf)
   exact h
theorem named_p (p : PG) (n : Int) (zf : Nat) (lf : List PV) (tf : Bool) (zc : Nat) (lc : List PV) (tc : Bool) (hp : PGA p zf lf zc lc) (Post : PV → List (Nat × Blk) → Prop)
  (h : Post (.bool (namedM p n)) [(0, .box (pgc zf lf tf zc lc tc))]) : Spec K 119 [.ptr 0 0, .int .i64 n] [(0, .box (pgc zf lf tf zc lc tc))] Post := by
 refine is119.specW K_ok K_mix false (by simp) (by simp [keys]) ?_
 (conv => whnf); repeat ((first | (apply And.intro;· exact Cl4) | apply T1 | apply T2 | apply T3 | apply T4 | apply T6 | apply T5); conv => whnf)
 refine text_spec p n zf lf tf zc lc tc hp _ ?_
 unfold namedM at h
 have ht : (textM p n).1.length ≤ 1000000000 := by
  unfold textM
  split
  ·split
   ·rename_i v hv
    have := hp.cb v (List.mem_of_getElem? hv)
    obtain ⟨k, n, s, l, ns⟩ := v
    have h2 := this.2
    simp only [bulkV] at h2
    show s.length ≤ _
    omega
   ·simp
  ·simp
 generalize textM p n = r at h ht
 obtain ⟨s, b⟩ := r
 (conv => whnf); repeat ((first | (apply And.intro;· exact Cl4) | apply T1 | apply T2 | apply T3 | apply T4 | apply T6 | apply T5); conv => whnf)
 cases b
 ·(conv => whnf); repeat ((first | (apply And.intro;· exact Cl4) | apply T1 | apply T2 | apply T3 | apply T4 | apply T6 | apply T5); conv => whnf)
  exact h
 ·(conv => whnf); repeat ((first | (apply And.intro;· exact Cl4) | apply T1 | apply T2 | apply T3 | apply T4 | apply T6 | apply T5); conv => whnf)
  refine name_spec s ht _ ?_
  (conv => whnf); repeat ((first | (apply And.intro;· exact Cl4) | apply T1 | apply T2 | apply T3 | apply T4 | apply T6 | apply T5); conv => whnf)
  exact h
end Go.Vc
namespace Go.Vc
open Go Go.Proofs
set_option maxRecDepth 100000
theorem value_site (p : PG) (f : FD) (x : IN) (zf : Nat) (lf : List PV) (tf : Bool) (zc : Nat) (lc : List PV) (tc : Bool) (z : Nat) (t : Bool) (hp : PGA p zf lf zc lc) (Post : PV → List (Nat × Blk) → Prop)
  (h : Post (.bool (inB x.a p.consts.length)) [(0, .box (pgc zf lf tf zc lc tc)), (1, .box (fdc f z t))]) : Spec K 94 [.agg [.ptr 0 0, .ptr 1 0, .int .i64 x.op, .int .i64 x.a, .int .i64 x.b]] [(0, .box (pgc zf lf tf zc lc tc)), (1, .box (fdc f z t))] Post := by
 refine is94.specW K_ok K_mix false (by simp) (by simp [keys]) ?_
 have hc := VPs_len hp.cs
 have hf := FPs_len hp.fs
 have hz := zlc hp
 have hzf := zlf hp
 (conv => whnf); repeat' (first | ((first | (apply And.intro;· exact Cl4) | apply T1 | apply T2 | apply T3 | apply T4 | apply T6 | apply T5); conv => whnf) | (fail; conv => whnf) | ((refine Both.mk ?_ ?_ <;> fail_if_success (intro _)) <;> conv => whnf))
 all_goals (rw [inB_eq _ _ _ hc]; exact h)
theorem local_site (p : PG) (f : FD) (x : IN) (zf : Nat) (lf : List PV) (tf : Bool) (zc : Nat) (lc : List PV) (tc : Bool) (z : Nat) (t : Bool) (hp : PGA p zf lf zc lc) (Post : PV → List (Nat × Blk) → Prop)
  (h : Post (.bool (decide (0 ≤ x.a) && decide (x.a < f.locals))) [(0, .box (pgc zf lf tf zc lc tc)), (1, .box (fdc f z t))]) : Spec K 95 [.agg [.ptr 0 0, .ptr 1 0, .int .i64 x.op, .int .i64 x.a, .int .i64 x.b]] [(0, .box (pgc zf lf tf zc lc tc)), (1, .box (fdc f z t))] Post := by
 refine is95.specW K_ok K_mix false (by simp) (by simp [keys]) ?_
 have hc := VPs_len hp.cs
 have hf := FPs_len hp.fs
 have hz := zlc hp
 have hzf := zlf hp
 have e : (bif decide (0 ≤ x.a) then decide (x.a < f.locals) else false) = (decide (0 ≤ x.a) && decide (x.a < f.locals)) := by cases decide (0 ≤ x.a) <;> rfl
 (conv => whnf); repeat' (first | ((first | (apply And.intro;· exact Cl4) | apply T1 | apply T2 | apply T3 | apply T4 | apply T6 | apply T5); conv => whnf) | (fail; conv => whnf) | ((refine Both.mk ?_ ?_ <;> fail_if_success (intro _)) <;> conv => whnf))
 all_goals (rw [e]; exact h)
theorem count_site (p : PG) (f : FD) (x : IN) (zf : Nat) (lf : List PV) (tf : Bool) (zc : Nat) (lc : List PV) (tc : Bool) (z : Nat) (t : Bool) (hp : PGA p zf lf zc lc) (Post : PV → List (Nat × Blk) → Prop)
  (h : Post (.bool (decide (0 ≤ x.a) && decide (x.a ≤ 8))) [(0, .box (pgc zf lf tf zc lc tc)), (1, .box (fdc f z t))]) : Spec K 96 [.agg [.ptr 0 0, .ptr 1 0, .int .i64 x.op, .int .i64 x.a, .int .i64 x.b]] [(0, .box (pgc zf lf tf zc lc tc)), (1, .box (fdc f z t))] Post := by
 refine is96.specW K_ok K_mix false (by simp) (by simp [keys]) ?_
 have hc := VPs_len hp.cs
 have hf := FPs_len hp.fs
 have hz := zlc hp
 have hzf := zlf hp
 have e : (bif decide (0 ≤ x.a) then decide (x.a ≤ 8) else false) = (decide (0 ≤ x.a) && decide (x.a ≤ 8)) := by cases decide (0 ≤ x.a) <;> rfl
 (conv => whnf); repeat ((first | (apply And.intro;· exact Cl4) | apply T1 | apply T2 | apply T3 | apply T4 | apply T6 | apply T5); conv => whnf)
 rw [e]
 exact h
theorem place_site (p : PG) (f : FD) (x : IN) (zf : Nat) (lf : List PV) (tf : Bool) (zc : Nat) (lc : List PV) (tc : Bool) (z : Nat) (t : Bool) (hp : PGA p zf lf zc lc) (Post : PV → List (Nat × Blk) → Prop)
  (h : Post (.bool (inB x.a f.code.length)) [(0, .box (pgc zf lf tf zc lc tc)), (1, .box (fdc f z t))]) : Spec K 100 [.agg [.ptr 0 0, .ptr 1 0, .int .i64 x.op, .int .i64 x.a, .int .i64 x.b]] [(0, .box (pgc zf lf tf zc lc tc)), (1, .box (fdc f z t))] Post := by
 refine is100.specW K_ok K_mix false (by simp) (by simp [keys]) ?_
 have hc := VPs_len hp.cs
 have hf := FPs_len hp.fs
 have hz := zlc hp
 have hzf := zlf hp
 (conv => whnf); repeat' (first | ((first | (apply And.intro;· exact Cl4) | apply T1 | apply T2 | apply T3 | apply T4 | apply T6 | apply T5); conv => whnf) | (fail; conv => whnf) | ((refine Both.mk ?_ ?_ <;> fail_if_success (intro _)) <;> conv => whnf))
 all_goals (rw [inB_eq _ _ _ (List.length_map _)]; exact h)
theorem fn_site (p : PG) (f : FD) (x : IN) (zf : Nat) (lf : List PV) (tf : Bool) (zc : Nat) (lc : List PV) (tc : Bool) (z : Nat) (t : Bool) (hp : PGA p zf lf zc lc) (Post : PV → List (Nat × Blk) → Prop)
  (h : Post (.bool (inB x.a p.funcs.length)) [(0, .box (pgc zf lf tf zc lc tc)), (1, .box (fdc f z t))]) : Spec K 101 [.agg [.ptr 0 0, .ptr 1 0, .int .i64 x.op, .int .i64 x.a, .int .i64 x.b]] [(0, .box (pgc zf lf tf zc lc tc)), (1, .box (fdc f z t))] Post := by
 refine is101.specW K_ok K_mix false (by simp) (by simp [keys]) ?_
 have hc := VPs_len hp.cs
 have hf := FPs_len hp.fs
 have hz := zlc hp
 have hzf := zlf hp
 (conv => whnf); repeat' (first | ((first | (apply And.intro;· exact Cl4) | apply T1 | apply T2 | apply T3 | apply T4 | apply T6 | apply T5); conv => whnf) | (fail; conv => whnf) | ((refine Both.mk ?_ ?_ <;> fail_if_success (intro _)) <;> conv => whnf))
 all_goals (rw [inB_eq _ _ _ hf]; exact h)
theorem none_site (p : PG) (f : FD) (x : IN) (zf : Nat) (lf : List PV) (tf : Bool) (zc : Nat) (lc : List PV) (tc : Bool) (z : Nat) (t : Bool) (hp : PGA p zf lf zc lc) (Post : PV → List (Nat × Blk) → Prop)
  (h : Post (.bool (x.a == 0)) [(0, .box (pgc zf lf tf zc lc tc)), (1, .box (fdc f z t))]) : Spec K 103 [.agg [.ptr 0 0, .ptr 1 0, .int .i64 x.op, .int .i64 x.a, .int .i64 x.b]] [(0, .box (pgc zf lf tf zc lc tc)), (1, .box (fdc f z t))] Post := by
 refine is103.specW K_ok K_mix false (by simp) (by simp [keys]) ?_
 have hc := VPs_len hp.cs
 have hf := FPs_len hp.fs
 have hz := zlc hp
 have hzf := zlf hp
 (conv => whnf); repeat ((first | (apply And.intro;· exact Cl4) | apply T1 | apply T2 | apply T3 | apply T4 | apply T6 | apply T5); conv => whnf)
 exact h
theorem field_site (p : PG) (f : FD) (x : IN) (zf : Nat) (lf : List PV) (tf : Bool) (zc : Nat) (lc : List PV) (tc : Bool) (z : Nat) (t : Bool) (hp : PGA p zf lf zc lc) (Post : PV → List (Nat × Blk) → Prop)
  (h : Post (.bool (namedM p x.a)) [(0, .box (pgc zf lf tf zc lc tc)), (1, .box (fdc f z t))]) : Spec K 98 [.agg [.ptr 0 0, .ptr 1 0, .int .i64 x.op, .int .i64 x.a, .int .i64 x.b]] [(0, .box (pgc zf lf tf zc lc tc)), (1, .box (fdc f z t))] Post := by
 refine is98.specW K_ok K_mix false (by simp) (by simp [keys]) ?_
 have hc := VPs_len hp.cs
 have hf := FPs_len hp.fs
 have hz := zlc hp
 have hzf := zlf hp
 (conv => whnf); repeat ((first | (apply And.intro;· exact Cl4) | apply T1 | apply T2 | apply T3 | apply T4 | apply T6 | apply T5); conv => whnf)
 refine named_p p x.a zf lf tf zc lc tc hp _ ?_
 (conv => whnf); repeat ((first | (apply And.intro;· exact Cl4) | apply T1 | apply T2 | apply T3 | apply T4 | apply T6 | apply T5); conv => whnf)
 exact h
end Go.Vc
namespace Go.Vc
open Go Go.Proofs
set_option maxRecDepth 100000
def sh (i : Nat) (r : Int) : Int := if r = -1 then -1 else r + i
theorem idxL_ge {α : Type} (P : α → Bool) : ∀ l, -1 ≤ idxL P l ∧ idxL P l < l.length
 | [] => by simp [idxL]
 | f :: r => by
  have := idxL_ge P r
  simp only [idxL, List.length_cons]
  split
  ·omega
  ·split <;> omega
theorem idxL_cons {α : Type} (P : α → Bool) (f : α) (r : List α) : idxL P (f :: r) = if P f = true then 0 else if idxL P r = -1 then -1 else idxL P r + 1 := rfl
theorem idxL_any {α : Type} (P : α → Bool) : ∀ l, decide (0 ≤ idxL P l) = l.any P
 | [] => rfl
 | f :: r => by
  have h := idxL_any P r
  have hg := idxL_ge P r
  rw [List.any_cons, ← h, Bool.eq_iff_iff, decide_eq_true_eq, idxL_cons, Bool.or_eq_true, decide_eq_true_eq]
  by_cases hp : P f = true
  ·rw [if_pos hp]; simp [hp]
  ·rw [if_neg hp]
   split <;> simp [hp] <;> omega
theorem sh_step {α : Type} {P : α → Bool} {l : List α} {i : Nat} (hi : i < l.length) (hp : P l[i] = false) : sh i (idxL P (l.drop i)) = sh (i + 1) (idxL P (l.drop (i + 1))) := by
 rw [List.drop_eq_getElem_cons hi]
 have hg := idxL_ge P (l.drop (i + 1))
 simp only [idxL, hp, sh]
 generalize idxL P (l.drop (i + 1)) = r at hg
 by_cases hr : r = -1
 ·simp [hr]
 ·simp [hr]
  split <;> omega
theorem sh_hit {α : Type} {P : α → Bool} {l : List α} {i : Nat} (hi : i < l.length) (hp : P l[i] = true) : sh i (idxL P (l.drop i)) = i := by
 rw [List.drop_eq_getElem_cons hi]
 simp [idxL, hp, sh]
theorem sh_end {α : Type} {P : α → Bool} {l : List α} : sh l.length (idxL P (l.drop l.length)) = -1 := by
 rw [List.drop_length]; rfl
theorem sh_zero {α : Type} {P : α → Bool} {l : List α} : sh 0 (idxL P (l.drop 0)) = idxL P l := by
 rw [List.drop_zero]; unfold sh; split <;> omega
theorem long_spec (f : FD) (z : Nat) (t : Bool) (Post : PV → List (Nat × Blk) → Prop) (h : Post (.bool (decide (512 < f.code.length))) []) : Spec K 33 [.agg (fdc f z t)] [] Post := by
 refine is33.specW K_ok K_mix false (by simp) (by simp [keys]) ?_
 (conv => whnf); repeat ((first | (apply And.intro;· exact Cl4) | apply T1 | apply T2 | apply T3 | apply T4 | apply T6 | apply T5); conv => whnf)
 rw [List.length_map]
 rw [show decide (512 < (f.code.length : Int)) = decide (512 < f.code.length) from decide_eq_decide.2 (by omega)]
 exact h
theorem odd_c (v : V) (z1 z2 : Nat) (lp : List PV) (t1 t2 : Bool) (a : VA v z1 lp z2) (Post : PV → List (Nat × Blk) → Prop) (h : Post (.bool (!mayV v)) []) : Spec K 35 [.agg (vc v z1 lp t1 z2 t2)] [] Post := by
 refine is35.specW K_ok K_mix false (by simp) (by simp [keys]) ?_
 (conv => whnf); repeat ((first | (apply And.intro;· exact Cl4) | apply T1 | apply T2 | apply T3 | apply T4 | apply T6 | apply T5); conv => whnf)
 refine check_spec v z1 z2 lp t1 t2 _ a ?_
 cases hm : mayV v
 ·rw [hm] at h
  (conv => whnf); repeat ((first | (apply And.intro;· exact Cl4) | apply T1 | apply T2 | apply T3 | apply T4 | apply T6 | apply T5); conv => whnf)
  exact h
 ·rw [hm] at h
  (conv => whnf); repeat ((first | (apply And.intro;· exact Cl4) | apply T1 | apply T2 | apply T3 | apply T4 | apply T6 | apply T5); conv => whnf)
  exact h
theorem same_c (f : FD) (z : Nat) (t : Bool) (s : List UInt8) (Post : PV → List (Nat × Blk) → Prop) (h : Post (.bool (f.name == s)) [(0, .box [.str s])]) : Spec K 79 [.agg (fdc f z t), .ptr 0 0] [(0, .box [.str s])] Post := by
 refine is79.specW K_ok K_mix false (by simp) (by simp [keys]) ?_
 (conv => whnf); repeat ((first | (apply And.intro;· exact Cl4) | apply T1 | apply T2 | apply T3 | apply T4 | apply T6 | apply T5); conv => whnf)
 exact h
set_option maxHeartbeats 4000000 in
theorem index_long  (l : List FD) (z : Nat) (lp : List PV) (t : Bool) (hl : FPs l lp) (hz : z = 4 ∨ l = []) (hn : l.length ≤ 1000000000) (Post : PV → List (Nat × Blk) → Prop) (h : Post (.int .i64 (idxL (fun f => decide (512 < f.code.length)) l)) []) : Spec K 67 [.sl z lp t true, .fn (.func 33) [] []] [] Post := by
 refine is67.specW K_ok K_mix false (by simp) (by simp [keys]) ?_
 have hlen := FPs_len hl
 have hz2 : z = 4 ∨ lp = [] := hz.imp id fun h => by rw [h] at hlen; exact List.length_eq_zero_iff.1 hlen
 (conv => whnf); repeat ((first | (apply And.intro;· exact Cl4) | apply T1 | apply T2 | apply T3 | apply T4 | apply T6 | apply T5); conv => whnf)
 rw [hlen]
 refine ⟨Nat, fun i => ⟨19, [(8, .int .i64 i), (7, .int .i64 l.length), (1, .fn (.func 33) [] []), (0, .sl z lp t true)], [], []⟩, fun i => i ≤ l.length ∧ idxL (fun f => decide (512 < f.code.length)) l = sh i (idxL (fun f => decide (512 < f.code.length)) (l.drop i)), fun i => l.length - i, ⟨[], 0, ⟨Nat.zero_le _, sh_zero.symm⟩, ?_⟩, fun i hI => ?_⟩
 ·simp [meets, ghosts, St.le, St.get, look, keys, PV.labs, labsL, lookB, Blk.labs]
 ·obtain ⟨hi, hin⟩ := hI
  conv => (arg 5; dsimp only)
  (conv => whnf); repeat ((first | (apply And.intro;· exact Cl4) | apply T1 | apply T2 | apply T3 | apply T4 | apply T6 | apply T5); conv => whnf)
  by_cases hix : i < l.length
  ·have hilp : i < lp.length := by omega
   rw [decide_eq_true (show (i : Int) < (l.length : Int) by omega)]
   (conv => whnf); repeat ((first | (apply And.intro;· exact Cl4) | apply T1 | apply T2 | apply T3 | apply T4 | apply T6 | apply T5); conv => whnf)
   obtain ⟨y, u, o, hq, hy⟩ := FPs_nth hl hix
   rw [Int.toNat_natCast, hq]
   (conv => whnf); repeat ((first | (apply And.intro;· exact Cl4) | apply T1 | apply T2 | apply T3 | apply T4 | apply T6 | apply T5); conv => whnf)
   refine long_spec l[i] _ _ _ ?_
   cases hp : (fun f => decide (512 < f.code.length)) l[i]
   ·refine Both.F hp ?_
    (conv => whnf); repeat ((first | (apply And.intro;· exact Cl4) | apply T1 | apply T2 | apply T3 | apply T4 | apply T6 | apply T5); conv => whnf)
    rw [wrap64 (n := (i : Int) + 1) (by omega) (by omega)]
    refine ⟨[], i + 1, ⟨hix, by rw [hin]; exact sh_step hix hp⟩, by show l.length - (i + 1) < l.length - i; omega, ?_⟩
    simp [meets, ghosts, St.le, St.get, look, keys, PV.labs, labsL, lookB, Blk.labs]
   ·refine Both.T hp ?_
    (conv => whnf); repeat ((first | (apply And.intro;· exact Cl4) | apply T1 | apply T2 | apply T3 | apply T4 | apply T6 | apply T5); conv => whnf)
    rw [hin, sh_hit hix hp] at h
    exact h
  ·obtain rfl : i = l.length := by omega
   rw [decide_eq_false (show ¬ (l.length : Int) < (l.length : Int) by omega)]
   (conv => whnf); repeat ((first | (apply And.intro;· exact Cl4) | apply T1 | apply T2 | apply T3 | apply T4 | apply T6 | apply T5); conv => whnf)
   rw [hin, sh_end] at h
   exact h
set_option maxHeartbeats 4000000 in
theorem index_name (s : List UInt8) (l : List FD) (z : Nat) (lp : List PV) (t : Bool) (hl : FPs l lp) (hz : z = 4 ∨ l = []) (hn : l.length ≤ 1000000000) (Post : PV → List (Nat × Blk) → Prop) (h : Post (.int .i64 (idxL (fun f => f.name == s) l)) [(0, .box [.str s])]) : Spec K 67 [.sl z lp t true, .fn (.func 79) [] [.ptr 0 0]] [(0, .box [.str s])] Post := by
 refine is67.specW K_ok K_mix false (by simp) (by simp [keys]) ?_
 have hlen := FPs_len hl
 have hz2 : z = 4 ∨ lp = [] := hz.imp id fun h => by rw [h] at hlen; exact List.length_eq_zero_iff.1 hlen
 (conv => whnf); repeat ((first | (apply And.intro;· exact Cl4) | apply T1 | apply T2 | apply T3 | apply T4 | apply T6 | apply T5); conv => whnf)
 rw [hlen]
 refine ⟨Nat, fun i => ⟨19, [(8, .int .i64 i), (7, .int .i64 l.length), (1, .fn (.func 79) [] [.ptr 0 0]), (0, .sl z lp t true)], [(0, .box [.str s])], [0]⟩, fun i => i ≤ l.length ∧ idxL (fun f => f.name == s) l = sh i (idxL (fun f => f.name == s) (l.drop i)), fun i => l.length - i, ⟨[], 0, ⟨Nat.zero_le _, sh_zero.symm⟩, ?_⟩, fun i hI => ?_⟩
 ·simp [meets, ghosts, St.le, St.get, look, keys, PV.labs, labsL, lookB, Blk.labs]
 ·obtain ⟨hi, hin⟩ := hI
  conv => (arg 5; dsimp only)
  (conv => whnf); repeat ((first | (apply And.intro;· exact Cl4) | apply T1 | apply T2 | apply T3 | apply T4 | apply T6 | apply T5); conv => whnf)
  by_cases hix : i < l.length
  ·have hilp : i < lp.length := by omega
   rw [decide_eq_true (show (i : Int) < (l.length : Int) by omega)]
   (conv => whnf); repeat ((first | (apply And.intro;· exact Cl4) | apply T1 | apply T2 | apply T3 | apply T4 | apply T6 | apply T5); conv => whnf)
   obtain ⟨y, u, o, hq, hy⟩ := FPs_nth hl hix
   rw [Int.toNat_natCast, hq]
   (conv => whnf); repeat ((first | (apply And.intro;· exact Cl4) | apply T1 | apply T2 | apply T3 | apply T4 | apply T6 | apply T5); conv => whnf)
   refine same_c l[i] _ _ s _ ?_
   cases hp : (fun f => f.name == s) l[i]
   ·refine Both.F hp ?_
    (conv => whnf); repeat ((first | (apply And.intro;· exact Cl4) | apply T1 | apply T2 | apply T3 | apply T4 | apply T6 | apply T5); conv => whnf)
    rw [wrap64 (n := (i : Int) + 1) (by omega) (by omega)]
    refine ⟨[], i + 1, ⟨hix, by rw [hin]; exact sh_step hix hp⟩, by show l.length - (i + 1) < l.length - i; omega, ?_⟩
    simp [meets, ghosts, St.le, St.get, look, keys, PV.labs, labsL, lookB, Blk.labs]
   ·refine Both.T hp ?_
    (conv => whnf); repeat ((first | (apply And.intro;· exact Cl4) | apply T1 | apply T2 | apply T3 | apply T4 | apply T6 | apply T5); conv => whnf)
    rw [hin, sh_hit hix hp] at h
    exact h
  ·obtain rfl : i = l.length := by omega
   rw [decide_eq_false (show ¬ (l.length : Int) < (l.length : Int) by omega)]
   (conv => whnf); repeat ((first | (apply And.intro;· exact Cl4) | apply T1 | apply T2 | apply T3 | apply T4 | apply T6 | apply T5); conv => whnf)
   rw [hin, sh_end] at h
   exact h
set_option maxHeartbeats 4000000 in
theorem index_odd  (l : List V) (z : Nat) (lp : List PV) (t : Bool) (hl : VPs l lp) (hz : z = 5 ∨ l = []) (hn : l.length ≤ 1000000000) (hb : ∀ v ∈ l, i64 v.n ∧ bulkV v ≤ 1000000000) (Post : PV → List (Nat × Blk) → Prop) (h : Post (.int .i64 (idxL (fun v => !mayV v) l)) []) : Spec K 70 [.sl z lp t true, .fn (.func 35) [] []] [] Post := by
 refine is70.specW K_ok K_mix false (by simp) (by simp [keys]) ?_
 have hlen := VPs_len hl
 have hz2 : z = 5 ∨ lp = [] := hz.imp id fun h => by rw [h] at hlen; exact List.length_eq_zero_iff.1 hlen
 (conv => whnf); repeat ((first | (apply And.intro;· exact Cl4) | apply T1 | apply T2 | apply T3 | apply T4 | apply T6 | apply T5); conv => whnf)
 rw [hlen]
 refine ⟨Nat, fun i => ⟨19, [(8, .int .i64 i), (7, .int .i64 l.length), (1, .fn (.func 35) [] []), (0, .sl z lp t true)], [], []⟩, fun i => i ≤ l.length ∧ idxL (fun v => !mayV v) l = sh i (idxL (fun v => !mayV v) (l.drop i)), fun i => l.length - i, ⟨[], 0, ⟨Nat.zero_le _, sh_zero.symm⟩, ?_⟩, fun i hI => ?_⟩
 ·simp [meets, ghosts, St.le, St.get, look, keys, PV.labs, labsL, lookB, Blk.labs]
 ·obtain ⟨hi, hin⟩ := hI
  conv => (arg 5; dsimp only)
  (conv => whnf); repeat ((first | (apply And.intro;· exact Cl4) | apply T1 | apply T2 | apply T3 | apply T4 | apply T6 | apply T5); conv => whnf)
  by_cases hix : i < l.length
  ·have hilp : i < lp.length := by omega
   rw [decide_eq_true (show (i : Int) < (l.length : Int) by omega)]
   (conv => whnf); repeat ((first | (apply And.intro;· exact Cl4) | apply T1 | apply T2 | apply T3 | apply T4 | apply T6 | apply T5); conv => whnf)
   obtain ⟨y1, mp, u1, o1, y2, u2, o2, hq, hv, g1, g2, g3⟩ := (VPs_nth hl hix).out
   have hbv := hb l[i] (List.getElem_mem hix)
   rw [Int.toNat_natCast, hq]
   (conv => whnf); repeat ((first | (apply And.intro;· exact Cl4) | apply T1 | apply T2 | apply T3 | apply T4 | apply T6 | apply T5); conv => whnf)
   refine odd_c l[i] _ _ mp _ _ ⟨hv, g1, g2, hbv.1, by have := hbv.2; omega⟩ _ ?_
   cases hp : (fun v => !mayV v) l[i]
   ·refine Both.F hp ?_
    (conv => whnf); repeat ((first | (apply And.intro;· exact Cl4) | apply T1 | apply T2 | apply T3 | apply T4 | apply T6 | apply T5); conv => whnf)
    rw [wrap64 (n := (i : Int) + 1) (by omega) (by omega)]
    refine ⟨[], i + 1, ⟨hix, by rw [hin]; exact sh_step hix hp⟩, by show l.length - (i + 1) < l.length - i; omega, ?_⟩
    simp [meets, ghosts, St.le, St.get, look, keys, PV.labs, labsL, lookB, Blk.labs]
   ·refine Both.T hp ?_
    (conv => whnf); repeat ((first | (apply And.intro;· exact Cl4) | apply T1 | apply T2 | apply T3 | apply T4 | apply T6 | apply T5); conv => whnf)
    rw [hin, sh_hit hix hp] at h
    exact h
  ·obtain rfl : i = l.length := by omega
   rw [decide_eq_false (show ¬ (l.length : Int) < (l.length : Int) by omega)]
   (conv => whnf); repeat ((first | (apply And.intro;· exact Cl4) | apply T1 | apply T2 | apply T3 | apply T4 | apply T6 | apply T5); conv => whnf)
   rw [hin, sh_end] at h
   exact h
end Go.Vc
namespace Go.Vc
open Go Go.Proofs
set_option maxRecDepth 100000
theorem any_long (l : List FD) (z : Nat) (lp : List PV) (t : Bool) (hl : FPs l lp) (hz : z = 4 ∨ l = []) (hn : l.length ≤ 1000000000) (Post : PV → List (Nat × Blk) → Prop)
  (h : Post (.bool (l.any fun f => decide (512 < f.code.length))) []) : Spec K 34 [.sl z lp t true, .fn (.func 33) [] []] [] Post := by
 refine is34.specW K_ok K_mix false (by simp) (by simp [keys]) ?_
 (conv => whnf); repeat ((first | (apply And.intro;· exact Cl4) | apply T1 | apply T2 | apply T3 | apply T4 | apply T6 | apply T5); conv => whnf)
 refine index_long l z lp t hl hz hn _ ?_
 (conv => whnf); repeat ((first | (apply And.intro;· exact Cl4) | apply T1 | apply T2 | apply T3 | apply T4 | apply T6 | apply T5); conv => whnf)
 rw [idxL_any]
 exact h
theorem any_odd (l : List V) (z : Nat) (lp : List PV) (t : Bool) (hl : VPs l lp) (hz : z = 5 ∨ l = []) (hn : l.length ≤ 1000000000) (hb : ∀ v ∈ l, i64 v.n ∧ bulkV v ≤ 1000000000) (Post : PV → List (Nat × Blk) → Prop)
  (h : Post (.bool (l.any fun v => !mayV v)) []) : Spec K 39 [.sl z lp t true, .fn (.func 35) [] []] [] Post := by
 refine is39.specW K_ok K_mix false (by simp) (by simp [keys]) ?_
 (conv => whnf); repeat ((first | (apply And.intro;· exact Cl4) | apply T1 | apply T2 | apply T3 | apply T4 | apply T6 | apply T5); conv => whnf)
 refine index_odd l z lp t hl hz hn hb _ ?_
 (conv => whnf); repeat ((first | (apply And.intro;· exact Cl4) | apply T1 | apply T2 | apply T3 | apply T4 | apply T6 | apply T5); conv => whnf)
 rw [idxL_any]
 exact h
theorem find_spec (p : PG) (s : List UInt8) (zf : Nat) (lf : List PV) (tf : Bool) (zc : Nat) (lc : List PV) (tc : Bool) (hp : PGA p zf lf zc lc) (Post : PV → List (Nat × Blk) → Prop)
  (h : Post (.tup [.int .i64 (if 0 > findM p s then 0 else findM p s), .bool (decide (0 ≤ findM p s))]) []) : Spec K 46 [.agg (pgc zf lf tf zc lc tc), .str s] [] Post := by
 refine is46.specW K_ok K_mix false (by simp) (by simp [keys]) ?_
 (conv => whnf); repeat ((first | (apply And.intro;· exact Cl4) | apply T1 | apply T2 | apply T3 | apply T4 | apply T6 | apply T5); conv => whnf)
 refine index_name s p.funcs zf lf tf hp.fs hp.zf hp.nf _ ?_
 (conv => whnf); repeat ((first | (apply And.intro;· exact Cl4) | apply T1 | apply T2 | apply T3 | apply T4 | apply T6 | apply T5); conv => whnf)
 exact h
theorem VPs_rep : ∀ n, VPs (List.replicate n Vz) (List.replicate n (.agg [.int .i64 0, .int .i64 0, .str [], .sl 0 [] true false, .sl 0 [] true false]))
 | 0 => rfl
 | n + 1 => ⟨_, _, rfl, ⟨0, [], true, false, 0, true, false, rfl, rfl, .inr rfl, .inr rfl, ⟨by decide, by decide⟩⟩, VPs_rep n⟩
theorem bulk_rep : ∀ n, bulkVs (List.replicate n Vz) = n
 | 0 => rfl
 | n + 1 => by rw [List.replicate_succ, bulkVs, bulk_rep n]; simp [Vz, bulkV, nsBulk, bulkVs]; omega
theorem bulk_names : ∀ l : List V, nsBulk (l.map V.s) ≤ bulkVs l
 | [] => Nat.le_refl _
 | .mk k n s l ns :: r => by
  have := bulk_names r
  simp only [List.map_cons, nsBulk, bulkVs, bulkV, V.s]
  omega
theorem strs_app (a b : List (List UInt8)) : strs (a ++ b) = strs a ++ strs b := List.map_append ..
set_option maxHeartbeats 8000000 in
theorem record_spec (v : V) (z1 z2 : Nat) (lp : List PV) (t1 t2 : Bool) (a : VA v z1 lp z2) (hb : bulkV v ≤ 1000000000) (Post : PV → List (Nat × Blk) → Prop) (h : Post (.bool (recordM v)) []) : Spec K 118 [.agg (vc v z1 lp t1 z2 t2)] [] Post := by
 obtain ⟨k, n, s, l, ns⟩ := v
 have hl : VPs l lp := a.l
 have hz1 : z1 = 5 ∨ l = [] := a.z1
 have hlen := VPs_len hl
 have hz : z1 = 5 ∨ lp = [] := hz1.imp id fun h => by rw [h] at hlen; exact List.length_eq_zero_iff.1 hlen
 have hbl : bulkVs l ≤ 1000000000 := by simp only [bulkV] at hb; omega
 have hll := len_sizeVs l
 have hsb := sizes_bulk l
 simp only [vc, V.k, V.n, V.s, V.l, V.ns] at *
 have hze : zeroElem K 58 = .agg [.int .i64 0, .int .i64 0, .str [], .sl 0 [] true false, .sl 0 [] true false] := rfl
 have hk5 : K.size 9 = 1 := rfl
 refine is118.specW K_ok K_mix false (by simp) (by simp [keys]) ?_
 (conv => whnf); repeat ((first | (apply And.intro;· exact Cl4) | apply T1 | apply T2 | apply T3 | apply T4 | apply T6 | apply T5); conv => whnf)
 refine ⟨by rw [hlen]; show ((80 : Nat) : Int) * (l.length : Int) ≤ _; omega, ?_⟩
 (conv => whnf); repeat ((first | (apply And.intro;· exact Cl4) | apply T1 | apply T2 | apply T3 | apply T4 | apply T6 | apply T5); conv => whnf)
 rw [hlen]
 refine ⟨Nat, fun i => ⟨43, [(14, .int .i64 i), (13, .int .i64 l.length), (12, .sl z1 lp t1 true), (3, .ptr 2 0), (1, .ptr 0 0), (2, .bool false)],
  [(0, .box [.int .i64 k, .int .i64 n, .str s, .sl z1 lp t1 true, .sl z2 (strs ns) t2 true]), (1, .row 58 5 (List.replicate l.length (.agg [.int .i64 0, .int .i64 0, .str [], .sl 0 [] true false, .sl 0 [] true false])) false), (2, .box [.int .i64 5, .int .i64 0, .str [], .ref 5 1 0 l.length, .ref 1 3 0 i]), (3, .row 9 1 (strs ((l.take i).map V.s)) false)], []⟩,
  fun i => i ≤ l.length ∧ (l.take i).all (fun x => x.k == 3) = true, fun i => l.length - i, ⟨[.cell 2 4 9], 0, ⟨Nat.zero_le _, rfl⟩, ?_⟩, fun i hI => ?_⟩
 ·rw [Int.toNat_natCast, hze]
  simp [meets, ghosts, ghost, St.le, St.get, St.put, look, keys, PV.labs, labsL, lookB, updB, Blk.labs, fresh, nth, strs, hk5]
 ·obtain ⟨hi, hin⟩ := hI
  conv => (arg 5; dsimp only)
  (conv => whnf); repeat ((first | (apply And.intro;· exact Cl4) | apply T1 | apply T2 | apply T3 | apply T4 | apply T6 | apply T5); conv => whnf)
  by_cases hix : i < l.length
  ·have hilp : i < lp.length := by omega
   rw [decide_eq_true (show (i : Int) < (l.length : Int) by omega)]
   (conv => whnf); repeat ((first | (apply And.intro;· exact Cl4) | apply T1 | apply T2 | apply T3 | apply T4 | apply T6 | apply T5); conv => whnf)
   obtain ⟨y1, mp, u1, o1, y2, u2, o2, hq, hv, g1, g2, g3⟩ := (VPs_nth hl hix).out
   rw [Int.toNat_natCast, hq]
   (conv => whnf); repeat ((first | (apply And.intro;· exact Cl4) | apply T1 | apply T2 | apply T3 | apply T4 | apply T6 | apply T5); conv => whnf)
   by_cases hk : l[i].k = 3
   ·rw [hk]
    (conv => whnf); repeat ((first | (apply And.intro;· exact Cl4) | apply T1 | apply T2 | apply T3 | apply T4 | apply T6 | apply T5); conv => whnf)
    refine ⟨by show (i + 1) * 17 ≤ _; omega, ?_⟩
    (conv => whnf); repeat ((first | (apply And.intro;· exact Cl4) | apply T1 | apply T2 | apply T3 | apply T4 | apply T6 | apply T5); conv => whnf)
    rw [wrap64 (n := (i : Int) + 1) (by omega) (by omega)]
    have hrow : List.take i (strs (List.map V.s (List.take i l))) ++ List.take 1 (List.drop 0 [PV.str l[i].s]) = strs (List.map V.s (List.take (i + 1) l)) := by
     rw [List.take_of_length_le (by rw [strs_len, List.length_map, List.length_take]; omega), List.take_succ_eq_append_getElem hix, List.map_append, strs_app]; rfl
    rw [hrow]
    refine ⟨[], i + 1, ⟨hix, by rw [List.take_succ_eq_append_getElem hix, List.all_append, hin]; simp [hk]⟩, by show l.length - (i + 1) < l.length - i; omega, ?_⟩
    simp [meets, ghosts, St.le, St.get, look, keys, PV.labs, labsL, lookB, Blk.labs]
   ·have hk2 : (l[i].k != 3) = true := by simpa using hk
    rw [hk2]
    (conv => whnf); repeat ((first | (apply And.intro;· exact Cl4) | apply T1 | apply T2 | apply T3 | apply T4 | apply T6 | apply T5); conv => whnf)
    have hf : recordM (.mk k n s l ns) = false := by
     have : l.all (fun x => x.k == 3) = false := by
      rw [List.all_eq_false]
      exact ⟨l[i], List.getElem_mem hix, by simpa using hk⟩
     show (l.all (fun x => x.k == 3) && _) = false
     rw [this]; rfl
    rw [hf] at h
    exact h
  ·obtain rfl : i = l.length := by omega
   rw [decide_eq_false (show ¬ (l.length : Int) < (l.length : Int) by omega)]
   (conv => whnf); repeat ((first | (apply And.intro;· exact Cl4) | apply T1 | apply T2 | apply T3 | apply T4 | apply T6 | apply T5); conv => whnf)
   have hall : l.all (fun x => x.k == 3) = true := by rw [List.take_length] at hin; exact hin
   have hre : recordM (.mk k n s l ns) = ((bif k == 4 then decide ((lp.length : Int) ≤ 8) else false) && mayV (.mk 5 0 [] (List.replicate l.length Vz) (l.map V.s))) := by
    show (l.all (fun x => x.k == 3) && (k == 4 && decide (l.length ≤ 8) && _)) = _
    rw [hall, hlen, show decide ((l.length : Int) ≤ 8) = decide (l.length ≤ 8) from decide_eq_decide.2 (by omega)]
    cases k == 4 <;> rfl
   rw [hre] at h
   clear hre
   cases hb2 : (bif k == 4 then decide ((lp.length : Int) ≤ 8) else false)
   ·rw [hb2] at h
    refine Both.GF rfl ?_
    (conv => whnf); repeat ((first | (apply And.intro;· exact Cl4) | apply T1 | apply T2 | apply T3 | apply T4 | apply T6 | apply T5); conv => whnf)
    exact h
   ·rw [hb2] at h
    refine Both.GT rfl rfl ?_
    (conv => whnf); repeat ((first | (apply And.intro;· exact Cl4) | apply T1 | apply T2 | apply T3 | apply T4 | apply T6 | apply T5); conv => whnf)
    have e1 : List.take l.length (List.drop 0 (List.replicate l.length (PV.agg [.int .i64 0, .int .i64 0, .str [], .sl 0 [] true false, .sl 0 [] true false]))) = List.replicate l.length (PV.agg [.int .i64 0, .int .i64 0, .str [], .sl 0 [] true false, .sl 0 [] true false]) := by
     rw [List.drop_zero, List.take_of_length_le (by simp)]
    have e2 : List.take l.length (List.drop 0 (strs (List.map V.s (List.take l.length l)))) = strs (l.map V.s) := by
     rw [List.drop_zero, List.take_length, List.take_of_length_le (by rw [strs_len]; simp)]
    rw [e1, e2]
    refine check_spec (.mk 5 0 [] (List.replicate l.length Vz) (l.map V.s)) 5 1 (List.replicate l.length (.agg [.int .i64 0, .int .i64 0, .str [], .sl 0 [] true false, .sl 0 [] true false])) _ _ _ ⟨VPs_rep _, .inl rfl, .inl rfl, (show i64 5 ∧ i64 0 from ⟨⟨by decide, by decide⟩, ⟨by decide, by decide⟩⟩).2, ?_⟩ ?_
    ·have h1 := bulk_rep l.length
     have h2 := bulk_names l
     simp only [bulkV, List.length_nil]
     omega
    ·cases hm : mayV (.mk 5 0 [] (List.replicate l.length Vz) (l.map V.s))
     ·rw [hm] at h
      (conv => whnf); repeat ((first | (apply And.intro;· exact Cl4) | apply T1 | apply T2 | apply T3 | apply T4 | apply T6 | apply T5); conv => whnf)
      exact h
     ·rw [hm] at h
      (conv => whnf); repeat ((first | (apply And.intro;· exact Cl4) | apply T1 | apply T2 | apply T3 | apply T4 | apply T6 | apply T5); conv => whnf)
      exact h
end Go.Vc
namespace Go.Vc
open Go Go.Proofs
set_option maxRecDepth 100000
theorem fields_site (p : PG) (f : FD) (x : IN) (zf : Nat) (lf : List PV) (tf : Bool) (zc : Nat) (lc : List PV) (tc : Bool) (z : Nat) (t : Bool) (hp : PGA p zf lf zc lc) (Post : PV → List (Nat × Blk) → Prop)
  (h : Post (.bool (inB x.a p.consts.length && (match p.consts[x.a.toNat]? with | some v => recordM v | none => false))) [(0, .box (pgc zf lf tf zc lc tc)), (1, .box (fdc f z t))]) :
  Spec K 97 [.agg [.ptr 0 0, .ptr 1 0, .int .i64 x.op, .int .i64 x.a, .int .i64 x.b]] [(0, .box (pgc zf lf tf zc lc tc)), (1, .box (fdc f z t))] Post := by
 refine is97.specW K_ok K_mix false (by simp) (by simp [keys]) ?_
 have hc := VPs_len hp.cs
 have hz := zlc hp
 cases hi : inB x.a p.consts.length
 ·rw [hi] at h
  by_cases hlt : x.a.toNat < p.consts.length
  ·obtain ⟨y1, mp, u1, o1, y2, u2, o2, hq, hv, g1, g2, g3⟩ := (VPs_nth hp.cs hlt).out
   (conv => whnf); repeat' (first | ((first | (apply And.intro;· exact Cl4) | apply T1 | apply T2 | apply T3 | apply T4 | apply T6 | apply T5); conv => whnf) | (refine value_site p f x zf lf tf zc lc tc z t hp _ ?_; rw [hi]; conv => whnf) | (rw [hq]; conv => whnf) | ((refine Both.mk ?_ ?_ <;> fail_if_success (intro _)) <;> conv => whnf))
   all_goals exact h
  ·have hq : nth lc x.a.toNat = .undef := by unfold nth; rw [List.getD_eq_getElem?_getD, List.getElem?_eq_none (by omega)]; rfl
   (conv => whnf); repeat' (first | ((first | (apply And.intro;· exact Cl4) | apply T1 | apply T2 | apply T3 | apply T4 | apply T6 | apply T5); conv => whnf) | (refine value_site p f x zf lf tf zc lc tc z t hp _ ?_; rw [hi]; conv => whnf) | (rw [hq]; conv => whnf) | ((refine Both.mk ?_ ?_ <;> fail_if_success (intro _)) <;> conv => whnf))
   all_goals exact h
 ·rw [hi] at h
  have hb : 0 ≤ x.a ∧ x.a < p.consts.length := by unfold inB at hi; simp only [Bool.and_eq_true, decide_eq_true_eq] at hi; exact hi
  have hlt : x.a.toNat < p.consts.length := by omega
  rw [List.getElem?_eq_getElem hlt] at h
  obtain ⟨y1, mp, u1, o1, y2, u2, o2, hq, hv, g1, g2, g3⟩ := (VPs_nth hp.cs hlt).out
  have hcb := hp.cb _ (List.getElem_mem hlt)
  (conv => whnf); repeat' (first | ((first | (apply And.intro;· exact Cl4) | apply T1 | apply T2 | apply T3 | apply T4 | apply T6 | apply T5); conv => whnf) | (refine value_site p f x zf lf tf zc lc tc z t hp _ ?_; rw [hi]; conv => whnf) | (rw [hq]; conv => whnf) | (refine record_spec p.consts[x.a.toNat] y1 y2 mp _ _ ⟨hv, g1, g2, hcb.1, by have := hcb.2; omega⟩ hcb.2 _ ?_; conv => whnf) | ((refine Both.mk ?_ ?_ <;> fail_if_success (intro _)) <;> conv => whnf))
  all_goals exact h
end Go.Vc
namespace Go.Vc
open Go Go.Proofs
set_option maxRecDepth 100000
def FitsC : Prop := ∀ s : List UInt8, s.length ≤ 1000000000 → ∀ Post : PV → List (Nat × Blk) → Prop, Post (.bool (fitsT s)) [] → Spec K 121 [.str s] [] Post
theorem textM_len {p : PG} {zf zc : Nat} {lf lc : List PV} (hp : PGA p zf lf zc lc) (n : Int) : (textM p n).1.length ≤ 1000000000 := by
 unfold textM
 split
 ·split
  ·rename_i v hv
   have := hp.cb v (List.mem_of_getElem? hv)
   obtain ⟨k, n, s, l, ns⟩ := v
   have h2 := this.2
   simp only [bulkV] at h2
   show s.length ≤ _
   omega
  ·simp
 ·simp
theorem typed_site (hF : FitsC) (p : PG) (f : FD) (x : IN) (zf : Nat) (lf : List PV) (tf : Bool) (zc : Nat) (lc : List PV) (tc : Bool) (z : Nat) (t : Bool) (hp : PGA p zf lf zc lc) (Post : PV → List (Nat × Blk) → Prop)
  (h : Post (.bool ((textM p x.a).2 && fitsT (textM p x.a).1)) [(0, .box (pgc zf lf tf zc lc tc)), (1, .box (fdc f z t))]) : Spec K 99 [.agg [.ptr 0 0, .ptr 1 0, .int .i64 x.op, .int .i64 x.a, .int .i64 x.b]] [(0, .box (pgc zf lf tf zc lc tc)), (1, .box (fdc f z t))] Post := by
 refine is99.specW K_ok K_mix false (by simp) (by simp [keys]) ?_
 have ht := textM_len hp x.a
 (conv => whnf); repeat ((first | (apply And.intro;· exact Cl4) | apply T1 | apply T2 | apply T3 | apply T4 | apply T6 | apply T5); conv => whnf)
 refine text_spec p x.a zf lf tf zc lc tc hp _ ?_
 generalize textM p x.a = y at h ht
 obtain ⟨s, b⟩ := y
 (conv => whnf); repeat ((first | (apply And.intro;· exact Cl4) | apply T1 | apply T2 | apply T3 | apply T4 | apply T6 | apply T5); conv => whnf)
 cases b
 ·(conv => whnf); repeat ((first | (apply And.intro;· exact Cl4) | apply T1 | apply T2 | apply T3 | apply T4 | apply T6 | apply T5); conv => whnf)
  exact h
 ·(conv => whnf); repeat ((first | (apply And.intro;· exact Cl4) | apply T1 | apply T2 | apply T3 | apply T4 | apply T6 | apply T5); conv => whnf)
  refine hF s ht _ ?_
  (conv => whnf); repeat ((first | (apply And.intro;· exact Cl4) | apply T1 | apply T2 | apply T3 | apply T4 | apply T6 | apply T5); conv => whnf)
  exact h
theorem findM_lt (p : PG) (s : List UInt8) : findM p s < p.funcs.length := (idxL_ge _ _).2
set_option maxHeartbeats 8000000 in
theorem ask_site (p : PG) (f : FD) (x : IN) (zf : Nat) (lf : List PV) (tf : Bool) (zc : Nat) (lc : List PV) (tc : Bool) (z : Nat) (t : Bool) (hp : PGA p zf lf zc lc) (Post : PV → List (Nat × Blk) → Prop)
  (h : Post (.bool (askM p x)) [(0, .box (pgc zf lf tf zc lc tc)), (1, .box (fdc f z t))]) : Spec K 102 [.agg [.ptr 0 0, .ptr 1 0, .int .i64 x.op, .int .i64 x.a, .int .i64 x.b]] [(0, .box (pgc zf lf tf zc lc tc)), (1, .box (fdc f z t))] Post := by
 refine is102.specW K_ok K_mix false (by simp) (by simp [keys]) ?_
 have hf := FPs_len hp.fs
 have hzf := zlf hp
 unfold askM at h
 (conv => whnf); repeat ((first | (apply And.intro;· exact Cl4) | apply T1 | apply T2 | apply T3 | apply T4 | apply T6 | apply T5); conv => whnf)
 by_cases h1 : x.a = 1 ∨ x.a = 3
 ·rw [if_pos h1] at h
  have key : ∀ b : Bool, b = namedM p x.b → Post (.bool b) [(0, .box (pgc zf lf tf zc lc tc)), (1, .box (fdc f z t))] := fun b e => by rw [e]; exact h
  rcases h1 with h1 | h1
  all_goals (
   rw [h1]
   (conv => whnf); repeat ((first | (apply And.intro;· exact Cl4) | apply T1 | apply T2 | apply T3 | apply T4 | apply T6 | apply T5); conv => whnf)
   refine named_p p x.b zf lf tf zc lc tc hp _ ?_
   (conv => whnf); repeat ((first | (apply And.intro;· exact Cl4) | apply T1 | apply T2 | apply T3 | apply T4 | apply T6 | apply T5); conv => whnf)
   exact h)
 rw [if_neg h1] at h
 have e1 : (x.a == 1) = false := by simp; omega
 have e3 : (x.a == 3) = false := by simp; omega
 rw [e1]
 (conv => whnf); repeat ((first | (apply And.intro;· exact Cl4) | apply T1 | apply T2 | apply T3 | apply T4 | apply T6 | apply T5); conv => whnf)
 rw [e3]
 (conv => whnf); repeat ((first | (apply And.intro;· exact Cl4) | apply T1 | apply T2 | apply T3 | apply T4 | apply T6 | apply T5); conv => whnf)
 by_cases h4 : x.a = 4
 ·rw [if_pos h4] at h
  rw [h4]
  (conv => whnf); repeat ((first | (apply And.intro;· exact Cl4) | apply T1 | apply T2 | apply T3 | apply T4 | apply T6 | apply T5); conv => whnf)
  refine text_spec p x.b zf lf tf zc lc tc hp _ ?_
  generalize textM p x.b = y at h
  obtain ⟨s, b⟩ := y
  (conv => whnf); repeat ((first | (apply And.intro;· exact Cl4) | apply T1 | apply T2 | apply T3 | apply T4 | apply T6 | apply T5); conv => whnf)
  refine find_spec p s zf lf tf zc lc tc hp _ ?_
  have hlt := findM_lt p s
  have hge : -1 ≤ findM p s := (idxL_ge _ _).1
  simp only at h
  generalize findM p s = k at h hlt hge
  have key : ∀ bb : Bool, bb = (b && decide (0 ≤ k) && (match p.funcs[k.toNat]? with | some f => f.args == 1 | none => false)) → Post (.bool bb) [(0, .box (pgc zf lf tf zc lc tc)), (1, .box (fdc f z t))] := fun bb e => by rw [e]; exact h
  clear h
  have hnf : ∀ j : Nat, (∃ g : FD, p.funcs[j]? = some g ∧ ∃ y u, nth lf j = .agg [.str g.name, .int .i64 g.args, .int .i64 g.locals, .sl y (g.code.map INP) u true]) ∨ (p.funcs[j]? = none ∧ nth lf j = .undef) ∨ (∃ g : FD, p.funcs[j]? = some g ∧ ∃ y u, nth lf j = .agg [.str g.name, .int .i64 g.args, .int .i64 g.locals, .sl y (g.code.map INP) u false]) := by
   intro j
   by_cases hj : j < p.funcs.length
   ·obtain ⟨y, u, o, hq, hy⟩ := FPs_nth hp.fs hj
    cases o
    ·exact .inr (.inr ⟨_, List.getElem?_eq_getElem hj, y, u, hq⟩)
    ·exact .inl ⟨_, List.getElem?_eq_getElem hj, y, u, hq⟩
   ·refine .inr (.inl ⟨List.getElem?_eq_none (by omega), ?_⟩)
    unfold nth; rw [List.getD_eq_getElem?_getD, List.getElem?_eq_none (by omega)]; rfl
  by_cases hk : 0 ≤ k
  ·have hkl : k.toNat < p.funcs.length := by omega
   rw [if_neg (show ¬ 0 > k by omega), decide_eq_true hk] at *
   rcases hnf k.toNat with ⟨g, hg, y, u, hq⟩ | ⟨hg, hq⟩ | ⟨g, hg, y, u, hq⟩
   case inr.inl => rw [List.getElem?_eq_getElem hkl] at hg; cases hg
   all_goals (
    rw [hg] at key
    (conv => whnf); repeat ((first | (apply And.intro;· exact Cl4) | apply T1 | apply T2 | apply T3 | apply T4 | apply T6 | apply T5); conv => whnf)
    rw [hq]
    (conv => whnf); repeat ((first | (apply And.intro;· exact Cl4) | apply T1 | apply T2 | apply T3 | apply T4 | apply T6 | apply T5); conv => whnf)
    refine key _ ?_
    cases b <;> simp)
  ·have hk0 : decide (0 ≤ k) = false := decide_eq_false hk
   rw [if_pos (show 0 > k by omega), hk0] at *
   rcases hnf (0 : Int).toNat with ⟨g, hg, y, u, hq⟩ | ⟨hg, hq⟩ | ⟨g, hg, y, u, hq⟩
   all_goals (
    (conv => whnf); repeat ((first | (apply And.intro;· exact Cl4) | apply T1 | apply T2 | apply T3 | apply T4 | apply T6 | apply T5); conv => whnf)
    rw [hq]
    (conv => whnf); repeat ((first | (apply And.intro;· exact Cl4) | apply T1 | apply T2 | apply T3 | apply T4 | apply T6 | apply T5); conv => whnf)
    refine key _ ?_
    cases b <;> simp [hk])
 rw [if_neg h4] at h
 have e4 : (x.a == 4) = false := by simp; omega
 rw [e4]
 (conv => whnf); repeat ((first | (apply And.intro;· exact Cl4) | apply T1 | apply T2 | apply T3 | apply T4 | apply T6 | apply T5); conv => whnf)
 by_cases h5 : x.a = 2 ∨ x.a = 5 ∨ x.a = 6 ∨ x.a = 7 ∨ x.a = 8
 ·rw [if_pos h5] at h
  rcases h5 with h5 | h5 | h5 | h5 | h5
  all_goals (
   rw [h5]
   (conv => whnf); repeat ((first | (apply And.intro;· exact Cl4) | apply T1 | apply T2 | apply T3 | apply T4 | apply T6 | apply T5); conv => whnf)
   exact h)
 ·rw [if_neg h5] at h
  have f2 : (x.a == 2) = false := by simp; omega
  have f5 : (x.a == 5) = false := by simp; omega
  have f6 : (x.a == 6) = false := by simp; omega
  have f7 : (x.a == 7) = false := by simp; omega
  have f8 : (x.a == 8) = false := by simp; omega
  (conv => whnf); repeat' (first | ((first | (apply And.intro;· exact Cl4) | apply T1 | apply T2 | apply T3 | apply T4 | apply T6 | apply T5 | refine Both.T (by assumption) ?_ | refine Both.F (by assumption) ?_); conv => whnf) | (refine Both.mk (fun hb => ?_) (fun hb => ?_) <;> conv => whnf))
  all_goals first
  | exact h
  | (exfalso; simp_all; done)
end Go.Vc
namespace Go.Vc
open Go Go.Proofs
set_option maxRecDepth 100000
def mayF (op : Int) : Nat :=
 if op = 1 then 94 else if op = 2 ∨ op = 3 then 95 else if op = 20 then 96 else if op = 21 then 97 else if op = 22 then 98 else if op = 23 then 99 else if op = 24 ∨ op = 25 ∨ op = 26 then 100 else if op = 29 then 101 else if op = 31 then 102 else 103
set_option maxHeartbeats 8000000 in
theorem may_site (p : PG) (f : FD) (x : IN) (zf : Nat) (lf : List PV) (tf : Bool) (zc : Nat) (lc : List PV) (tc : Bool) (z : Nat) (t : Bool) (hp : PGA p zf lf zc lc) (Post : PV → List (Nat × Blk) → Prop)
  (h : Post (.fn (.func (mayF x.op)) [.agg [.ptr 0 0, .ptr 1 0, .int .i64 x.op, .int .i64 x.a, .int .i64 x.b]] []) [(0, .box (pgc zf lf tf zc lc tc)), (1, .box (fdc f z t))]) : Spec K 71 [.agg [.ptr 0 0, .ptr 1 0, .int .i64 x.op, .int .i64 x.a, .int .i64 x.b]] [(0, .box (pgc zf lf tf zc lc tc)), (1, .box (fdc f z t))] Post := by
 refine is71.specW K_ok K_mix false (by simp) (by simp [keys]) ?_
 have key : ∀ n : Nat, n = mayF x.op → Post (.fn (.func n) [.agg [.ptr 0 0, .ptr 1 0, .int .i64 x.op, .int .i64 x.a, .int .i64 x.b]] []) [(0, .box (pgc zf lf tf zc lc tc)), (1, .box (fdc f z t))] := fun n e => by rw [e]; exact h
 clear h
 (conv => whnf); repeat' (first | ((first | (apply And.intro;· exact Cl4) | apply T1 | apply T2 | apply T3 | apply T4 | apply T6 | apply T5 | refine Both.T (by assumption) ?_ | refine Both.F (by assumption) ?_); conv => whnf) | (refine Both.mk (fun hb => ?_) (fun hb => ?_) <;> conv => whnf))
 all_goals (refine key _ ?_; unfold mayF; simp_all)
theorem op_site (hF : FitsC) (p : PG) (f : FD) (x : IN) (zf : Nat) (lf : List PV) (tf : Bool) (zc : Nat) (lc : List PV) (tc : Bool) (z : Nat) (t : Bool) (hp : PGA p zf lf zc lc) (Post : PV → List (Nat × Blk) → Prop)
  (h : Post (.bool (operandM p f x)) [(0, .box (pgc zf lf tf zc lc tc)), (1, .box (fdc f z t))]) : ∀ n, n = mayF x.op → Spec K n [.agg [.ptr 0 0, .ptr 1 0, .int .i64 x.op, .int .i64 x.a, .int .i64 x.b]] [(0, .box (pgc zf lf tf zc lc tc)), (1, .box (fdc f z t))] Post := by
 intro n hn
 unfold mayF at hn
 unfold operandM at h
 split at hn
 ·rename_i h1; subst hn; rw [if_pos h1] at h; exact value_site p f x zf lf tf zc lc tc z t hp _ h
 rename_i h1; rw [if_neg h1] at h
 split at hn
 ·rename_i h2; subst hn; rw [if_pos h2] at h; exact local_site p f x zf lf tf zc lc tc z t hp _ h
 rename_i h2; rw [if_neg h2] at h
 split at hn
 ·rename_i h2; subst hn; rw [if_pos h2] at h; exact count_site p f x zf lf tf zc lc tc z t hp _ h
 rename_i h2; rw [if_neg h2] at h
 split at hn
 ·rename_i h2; subst hn; rw [if_pos h2] at h; exact fields_site p f x zf lf tf zc lc tc z t hp _ h
 rename_i h2; rw [if_neg h2] at h
 split at hn
 ·rename_i h2; subst hn; rw [if_pos h2] at h; exact field_site p f x zf lf tf zc lc tc z t hp _ h
 rename_i h2; rw [if_neg h2] at h
 split at hn
 ·rename_i h2; subst hn; rw [if_pos h2] at h; exact typed_site hF p f x zf lf tf zc lc tc z t hp _ h
 rename_i h2; rw [if_neg h2] at h
 split at hn
 ·rename_i h2; subst hn; rw [if_pos h2] at h; exact place_site p f x zf lf tf zc lc tc z t hp _ h
 rename_i h2; rw [if_neg h2] at h
 split at hn
 ·rename_i h2; subst hn; rw [if_pos h2] at h; exact fn_site p f x zf lf tf zc lc tc z t hp _ h
 rename_i h2; rw [if_neg h2] at h
 split at hn
 ·rename_i h2; subst hn; rw [if_pos h2] at h; exact ask_site p f x zf lf tf zc lc tc z t hp _ h
 rename_i h2; rw [if_neg h2] at h
 subst hn; exact none_site p f x zf lf tf zc lc tc z t hp _ h
set_option maxHeartbeats 8000000 in
theorem fits_site (hF : FitsC) (p : PG) (f : FD) (x : IN) (zf : Nat) (lf : List PV) (tf : Bool) (zc : Nat) (lc : List PV) (tc : Bool) (z : Nat) (t : Bool) (hp : PGA p zf lf zc lc) (Post : PV → List (Nat × Blk) → Prop)
  (h : Post (.bool (insM p f x)) [(0, .box (pgc zf lf tf zc lc tc)), (1, .box (fdc f z t))]) : Spec K 40 [.agg [.ptr 0 0, .ptr 1 0, .int .i64 x.op, .int .i64 x.a, .int .i64 x.b]] [(0, .box (pgc zf lf tf zc lc tc)), (1, .box (fdc f z t))] Post := by
 refine is40.specW K_ok K_mix false (by simp) (by simp [keys]) ?_
 have hop := op_site hF p f x zf lf tf zc lc tc z t hp
 have e : insM p f x = ((bif bif decide (1 ≤ x.op) then decide (x.op ≤ 31) else false then bif x.b == 0 then true else x.op == 31 else false) && operandM p f x) := by
  unfold insM
  cases decide (1 ≤ x.op) <;> cases decide (x.op ≤ 31) <;> cases x.b == 0 <;> rfl
 rw [e] at h
 clear e
 (conv => whnf); repeat ((first | (apply And.intro;· exact Cl4) | apply T1 | apply T2 | apply T3 | apply T4 | apply T6 | apply T5); conv => whnf)
 cases hb : (bif bif decide (1 ≤ x.op) then decide (x.op ≤ 31) else false then bif x.b == 0 then true else x.op == 31 else false)
 ·rw [hb] at h
  refine Both.GF rfl ?_
  (conv => whnf); repeat ((first | (apply And.intro;· exact Cl4) | apply T1 | apply T2 | apply T3 | apply T4 | apply T6 | apply T5); conv => whnf)
  exact h
 ·rw [hb] at h
  refine Both.GT rfl rfl ?_
  (conv => whnf); repeat ((first | (apply And.intro;· exact Cl4) | apply T1 | apply T2 | apply T3 | apply T4 | apply T6 | apply T5); conv => whnf)
  refine may_site p f x zf lf tf zc lc tc z t hp _ ?_
  (conv => whnf); repeat ((first | (apply And.intro;· exact Cl4) | apply T1 | apply T2 | apply T3 | apply T4 | apply T6 | apply T5); conv => whnf)
  refine hop _ ?_ _ rfl
  (conv => whnf); repeat ((first | (apply And.intro;· exact Cl4) | apply T1 | apply T2 | apply T3 | apply T4 | apply T6 | apply T5); conv => whnf)
  exact h
end Go.Vc
namespace Go.Vc
open Go Go.Proofs
set_option maxRecDepth 100000
theorem countP_step {p : PG} {f : FD} {i : Nat} (hi : i < p.funcs.length) : ((p.funcs.take (i + 1)).countP fun g => g.name == f.name) = ((p.funcs.take i).countP fun g => g.name == f.name) + (if p.funcs[i].name == f.name then 1 else 0) := by
 rw [List.take_succ_eq_append_getElem hi, List.countP_append, List.countP_singleton]
set_option maxHeartbeats 8000000 in
theorem head_spec (p : PG) (f : FD) (zf : Nat) (lf : List PV) (tf : Bool) (zc : Nat) (lc : List PV) (tc : Bool) (z : Nat) (t : Bool) (hp : PGA p zf lf zc lc) (hn : f.name.length ≤ 1000000000) (Post : PV → List (Nat × Blk) → Prop)
  (h : Post (.bool (headM p f)) [(0, .box (pgc zf lf tf zc lc tc))]) : Spec K 38 [.ptr 0 0, .agg (fdc f z t)] [(0, .box (pgc zf lf tf zc lc tc))] Post := by
 refine is38.specW K_ok K_mix false (by simp) (by simp [keys]) ?_
 have hf := FPs_len hp.fs
 have hz := zlf hp
 have hnf := hp.nf
 (conv => whnf); repeat ((first | (apply And.intro;· exact Cl4) | apply T1 | apply T2 | apply T3 | apply T4 | apply T6 | apply T5); conv => whnf)
 rw [hf]
 refine ⟨Nat, fun i => ⟨60, [(13, .int .i64 i), (12, .int .i64 p.funcs.length), (11, .sl zf lf tf true), (5, .int .i64 ((p.funcs.take i).countP fun g => g.name == f.name : Nat)), (3, .ptr 1 0)], [(0, .box (pgc zf lf tf zc lc tc)), (1, .box (fdc f z t))], [0]⟩, fun i => i ≤ p.funcs.length, fun i => p.funcs.length - i, ⟨[], 0, Nat.zero_le _, ?_⟩, fun i hi => ?_⟩
 ·simp [meets, ghosts, St.le, St.get, look, keys, PV.labs, labsL, lookB, Blk.labs]
 ·conv => (arg 5; dsimp only)
  (conv => whnf); repeat ((first | (apply And.intro;· exact Cl4) | apply T1 | apply T2 | apply T3 | apply T4 | apply T6 | apply T5); conv => whnf)
  by_cases hix : i < p.funcs.length
  ·rw [decide_eq_true (show (i : Int) < (p.funcs.length : Int) by omega)]
   (conv => whnf); repeat ((first | (apply And.intro;· exact Cl4) | apply T1 | apply T2 | apply T3 | apply T4 | apply T6 | apply T5); conv => whnf)
   obtain ⟨y, u, o, hq, hy⟩ := FPs_nth hp.fs hix
   have hst := countP_step (f := f) hix
   have hcl : ((p.funcs.take i).countP fun g => g.name == f.name) ≤ i := Nat.le_trans List.countP_le_length (by rw [List.length_take]; omega)
   rw [Int.toNat_natCast, hq]
   (conv => whnf); repeat ((first | (apply And.intro;· exact Cl4) | apply T1 | apply T2 | apply T3 | apply T4 | apply T6 | apply T5); conv => whnf)
   cases he : (p.funcs[i].name == f.name)
   ·rw [he] at hst
    (conv => whnf); repeat ((first | (apply And.intro;· exact Cl4) | apply T1 | apply T2 | apply T3 | apply T4 | apply T6 | apply T5); conv => whnf)
    rw [wrap64 (n := (i : Int) + 1) (by omega) (by omega)]
    refine ⟨[], i + 1, hix, by show p.funcs.length - (i + 1) < p.funcs.length - i; omega, ?_⟩
    simp [meets, ghosts, St.le, St.get, look, keys, PV.labs, labsL, lookB, Blk.labs, hst]
   ·rw [he] at hst
    (conv => whnf); repeat ((first | (apply And.intro;· exact Cl4) | apply T1 | apply T2 | apply T3 | apply T4 | apply T6 | apply T5); conv => whnf)
    rw [wrap64 (n := (i : Int) + 1) (by omega) (by omega), wrap64 (n := (((p.funcs.take i).countP fun g => g.name == f.name : Nat) : Int) + 1) (by omega) (by omega)]
    refine ⟨[], i + 1, hix, by show p.funcs.length - (i + 1) < p.funcs.length - i; omega, ?_⟩
    simp [meets, ghosts, St.le, St.get, look, keys, PV.labs, labsL, lookB, Blk.labs, hst]
  ·obtain rfl : i = p.funcs.length := by omega
   rw [decide_eq_false (show ¬ (p.funcs.length : Int) < (p.funcs.length : Int) by omega)]
   have e0 : (((p.funcs.take p.funcs.length).countP fun g => g.name == f.name : Nat) : Int) = ((p.funcs.countP fun g => g.name == f.name : Nat) : Int) := by rw [List.take_length]
   rw [e0]
   (conv => whnf); repeat ((first | (apply And.intro;· exact Cl4) | apply T1 | apply T2 | apply T3 | apply T4 | apply T6 | apply T5); conv => whnf)
   have e1 : ((((p.funcs.countP fun g => g.name == f.name : Nat) : Int)) == 1) = ((p.funcs.countP fun g => g.name == f.name) == 1) := by rw [Bool.eq_iff_iff]; simp; omega
   rw [e1]
   unfold headM at h
   generalize ((p.funcs.countP fun g => g.name == f.name) == 1) = c1 at h
   cases c1
   ·(conv => whnf); repeat ((first | (apply And.intro;· exact Cl4) | apply T1 | apply T2 | apply T3 | apply T4 | apply T6 | apply T5); conv => whnf)
    exact h
   ·(conv => whnf); repeat ((first | (apply And.intro;· exact Cl4) | apply T1 | apply T2 | apply T3 | apply T4 | apply T6 | apply T5); conv => whnf)
    refine name_spec f.name hn _ ?_
    (conv => whnf); repeat ((first | (apply And.intro;· exact Cl4) | apply T1 | apply T2 | apply T3 | apply T4 | apply T6 | apply T5); conv => whnf)
    rw [List.length_map, show decide (0 < (f.code.length : Int)) = decide (0 < f.code.length) from decide_eq_decide.2 (by omega)]
    have key : ∀ b : Bool, b = (true && nameM f.name && decide (0 ≤ f.args) && decide (f.args ≤ 8) && decide (f.args ≤ f.locals) && decide (f.locals ≤ 32) && decide (0 < f.code.length)) → Post (.bool b) [(0, .box (pgc zf lf tf zc lc tc))] := fun b e => by rw [e]; exact h
    refine key _ ?_
    cases nameM f.name <;> cases decide (0 ≤ f.args) <;> cases decide (f.args ≤ 8) <;> cases decide (f.args ≤ f.locals) <;> cases decide (f.locals ≤ 32) <;> rfl
theorem wrong_c (p : PG) (f : FD) (zf : Nat) (lf : List PV) (tf : Bool) (zc : Nat) (lc : List PV) (tc : Bool) (z : Nat) (t : Bool) (hp : PGA p zf lf zc lc) (hn : f.name.length ≤ 1000000000) (Post : PV → List (Nat × Blk) → Prop)
  (h : Post (.bool (!headM p f)) [(0, .box (pgc zf lf tf zc lc tc))]) : Spec K 37 [.agg (fdc f z t), .ptr 0 0] [(0, .box (pgc zf lf tf zc lc tc))] Post := by
 refine is37.specW K_ok K_mix false (by simp) (by simp [keys]) ?_
 (conv => whnf); repeat ((first | (apply And.intro;· exact Cl4) | apply T1 | apply T2 | apply T3 | apply T4 | apply T6 | apply T5); conv => whnf)
 refine head_spec p f zf lf tf zc lc tc z t hp hn _ ?_
 (conv => whnf); repeat ((first | (apply And.intro;· exact Cl4) | apply T1 | apply T2 | apply T3 | apply T4 | apply T6 | apply T5); conv => whnf)
 exact h
set_option maxHeartbeats 4000000 in
theorem index_head (p : PG) (zf : Nat) (lf : List PV) (tf : Bool) (zc : Nat) (lc : List PV) (tc : Bool) (hp : PGA p zf lf zc lc)  (l : List FD) (z : Nat) (lp : List PV) (t : Bool) (hl : FPs l lp) (hz : z = 4 ∨ l = []) (hn : l.length ≤ 1000000000) (hnm : ∀ f ∈ l, f.name.length ≤ 1000000000) (Post : PV → List (Nat × Blk) → Prop) (h : Post (.int .i64 (idxL (fun f => !headM p f) l)) [(0, .box (pgc zf lf tf zc lc tc))]) : Spec K 67 [.sl z lp t true, .fn (.func 37) [] [.ptr 0 0]] [(0, .box (pgc zf lf tf zc lc tc))] Post := by
 refine is67.specW K_ok K_mix false (by simp) (by simp [keys]) ?_
 have hlen := FPs_len hl
 have hz2 : z = 4 ∨ lp = [] := hz.imp id fun h => by rw [h] at hlen; exact List.length_eq_zero_iff.1 hlen
 (conv => whnf); repeat ((first | (apply And.intro;· exact Cl4) | apply T1 | apply T2 | apply T3 | apply T4 | apply T6 | apply T5); conv => whnf)
 rw [hlen]
 refine ⟨Nat, fun i => ⟨19, [(8, .int .i64 i), (7, .int .i64 l.length), (1, .fn (.func 37) [] [.ptr 0 0]), (0, .sl z lp t true)], [(0, .box (pgc zf lf tf zc lc tc))], [0]⟩, fun i => i ≤ l.length ∧ idxL (fun f => !headM p f) l = sh i (idxL (fun f => !headM p f) (l.drop i)), fun i => l.length - i, ⟨[], 0, ⟨Nat.zero_le _, sh_zero.symm⟩, ?_⟩, fun i hI => ?_⟩
 ·simp [meets, ghosts, St.le, St.get, look, keys, PV.labs, labsL, lookB, Blk.labs]
 ·obtain ⟨hi, hin⟩ := hI
  conv => (arg 5; dsimp only)
  (conv => whnf); repeat ((first | (apply And.intro;· exact Cl4) | apply T1 | apply T2 | apply T3 | apply T4 | apply T6 | apply T5); conv => whnf)
  by_cases hix : i < l.length
  ·have hilp : i < lp.length := by omega
   rw [decide_eq_true (show (i : Int) < (l.length : Int) by omega)]
   (conv => whnf); repeat ((first | (apply And.intro;· exact Cl4) | apply T1 | apply T2 | apply T3 | apply T4 | apply T6 | apply T5); conv => whnf)
   obtain ⟨y, u, o, hq, hy⟩ := FPs_nth hl hix
   rw [Int.toNat_natCast, hq]
   (conv => whnf); repeat ((first | (apply And.intro;· exact Cl4) | apply T1 | apply T2 | apply T3 | apply T4 | apply T6 | apply T5); conv => whnf)
   refine wrong_c p l[i] zf lf tf zc lc tc _ _ hp (hnm _ (List.getElem_mem hix)) _ ?_
   cases hp : (fun f => !headM p f) l[i]
   ·refine Both.F hp ?_
    (conv => whnf); repeat ((first | (apply And.intro;· exact Cl4) | apply T1 | apply T2 | apply T3 | apply T4 | apply T6 | apply T5); conv => whnf)
    rw [wrap64 (n := (i : Int) + 1) (by omega) (by omega)]
    refine ⟨[], i + 1, ⟨hix, by rw [hin]; exact sh_step hix hp⟩, by show l.length - (i + 1) < l.length - i; omega, ?_⟩
    simp [meets, ghosts, St.le, St.get, look, keys, PV.labs, labsL, lookB, Blk.labs]
   ·refine Both.T hp ?_
    (conv => whnf); repeat ((first | (apply And.intro;· exact Cl4) | apply T1 | apply T2 | apply T3 | apply T4 | apply T6 | apply T5); conv => whnf)
    rw [hin, sh_hit hix hp] at h
    exact h
  ·obtain rfl : i = l.length := by omega
   rw [decide_eq_false (show ¬ (l.length : Int) < (l.length : Int) by omega)]
   (conv => whnf); repeat ((first | (apply And.intro;· exact Cl4) | apply T1 | apply T2 | apply T3 | apply T4 | apply T6 | apply T5); conv => whnf)
   rw [hin, sh_end] at h
   exact h
theorem any_head (p : PG) (zf : Nat) (lf : List PV) (tf : Bool) (zc : Nat) (lc : List PV) (tc : Bool) (hp : PGA p zf lf zc lc) (t : Bool) (Post : PV → List (Nat × Blk) → Prop)
  (h : Post (.bool (p.funcs.any fun f => !headM p f)) [(0, .box (pgc zf lf tf zc lc tc))]) : Spec K 34 [.sl zf lf t true, .fn (.func 37) [] [.ptr 0 0]] [(0, .box (pgc zf lf tf zc lc tc))] Post := by
 refine is34.specW K_ok K_mix false (by simp) (by simp [keys]) ?_
 (conv => whnf); repeat ((first | (apply And.intro;· exact Cl4) | apply T1 | apply T2 | apply T3 | apply T4 | apply T6 | apply T5); conv => whnf)
 refine index_head p zf lf tf zc lc tc hp p.funcs zf lf t hp.fs hp.zf hp.nf (fun f hf => (hp.fb f hf).name) _ ?_
 (conv => whnf); repeat ((first | (apply And.intro;· exact Cl4) | apply T1 | apply T2 | apply T3 | apply T4 | apply T6 | apply T5); conv => whnf)
 rw [idxL_any]
 exact h
end Go.Vc
namespace Go.Vc
open Go Go.Proofs
set_option maxRecDepth 100000
theorem any_step {α : Type} {P : α → Bool} {l : List α} {i : Nat} (hi : i < l.length) (h : (l.take i).any P = false) (h2 : P l[i] = false) : (l.take (i + 1)).any P = false := by
 rw [List.take_succ_eq_append_getElem hi, List.any_append, h]; simp [h2]
theorem any_hit {α : Type} {P : α → Bool} {l : List α} {i : Nat} (hi : i < l.length) (h2 : P l[i] = true) : l.any P = true := List.any_eq_true.2 ⟨l[i], List.getElem_mem hi, h2⟩
set_option maxHeartbeats 16000000 in
theorem chk_spec (hF : FitsC) (p : PG) (zf : Nat) (lf : List PV) (tf : Bool) (zc : Nat) (lc : List PV) (tc : Bool) (hp : PGA p zf lf zc lc) (Post : PV → List (Nat × Blk) → Prop)
  (h : Post (.int .i64 (chkM p)) []) : Spec K 16 [.agg (pgc zf lf tf zc lc tc)] [] Post := by
 refine is16.specW K_ok K_mix false (by simp) (by simp [keys]) ?_
 have hf := FPs_len hp.fs
 have hc := VPs_len hp.cs
 have hz := zlf hp
 have hnf := hp.nf
 unfold chkM at h
 (conv => whnf); repeat ((first | (apply And.intro;· exact Cl4) | apply T1 | apply T2 | apply T3 | apply T4 | apply T6 | apply T5); conv => whnf)
 rw [hf, hc]
 have e1 : (bif decide (16 < (p.funcs.length : Int)) then true else decide (256 < (p.consts.length : Int))) = (decide (16 < p.funcs.length) || decide (256 < p.consts.length)) := by
  rw [show decide (16 < (p.funcs.length : Int)) = decide (16 < p.funcs.length) from decide_eq_decide.2 (by omega), show decide (256 < (p.consts.length : Int)) = decide (256 < p.consts.length) from decide_eq_decide.2 (by omega)]
  cases decide (16 < p.funcs.length) <;> rfl
 rw [e1]
 have hA : (16 < p.funcs.length ∨ 256 < p.consts.length ∨ (p.funcs.any fun f => decide (512 < f.code.length)) = true) ↔ ((decide (16 < p.funcs.length) || decide (256 < p.consts.length)) = true ∨ (p.funcs.any fun f => decide (512 < f.code.length)) = true) := by
  rw [Bool.or_eq_true, decide_eq_true_eq, decide_eq_true_eq, or_assoc]
 cases c1 : (decide (16 < p.funcs.length) || decide (256 < p.consts.length))
 case true =>
  rw [if_pos (hA.2 (.inl c1))] at h
  refine Both.GF rfl ?_
  (conv => whnf); repeat ((first | (apply And.intro;· exact Cl4) | apply T1 | apply T2 | apply T3 | apply T4 | apply T6 | apply T5); conv => whnf)
  exact h
 case false =>
 refine Both.GT rfl rfl ?_
 (conv => whnf); repeat ((first | (apply And.intro;· exact Cl4) | apply T1 | apply T2 | apply T3 | apply T4 | apply T6 | apply T5); conv => whnf)
 refine any_long p.funcs zf lf tf hp.fs hp.zf hp.nf _ ?_
 cases c2 : (p.funcs.any fun f => decide (512 < f.code.length))
 case true =>
  rw [if_pos (hA.2 (.inr c2))] at h
  (conv => whnf); repeat ((first | (apply And.intro;· exact Cl4) | apply T1 | apply T2 | apply T3 | apply T4 | apply T6 | apply T5); conv => whnf)
  exact h
 case false =>
 rw [if_neg (fun hc => by rcases hA.1 hc with hc | hc <;> simp_all)] at h
 clear hA e1
 (conv => whnf); repeat ((first | (apply And.intro;· exact Cl4) | apply T1 | apply T2 | apply T3 | apply T4 | apply T6 | apply T5); conv => whnf)
 rw [hf]
 have e2 : ((p.funcs.length : Int) == 0) = decide (p.funcs = []) := by rw [Bool.eq_iff_iff]; simp
 rw [e2]
 cases c3 : decide (p.funcs = [])
 case true =>
  rw [if_pos (.inl (of_decide_eq_true c3))] at h
  refine Both.GF rfl ?_
  (conv => whnf); repeat ((first | (apply And.intro;· exact Cl4) | apply T1 | apply T2 | apply T3 | apply T4 | apply T6 | apply T5); conv => whnf)
  exact h
 case false =>
 refine Both.GT rfl rfl ?_
 (conv => whnf); repeat ((first | (apply And.intro;· exact Cl4) | apply T1 | apply T2 | apply T3 | apply T4 | apply T6 | apply T5); conv => whnf)
 refine any_odd p.consts zc lc tc hp.cs hp.zc hp.nc hp.cb _ ?_
 cases c4 : (p.consts.any fun v => !mayV v)
 case true =>
  rw [if_pos (.inr (.inl c4))] at h
  (conv => whnf); repeat ((first | (apply And.intro;· exact Cl4) | apply T1 | apply T2 | apply T3 | apply T4 | apply T6 | apply T5); conv => whnf)
  exact h
 case false =>
 (conv => whnf); repeat ((first | (apply And.intro;· exact Cl4) | apply T1 | apply T2 | apply T3 | apply T4 | apply T6 | apply T5); conv => whnf)
 refine any_head p zf lf tf zc lc tc hp tf _ ?_
 cases c5 : (p.funcs.any fun f => !headM p f)
 case true =>
  rw [if_pos (.inr (.inr c5))] at h
  (conv => whnf); repeat ((first | (apply And.intro;· exact Cl4) | apply T1 | apply T2 | apply T3 | apply T4 | apply T6 | apply T5); conv => whnf)
  exact h
 case false =>
 rw [if_neg (fun hc => by rcases hc with hc | hc | hc <;> simp_all)] at h
 (conv => whnf); repeat ((first | (apply And.intro;· exact Cl4) | apply T1 | apply T2 | apply T3 | apply T4 | apply T6 | apply T5); conv => whnf)
 rw [hf]
 refine ⟨Nat, fun i => ⟨63, [(46, .int .i64 i), (45, .int .i64 p.funcs.length), (44, .sl zf lf tf true), (1, .ptr 0 0)], [(0, .box (pgc zf lf tf zc lc tc))], []⟩, fun i => i ≤ p.funcs.length ∧ ((p.funcs.take i).any fun f => f.code.any fun x => !insM p f x) = false, fun i => p.funcs.length - i, ⟨[], 0, ⟨Nat.zero_le _, rfl⟩, ?_⟩, fun i hI => ?_⟩
 ·simp [meets, ghosts, St.le, St.get, look, keys, PV.labs, labsL, lookB, Blk.labs]
 ·obtain ⟨hi, hin⟩ := hI
  conv => (arg 5; dsimp only)
  (conv => whnf); repeat ((first | (apply And.intro;· exact Cl4) | apply T1 | apply T2 | apply T3 | apply T4 | apply T6 | apply T5); conv => whnf)
  by_cases hix : i < p.funcs.length
  ·rw [decide_eq_true (show (i : Int) < (p.funcs.length : Int) by omega)]
   (conv => whnf); repeat ((first | (apply And.intro;· exact Cl4) | apply T1 | apply T2 | apply T3 | apply T4 | apply T6 | apply T5); conv => whnf)
   obtain ⟨y, u, o, hq, hy⟩ := FPs_nth hp.fs hix
   have hfb := hp.fb _ (List.getElem_mem hix)
   have hcb := hfb.code
   have hy2 : y = 3 ∨ List.map INP p.funcs[i].code = [] := hy.imp id fun h => by rw [h]; rfl
   rw [Int.toNat_natCast, hq]
   (conv => whnf); repeat ((first | (apply And.intro;· exact Cl4) | apply T1 | apply T2 | apply T3 | apply T4 | apply T6 | apply T5); conv => whnf)
   rw [List.length_map]
   refine ⟨Nat, fun k => ⟨63, [(53, .int .i64 k), (52, .int .i64 p.funcs[i].code.length), (51, .sl y (List.map INP p.funcs[i].code) u true), (7, .ptr 1 0), (46, .int .i64 i), (45, .int .i64 p.funcs.length), (44, .sl zf lf tf true), (1, .ptr 0 0)], [(0, .box (pgc zf lf tf zc lc tc)), (1, .box (fdc p.funcs[i] y u))], []⟩, fun k => k ≤ p.funcs[i].code.length ∧ ((p.funcs[i].code.take k).any fun x => !insM p p.funcs[i] x) = false, fun k => p.funcs[i].code.length - k, ⟨[], 0, ⟨Nat.zero_le _, rfl⟩, ?_⟩, fun k hK => ?_⟩
   ·simp [meets, ghosts, St.le, St.get, look, keys, PV.labs, labsL, lookB, Blk.labs]
   ·obtain ⟨hk, hkn⟩ := hK
    conv => (arg 5; dsimp only)
    (conv => whnf); repeat ((first | (apply And.intro;· exact Cl4) | apply T1 | apply T2 | apply T3 | apply T4 | apply T6 | apply T5); conv => whnf)
    by_cases hkx : k < p.funcs[i].code.length
    ·have hkm : k < (List.map INP p.funcs[i].code).length := by rw [List.length_map]; exact hkx
     rw [decide_eq_true (show (k : Int) < (p.funcs[i].code.length : Int) by omega)]
     (conv => whnf); repeat ((first | (apply And.intro;· exact Cl4) | apply T1 | apply T2 | apply T3 | apply T4 | apply T6 | apply T5); conv => whnf)
     rw [Int.toNat_natCast, code_nth hkx]
     (conv => whnf); repeat ((first | (apply And.intro;· exact Cl4) | apply T1 | apply T2 | apply T3 | apply T4 | apply T6 | apply T5); conv => whnf)
     refine fits_site hF p p.funcs[i] p.funcs[i].code[k] zf lf tf zc lc tc y u hp _ ?_
     cases hb : insM p p.funcs[i] p.funcs[i].code[k]
     ·(conv => whnf); repeat ((first | (apply And.intro;· exact Cl4) | apply T1 | apply T2 | apply T3 | apply T4 | apply T6 | apply T5); conv => whnf)
      have hb2 : (fun x => !insM p p.funcs[i] x) p.funcs[i].code[k] = true := by simp [hb]
      have hb3 : (fun f : FD => f.code.any fun x => !insM p f x) p.funcs[i] = true := any_hit hkx hb2
      rw [if_pos (any_hit hix hb3)] at h
      exact h
     ·(conv => whnf); repeat ((first | (apply And.intro;· exact Cl4) | apply T1 | apply T2 | apply T3 | apply T4 | apply T6 | apply T5); conv => whnf)
      rw [wrap64 (n := (k : Int) + 1) (by omega) (by omega)]
      refine ⟨[], k + 1, ⟨hkx, any_step hkx hkn (by simp [hb])⟩, by show p.funcs[i].code.length - (k + 1) < p.funcs[i].code.length - k; omega, ?_⟩
      simp [meets, ghosts, St.le, St.get, look, keys, PV.labs, labsL, lookB, Blk.labs]
    ·obtain rfl : k = p.funcs[i].code.length := by omega
     rw [decide_eq_false (show ¬ (p.funcs[i].code.length : Int) < (p.funcs[i].code.length : Int) by omega)]
     (conv => whnf); repeat ((first | (apply And.intro;· exact Cl4) | apply T1 | apply T2 | apply T3 | apply T4 | apply T6 | apply T5); conv => whnf)
     rw [wrap64 (n := (i : Int) + 1) (by omega) (by omega)]
     rw [List.take_length] at hkn
     refine ⟨[], i + 1, ⟨hix, any_step hix hin hkn⟩, by show p.funcs.length - (i + 1) < p.funcs.length - i; omega, ?_⟩
     simp [meets, ghosts, St.le, St.get, look, keys, PV.labs, labsL, lookB, Blk.labs]
  ·obtain rfl : i = p.funcs.length := by omega
   rw [decide_eq_false (show ¬ (p.funcs.length : Int) < (p.funcs.length : Int) by omega)]
   (conv => whnf); repeat ((first | (apply And.intro;· exact Cl4) | apply T1 | apply T2 | apply T3 | apply T4 | apply T6 | apply T5); conv => whnf)
   rw [List.take_length] at hin
   rw [if_neg (by rw [hin]; simp)] at h
   exact h
end Go.Vc
