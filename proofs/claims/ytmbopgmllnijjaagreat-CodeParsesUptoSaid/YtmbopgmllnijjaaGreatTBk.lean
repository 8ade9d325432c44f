/- What is proved here: contracts of functions of the program: of each function what it hands back and what it leaves in memory. Conditions: those that each theorem names. -/
import Derived.Test.YtmbopgmllnijjaaGreatTBa
import Derived.Test.YtmbopgmllnijjaaGreatTBj
set_option linter.unusedVariables false
set_option linter.unusedSimpArgs false
set_option linter.unusedSectionVars false
namespace Go.Vc
open Go Go.Proofs
set_option maxRecDepth 100000
theorem ver_out {b b1 : List UInt8} {n1 e1 : Int} (o1 : OutN (lift 0 (numP 1 256 b)) n1 b1 e1) : OutN (verP b) () b1 (if e1 = 0 ∧ n1 ≠ 1 then 4 else e1) := by
 unfold verP
 refine OutN.bind o1 ?_
 by_cases he : e1 = 0
 ·subst he
  rw [lift0]
  by_cases hn : n1 = 1
  ·subst hn; exact .inl ⟨rfl, rfl⟩
  ·rw [if_neg hn, if_pos ⟨rfl, hn⟩]; exact .inr ⟨rfl, by decide⟩
 ·rw [liftE he, if_neg (fun h => he h.1)]; exact .inr ⟨rfl, he⟩
theorem prog_out {b b6 : List UInt8} {cs : List V} {fs : List FD} {e6 e7 e8 : Int} (hparts : OutN (partsP b) (cs, fs) b6 e6) (he7 : e7 = if e6 = 0 ∧ b6 ≠ [] then 4 else e6) (he8 : e8 = if e7 = 0 then chkM ⟨fs, cs⟩ else e7) : (e8 ≠ 0 → progP b = .error e8) ∧ (e8 = 0 → progP b = .ok ⟨fs, cs⟩) := by
 unfold progP
 by_cases h6 : e6 = 0
 ·subst h6
  rw [hparts.ok]
  by_cases hb6e : b6 = []
  ·rw [if_neg (fun h => h.2 hb6e)] at he7
   subst he7
   rw [if_pos rfl] at he8
   subst he8
   dsimp only
   rw [if_neg (fun h => h hb6e)]
   exact ⟨fun h => if_pos h, fun h => if_neg (fun hc => hc h)⟩
  ·rw [if_pos ⟨rfl, hb6e⟩] at he7
   subst he7
   rw [if_neg (by decide)] at he8
   subst he8
   dsimp only
   rw [if_pos hb6e]
   exact ⟨fun _ => rfl, fun h => by cases h⟩
 ·rw [hparts.err h6]
  rw [if_neg (fun h => h6 h.1)] at he7
  subst he7
  rw [if_neg h6] at he8
  subst he8
  exact ⟨fun _ => rfl, fun h => absurd h h6⟩
set_option maxHeartbeats 32000000 in
theorem parseR_spec (b : List UInt8) (z : Nat) (t : Bool) (hz : z = 1 ∨ b = []) (hb : b.length ≤ 100000000) (Post : PV → List (Nat × Blk) → Prop)
  (h0 : ∀ e, progP b = .error e → e ≠ 0 → Post (.tup [.agg [.sl 0 [] false true, .sl 0 [] false true], .int .i64 e]) [])
  (h1 : ∀ p lf lc z1 z2, progP b = .ok p → PGA p z1 lf z2 lc → Post (.tup [.agg (pgc z1 lf false z2 lc false), .int .i64 0]) []) : Spec K 24 [.sl z (bs b) t true] [] Post := by
 refine is24.specC [23, 81] K_ok K_mix false (by simp) (by simp [keys]) ?_
 (conv => whnf); repeat ((first | (apply And.intro;· exact Cl4) | apply T1 | apply T2 | apply T3 | apply T4 | apply T6 | apply T5); conv => whnf)
 refine copyB_spec b z t (by omega) _ ?_
 (conv => whnf); repeat ((first | (apply And.intro;· exact Cl4) | apply T1 | apply T2 | apply T3 | apply T4 | apply T6 | apply T5); conv => whnf)
 refine numR_m 1 b _ 0 1 255 (by decide) (by decide) (.inl rfl) (by omega) _ (fun n1 b1 e1 o1 p1 q1 hb1 hz1 _ t1 => ?_)
 rw [numP_255] at o1
 have o2 := ver_out o1
 obtain ⟨e2, he2⟩ : ∃ e2, e2 = (if e1 = 0 ∧ n1 ≠ 1 then (4 : Int) else e1) := ⟨_, rfl⟩
 rw [← he2] at o2
 (conv => whnf); repeat ((first | (apply And.intro;· exact Cl4) | apply T1 | apply T2 | apply T3 | apply T4 | apply T6 | apply T5); conv => whnf)
 refine ⟨Unit, fun _ => ⟨106, [(5, .ptr 2 0), (4, .ptr 1 0), (3, .int .i64 0), (2, .ptr 0 0)], [(1, .box [.sl 1 (bs b1) t1 true, .int .i64 e2]), (2, .box [.sl 0 [] true false, .sl 0 [] true false]), (0, .box [.sl 0 [] true false, .sl 0 [] true false])], []⟩, fun _ => True, ?_, fun _ _ => ?_⟩
 ·by_cases hc : e1 = 0 ∧ n1 ≠ 1
  ·rw [if_pos hc] at he2
   obtain ⟨rfl, hn⟩ := hc
   subst he2
   refine Both.T (by simp [hn]) ?_
   (conv => whnf); repeat ((first | (apply And.intro;· exact Cl4) | apply T1 | apply T2 | apply T3 | apply T4 | apply T6 | apply T5); conv => whnf)
   refine ⟨[], (), trivial, ?_⟩
   simp [meets, ghosts, St.le, St.get, look, keys, PV.labs, labsL, lookB, Blk.labs]
  ·rw [if_neg hc] at he2
   subst he2
   refine Both.F (by
    by_cases hn : n1 = 1
    ·simp [hn]
    ·have : e2 ≠ 0 := fun h => hc ⟨h, hn⟩
     simp [this]) ?_
   (conv => whnf); repeat ((first | (apply And.intro;· exact Cl4) | apply T1 | apply T2 | apply T3 | apply T4 | apply T6 | apply T5); conv => whnf)
   refine ⟨[], (), trivial, ?_⟩
   simp [meets, ghosts, St.le, St.get, look, keys, PV.labs, labsL, lookB, Blk.labs]
 conv => (arg 4; dsimp only)
 (conv => whnf); repeat ((first | (apply And.intro;· exact Cl4) | apply T1 | apply T2 | apply T3 | apply T4 | apply T6 | apply T5); conv => whnf)
 refine numR_m 1 b1 t1 e2 2 256 (by decide) (by decide) hz1 (by omega) _ (fun n3 b3 e3 o3 p3 q3 hb3 hz3 _ t3 => ?_)
 obtain ⟨k3, rfl⟩ : ∃ k : Nat, n3 = k := ⟨n3.toNat, by omega⟩
 (conv => whnf); repeat ((first | (apply And.intro;· exact Cl4) | apply T1 | apply T2 | apply T3 | apply T4 | apply T6 | apply T5); conv => whnf)
 refine ⟨List V × List PV × List UInt8 × Int × Bool × Nat, fun x => ⟨106, [(7, .int .i64 x.1.length), (6, .int .i64 k3), (5, .ptr 2 0), (4, .ptr 1 0), (3, .int .i64 0), (2, .ptr 0 0)], [(1, .box [.sl x.2.2.2.2.2 (bs x.2.2.1) x.2.2.2.2.1 true, .int .i64 x.2.2.2.1]), (2, .box [.sl 0 [] true false, .ref 5 3 0 x.1.length]), (0, .box [.sl 0 [] true false, .sl 0 [] true false]), (3, .row 58 5 x.2.1 true)], []⟩,
  fun x => ListI takeV k3 b3 e3 x.1 x.2.2.1 x.2.2.2.1 ∧ VPs x.1 x.2.1 ∧ (∀ y ∈ x.1, i64 y.n ∧ bulkV y ≤ b3.length + 10) ∧ x.2.2.1.length ≤ b3.length ∧ (x.2.2.2.2.2 = 1 ∨ x.2.2.1 = []), fun x => k3 - x.1.length, ⟨[.cell 2 1 58, .age 3], ([], [], b3, e3, t3, 1), ⟨.zero _ _ _ _, rfl, fun y hy => (by cases hy), Nat.le_refl _, hz3⟩, ?_⟩, fun x hI => ?_⟩
 ·simp [meets, ghosts, ghost, St.le, St.get, St.put, look, keys, PV.labs, labsL, lookB, Blk.labs, fresh, updB, nth]
  exact rfl
 obtain ⟨cs, lc, b4, e4, t4, z4⟩ := x
 obtain ⟨hI4, hL4, hx4, hb4, hz4⟩ := hI
 have hle4 := hI4.le
 simp only at hI4 hL4 hx4 hb4 hz4 hle4
 have hlm4 := VPs_len hL4
 conv => (arg 5; dsimp only)
 (conv => whnf); repeat ((first | (apply And.intro;· exact Cl4) | apply T1 | apply T2 | apply T3 | apply T4 | apply T6 | apply T5); conv => whnf)
 by_cases hgo : cs.length < k3 ∧ e4 = 0
 ·obtain ⟨hlt, rfl⟩ := hgo
  rw [decide_eq_true (show (cs.length : Int) < (k3 : Int) by omega)]
  (conv => whnf); repeat ((first | (apply And.intro;· exact Cl4) | apply T1 | apply T2 | apply T3 | apply T4 | apply T6 | apply T5); conv => whnf)
  (conv => whnf); repeat' (first | ((first | (apply And.intro;· exact Cl4) | apply T1 | apply T2 | apply T3 | apply T4 | apply T6 | apply T5); conv => whnf) | (refine valueR_m z4 b4 t4 0 hz4 (by omega) _ (fun v b5 e5 t5 y1 lp y2 z5 o5 hv hbv hb5 hz5 => ?_); conv => whnf) | (refine ⟨by show (cs.length + 1) * 81 ≤ _; omega, ?_⟩; conv => whnf) | ((refine Both.mk ?_ ?_ <;> fail_if_success (intro _)) <;> conv => whnf))
  all_goals (
   (conv => whnf); repeat ((first | (apply And.intro;· exact Cl4) | apply T1 | apply T2 | apply T3 | apply T4 | apply T6 | apply T5); conv => whnf)
   rw [wrap64 (n := (cs.length : Int) + 1) (by omega) (by omega)]
   refine ⟨[], (cs ++ [v], lc ++ [.agg (vc v y1 lp false y2 false)], b5, e5, t5, z5), ⟨hI4.step hlt (by rw [lift0] at o5; exact o5), VPs_snoc hL4 (hv.vp false false), fun y hy => ?_, by show b5.length ≤ b3.length; omega, hz5⟩, by show k3 - (cs ++ [v]).length < k3 - cs.length; rw [List.length_append, List.length_singleton]; omega, ?_⟩
   ·rcases List.mem_append.1 hy with hy | hy
    ·exact hx4 y hy
    ·obtain rfl := List.mem_singleton.1 hy
     exact ⟨hv.n, by omega⟩
   ·have htk : List.take cs.length lc = lc := List.take_of_length_le (by omega)
    simp [meets, ghosts, St.le, St.get, look, keys, PV.labs, labsL, lookB, Blk.labs, vc, htk])
 have hd4 : e4 ≠ 0 ∨ cs.length = k3 := by
  by_cases he : e4 = 0
  ·exact .inr (by have := fun h => hgo ⟨h, he⟩; omega)
  ·exact .inl he
 refine Both.F (by
  by_cases hlt : cs.length < k3
  ·have he : (e4 == 0) = false := by simpa using hd4.resolve_right (by omega)
   rw [he]; cases decide ((cs.length : Int) < (k3 : Int)) <;> rfl
  ·rw [decide_eq_false (show ¬ (cs.length : Int) < (k3 : Int) by omega)]; rfl) ?_
 have o4 := hI4.out hd4
 clear hI4 hd4 hgo
 (conv => whnf); repeat ((first | (apply And.intro;· exact Cl4) | apply T1 | apply T2 | apply T3 | apply T4 | apply T6 | apply T5); conv => whnf)
 refine numR_m z4 b4 t4 e4 1 16 (by decide) (by decide) hz4 (by omega) _ (fun n5 b5 e5 o5 p5 q5 hb5 hz5 _ t5 => ?_)
 obtain ⟨k5, rfl⟩ : ∃ k : Nat, n5 = k := ⟨n5.toNat, by omega⟩
 (conv => whnf); repeat ((first | (apply And.intro;· exact Cl4) | apply T1 | apply T2 | apply T3 | apply T4 | apply T6 | apply T5); conv => whnf)
 refine ⟨List FD × List PV × List UInt8 × Int × Bool, fun x => ⟨106, [(8, .int .i64 x.1.length), (6, .int .i64 k5), (5, .ptr 2 0), (4, .ptr 1 0), (3, .int .i64 0), (2, .ptr 0 0)], [(1, .box [.sl z4 (bs x.2.2.1) x.2.2.2.2 true, .int .i64 x.2.2.2.1]), (2, .box [.ref 4 4 0 x.1.length, .ref 5 3 0 cs.length]), (0, .box [.sl 0 [] true false, .sl 0 [] true false]), (3, .row 58 5 lc true), (4, .row 55 4 x.2.1 true)], []⟩,
  fun x => ListI funP k5 b5 e5 x.1 x.2.2.1 x.2.2.2.1 ∧ FPs x.1 x.2.1 ∧ (∀ y ∈ x.1, FB y) ∧ x.2.2.1.length ≤ b5.length ∧ (z4 = 1 ∨ x.2.2.1 = []), fun x => k5 - x.1.length, ⟨[.cell 2 0 55, .age 4], ([], [], b5, e5, t5), ⟨.zero _ _ _ _, rfl, fun y hy => (by cases hy), Nat.le_refl _, hz5⟩, ?_⟩, fun x hI => ?_⟩
 ·simp [meets, ghosts, ghost, St.le, St.get, St.put, look, keys, PV.labs, labsL, lookB, Blk.labs, fresh, updB, nth]
  exact rfl
 obtain ⟨fs, lf, b6, e6, t6⟩ := x
 obtain ⟨hI6, hL6, hx6, hb6, hz6⟩ := hI
 have hle6 := hI6.le
 simp only at hI6 hL6 hx6 hb6 hz6 hle6
 have hlm6 := FPs_len hL6
 conv => (arg 5; dsimp only)
 (conv => whnf); repeat ((first | (apply And.intro;· exact Cl4) | apply T1 | apply T2 | apply T3 | apply T4 | apply T6 | apply T5); conv => whnf)
 by_cases hgo : fs.length < k5 ∧ e6 = 0
 ·obtain ⟨hlt, rfl⟩ := hgo
  rw [decide_eq_true (show (fs.length : Int) < (k5 : Int) by omega)]
  (conv => whnf); repeat ((first | (apply And.intro;· exact Cl4) | apply T1 | apply T2 | apply T3 | apply T4 | apply T6 | apply T5); conv => whnf)
  (conv => whnf); repeat' (first | ((first | (apply And.intro;· exact Cl4) | apply T1 | apply T2 | apply T3 | apply T4 | apply T6 | apply T5); conv => whnf) | (refine fnR_m z4 b6 t6 0 hz6 (by omega) _ (fun f b7 e7 zc t7 o7 hfb hzc hb7 hz7 => ?_); conv => whnf) | (refine ⟨by show (fs.length + 1) * 57 ≤ _; omega, ?_⟩; conv => whnf) | ((refine Both.mk ?_ ?_ <;> fail_if_success (intro _)) <;> conv => whnf))
  all_goals (
   (conv => whnf); repeat ((first | (apply And.intro;· exact Cl4) | apply T1 | apply T2 | apply T3 | apply T4 | apply T6 | apply T5); conv => whnf)
   rw [wrap64 (n := (fs.length : Int) + 1) (by omega) (by omega)]
   refine ⟨[], (fs ++ [f], lf ++ [.agg (fdc f zc false)], b7, e7, t7), ⟨hI6.step hlt (by rw [lift0] at o7; exact o7), FPs_snoc hL6 ⟨zc, false, true, rfl, hzc⟩, fun y hy => ?_, by show b7.length ≤ b5.length; omega, hz7⟩, by show k5 - (fs ++ [f]).length < k5 - fs.length; rw [List.length_append, List.length_singleton]; omega, ?_⟩
   ·rcases List.mem_append.1 hy with hy | hy
    ·exact hx6 y hy
    ·obtain rfl := List.mem_singleton.1 hy
     exact hfb
   ·have htk : List.take fs.length lf = lf := List.take_of_length_le (by omega)
    simp [meets, ghosts, St.le, St.get, look, keys, PV.labs, labsL, lookB, Blk.labs, htk])
 have hd6 : e6 ≠ 0 ∨ fs.length = k5 := by
  by_cases he : e6 = 0
  ·exact .inr (by have := fun h => hgo ⟨h, he⟩; omega)
  ·exact .inl he
 refine Both.F (by
  by_cases hlt : fs.length < k5
  ·have he : (e6 == 0) = false := by simpa using hd6.resolve_right (by omega)
   rw [he]; cases decide ((fs.length : Int) < (k5 : Int)) <;> rfl
  ·rw [decide_eq_false (show ¬ (fs.length : Int) < (k5 : Int) by omega)]; rfl) ?_
 have o6 := hI6.out hd6
 clear hI6 hd6 hgo
 have hparts : OutN (partsP b) (cs, fs) b6 e6 := by
  unfold partsP
  refine o2.bind ?_
  rw [lift_bind]
  refine OutN.bind (a := cs) (b1 := b4) (e1 := e4) ?_ ?_
  ·unfold valsP
   rw [lift_bind]
   exact o3.bind (by rw [Int.toNat_natCast]; exact o4)
  ·rw [lift_bind]
   refine OutN.bind (a := fs) (b1 := b6) (e1 := e6) ?_ (.ret _ _ _)
   unfold funsP
   rw [lift_bind]
   exact o5.bind (by rw [Int.toNat_natCast]; exact o6)
 have hp : PGA ⟨fs, cs⟩ 4 lf 5 lc := ⟨hL6, hL4, .inl rfl, .inl rfl, by show fs.length ≤ _; omega, by show cs.length ≤ _; omega, hx6, fun v hv => ⟨(hx4 v hv).1, by have := (hx4 v hv).2; omega⟩⟩
 obtain ⟨e7, he7⟩ : ∃ e7, e7 = if e6 = 0 ∧ b6 ≠ [] then 4 else e6 := ⟨_, rfl⟩
 obtain ⟨e8, he8⟩ : ∃ e8, e8 = if e7 = 0 then chkM ⟨fs, cs⟩ else e7 := ⟨_, rfl⟩
 have hprog := prog_out hparts he7 he8
 have hMt : List.take fs.length (List.drop 0 lf) = lf := by rw [List.drop_zero, List.take_of_length_le (by omega)]
 have hNt : List.take cs.length (List.drop 0 lc) = lc := by rw [List.drop_zero, List.take_of_length_le (by omega)]
 (conv => whnf); repeat ((first | (apply And.intro;· exact Cl4) | apply T1 | apply T2 | apply T3 | apply T4 | apply T6 | apply T5); conv => whnf)
 refine ⟨Unit, fun _ => ⟨106, [(5, .ptr 2 0), (4, .ptr 1 0), (3, .int .i64 0), (2, .ptr 0 0)], [(1, .box [.sl z4 (bs b6) t6 true, .int .i64 e7]), (2, .box [.ref 4 4 0 fs.length, .ref 5 3 0 cs.length]), (0, .box [.sl 0 [] true false, .sl 0 [] true false]), (3, .row 58 5 lc true), (4, .row 55 4 lf true)], []⟩, fun _ => True, ?_, fun _ _ => ?_⟩
 ·rw [bs_len]
  by_cases hc : e6 = 0 ∧ b6 ≠ []
  ·rw [if_pos hc] at he7
   obtain ⟨rfl, hn⟩ := hc
   have hpos : 0 < b6.length := List.length_pos_iff.2 hn
   rw [decide_eq_true (show (0 : Int) < (b6.length : Int) by omega)]
   (conv => whnf); repeat ((first | (apply And.intro;· exact Cl4) | apply T1 | apply T2 | apply T3 | apply T4 | apply T6 | apply T5); conv => whnf)
   refine ⟨[], (), trivial, ?_⟩
   subst he7
   simp [meets, ghosts, St.le, St.get, look, keys, PV.labs, labsL, lookB, Blk.labs]
  ·rw [if_neg hc] at he7
   refine Both.F (by
    by_cases h6 : e6 = 0
    ·have : b6 = [] := by
      by_cases hbe : b6 = []
      ·exact hbe
      ·exact absurd ⟨h6, hbe⟩ hc
     subst this
     simp
    ·simp [h6]) ?_
   (conv => whnf); repeat ((first | (apply And.intro;· exact Cl4) | apply T1 | apply T2 | apply T3 | apply T4 | apply T6 | apply T5); conv => whnf)
   refine ⟨[], (), trivial, ?_⟩
   subst he7
   simp [meets, ghosts, St.le, St.get, look, keys, PV.labs, labsL, lookB, Blk.labs]
 conv => (arg 4; dsimp only)
 by_cases h7 : e7 = 0
 ·subst h7
  rw [if_pos rfl] at he8
  subst he8
  (conv => whnf); repeat ((first | (apply And.intro;· exact Cl4) | apply T1 | apply T2 | apply T3 | apply T4 | apply T6 | apply T5); conv => whnf)
  rw [hMt, hNt]
  refine chkR_spec ⟨fs, cs⟩ 4 lf _ 5 lc _ hp _ ?_
  by_cases h8 : chkM ⟨fs, cs⟩ = 0
  ·have hok := hprog.2 h8
   rw [h8]
   (conv => whnf); repeat ((first | (apply And.intro;· exact Cl4) | apply T1 | apply T2 | apply T3 | apply T4 | apply T6 | apply T5); conv => whnf)
   rw [hMt, hNt]
   exact h1 ⟨fs, cs⟩ lf lc 4 5 hok hp
  ·have her := hprog.1 h8
   have h2 : (chkM ⟨fs, cs⟩ != 0) = true := by simpa using h8
   (conv => whnf); repeat ((first | (apply And.intro;· exact Cl4) | apply T1 | apply T2 | apply T3 | apply T4 | apply T6 | apply T5); conv => whnf)
   rw [h2]
   (conv => whnf); repeat ((first | (apply And.intro;· exact Cl4) | apply T1 | apply T2 | apply T3 | apply T4 | apply T6 | apply T5); conv => whnf)
   (conv => whnf); repeat' (first | ((first | (apply And.intro;· exact Cl4) | apply T1 | apply T2 | apply T3 | apply T4 | apply T6 | apply T5); conv => whnf) | (fail; conv => whnf) | ((refine Both.mk ?_ ?_ <;> fail_if_success (intro _)) <;> conv => whnf))
   all_goals exact h0 _ her h8
 ·rw [if_neg h7] at he8
  subst he8
  have her := hprog.1 h7
  have h1e : (e8 == 0) = false := by simpa using h7
  have h2e : (e8 != 0) = true := by simpa using h7
  (conv => whnf); repeat ((first | (apply And.intro;· exact Cl4) | apply T1 | apply T2 | apply T3 | apply T4 | apply T6 | apply T5); conv => whnf)
  rw [h1e]
  (conv => whnf); repeat ((first | (apply And.intro;· exact Cl4) | apply T1 | apply T2 | apply T3 | apply T4 | apply T6 | apply T5); conv => whnf)
  rw [h2e]
  (conv => whnf); repeat ((first | (apply And.intro;· exact Cl4) | apply T1 | apply T2 | apply T3 | apply T4 | apply T6 | apply T5); conv => whnf)
  (conv => whnf); repeat' (first | ((first | (apply And.intro;· exact Cl4) | apply T1 | apply T2 | apply T3 | apply T4 | apply T6 | apply T5); conv => whnf) | (fail; conv => whnf) | ((refine Both.mk ?_ ?_ <;> fail_if_success (intro _)) <;> conv => whnf))
  all_goals exact h0 _ her h7
end Go.Vc
