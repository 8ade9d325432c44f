/- What is proved here: contracts of functions of the program: of each function what it hands back and what it leaves in memory. Conditions: those that each theorem names. -/
import Derived.Test.YthhokabbanhllaaDoorTBo
import Derived.Test.YthhokabbanhllaaDoorTBy
set_option linter.unusedVariables false
set_option linter.unusedSimpArgs false
set_option linter.unusedSectionVars false
namespace Go.Vc
open Go Go.Proofs
set_option maxRecDepth 100000
theorem cmpI_bd (a b : Int) : -1 ≤ cmpI a b ∧ cmpI a b ≤ 1 := by unfold cmpI; repeat' split <;> omega
theorem cmpS_bd (a b : List UInt8) : -1 ≤ cmpS a b ∧ cmpS a b ≤ 1 := by unfold cmpS; repeat' split <;> omega
theorem cmpNs_bd : ∀ a b : List (List UInt8), -1 ≤ cmpNs a b ∧ cmpNs a b ≤ 1
 | [], [] => by simp [cmpNs]
 | [], _ :: _ => by simp [cmpNs]
 | _ :: _, [] => by simp [cmpNs]
 | a :: r, b :: q => by have := cmpS_bd a b; have := cmpNs_bd r q; simp only [cmpNs]; split <;> omega
mutual
theorem cmpV_bd : ∀ v w : V, -1 ≤ cmpV v w ∧ cmpV v w ≤ 1
 | .mk k n s l ns, w => by
  have h1 := cmpI_bd k w.k; have h2 := cmpI_bd n w.n; have h3 := cmpS_bd s w.s; have h4 := cmpNs_bd ns w.ns; have h5 := cmpVs_bd l w.l
  rw [cmpV]; split; assumption; split; assumption; split; assumption; split <;> assumption
theorem cmpVs_bd : ∀ a b : List V, -1 ≤ cmpVs a b ∧ cmpVs a b ≤ 1
 | [], [] => by simp [cmpVs]
 | [], _ :: _ => by simp [cmpVs]
 | _ :: _, [] => by simp [cmpVs]
 | a :: r, b :: q => by have := cmpV_bd a b; have := cmpVs_bd r q; rw [cmpVs]; split <;> assumption
end
theorem same_spec (v w : V) (z1 z2 : Nat) (lp : List PV) (t1 t2 : Bool) (x1 x2 : Nat) (mp : List PV) (u1 u2 : Bool) (Post : PV → List (Nat × Blk) → Prop) (a : VA v z1 lp z2) (b : VA w x1 mp x2)
  (h : Post (.bool (sameV v w)) []) : Spec K 12 [.agg (vc v z1 lp t1 z2 t2), .agg (vc w x1 mp u1 x2 u2)] [] Post :=
 sameP_spec _ v w (Nat.le_refl _) a.b b.b z1 z2 lp t1 t2 x1 x2 mp u1 u2 Post a.l a.z1 a.z2 b.l b.z1 b.z2 h
noncomputable def c6a : Code := match Tryd.f6.body with | some (.seq a _) => a | _ => .skip
noncomputable def c6b : Code := match Tryd.f6.body with | some (.seq _ (.seq a _)) => a | _ => .skip
noncomputable def c6c : Code := match Tryd.f6.body with | some (.seq _ (.seq _ (.seq _ a))) => a | _ => .skip
noncomputable def ops6 : Array Oper := match Tryd.f6.body with | some (.seq _ (.seq _ (.seq (.region _ o _) _))) => o | _ => #[]
theorem body6 : Tryd.f6.body = some (.seq c6a (.seq c6b (.seq (.region 3 ops6 true) c6c))) := by kernel_rfl
set_option maxHeartbeats 16000000 in
theorem line_law (a b c : V) (z1 z2 : Nat) (lp : List PV) (t1 t2 : Bool) (x1 x2 : Nat) (mp : List PV) (u1 u2 : Bool) (y1 y2 : Nat) (np : List PV) (v1 v2 : Bool) (ha : VA a z1 lp z2) (hb : VA b x1 mp x2) (hc : VA c y1 np y2) :
  CSpec K 6 [.agg (vc a z1 lp t1 z2 t2), .agg (vc b x1 mp u1 x2 u2), .agg (vc c y1 np v1 y2 v2)] [] LawPost := by
 have hline := line_holds a b c
 refine calm_law K_ok K_mix (pl := noPl) (n := 67) (rs := [.tmp 6]) [0, 1, 3, 4, 6, 7] [2, 5, 8, 9, 10, 11] (da := x6A) (db := x6B) (dc := x6C) (xt := x6t) (xl := x6l) Tryd.func6 body6 (by kernel_rfl) (by kernel_rfl) (by kernel_rfl) (by kernel_rfl) (by kernel_rfl) (by kernel_rfl) rfl (by kernel_rfl) (by kernel_rfl) (by kernel_rfl) false (by show (3 : Nat) ≤ _; decide) ?_
 (conv => whnf); repeat ((first | (apply And.intro;· exact Cl4) | apply T1 | apply T2 | apply T3 | apply T4 | apply T6 | apply T5); conv => whnf)
 refine works_spec _ ?_
 (conv => whnf); repeat ((first | (apply And.intro;· exact Cl4) | apply T1 | apply T2 | apply T3 | apply T4 | apply T6 | apply T5); conv => whnf)
 refine cmp_spec a b z1 z2 lp _ _ x1 x2 mp _ _ _ ha hb ?_
 (conv => whnf); repeat ((first | (apply And.intro;· exact Cl4) | apply T1 | apply T2 | apply T3 | apply T4 | apply T6 | apply T5); conv => whnf)
 refine cmp_spec b c x1 x2 mp _ _ y1 y2 np _ _ _ hb hc ?_
 (conv => whnf); repeat ((first | (apply And.intro;· exact Cl4) | apply T1 | apply T2 | apply T3 | apply T4 | apply T6 | apply T5); conv => whnf)
 refine cmp_spec a c z1 z2 lp _ _ y1 y2 np _ _ _ ha hc ?_
 (conv => whnf); repeat ((first | (apply And.intro;· exact Cl4) | apply T1 | apply T2 | apply T3 | apply T4 | apply T6 | apply T5); conv => whnf)
 refine cmp_spec b a x1 x2 mp _ _ z1 z2 lp _ _ _ hb ha ?_
 (conv => whnf); repeat ((first | (apply And.intro;· exact Cl4) | apply T1 | apply T2 | apply T3 | apply T4 | apply T6 | apply T5); conv => whnf)
 have hbd := cmpV_bd a b
 rw [show IntKind.i64.wrap (0 - cmpV a b) = cmpV b a from by rw [wrap64] <;> first | (rw [cmpV_anti a b]; omega) | omega, beq_self_eq_true]
 (conv => whnf); repeat ((first | (apply And.intro;· exact Cl4) | apply T1 | apply T2 | apply T3 | apply T4 | apply T6 | apply T5); conv => whnf)
 refine same_spec a b z1 z2 lp _ _ x1 x2 mp _ _ _ ha hb ?_
 (conv => whnf); repeat ((first | (apply And.intro;· exact Cl4) | apply T1 | apply T2 | apply T3 | apply T4 | apply T6 | apply T5); conv => whnf)
 have hsame : ((cmpV a b == 0) == sameV a b) = true := by
  simp only [lineB, Bool.and_eq_true] at hline; exact hline.1.1.1.2
 rw [hsame]
 (conv => whnf); repeat ((first | (apply And.intro;· exact Cl4) | apply T1 | apply T2 | apply T3 | apply T4 | apply T6 | apply T5); conv => whnf)
 refine cmp_spec a a z1 z2 lp _ _ z1 z2 lp _ _ _ ha ha ?_
 rw [cmpV_self a]
 (conv => whnf); repeat ((first | (apply And.intro;· exact Cl4) | apply T1 | apply T2 | apply T3 | apply T4 | apply T6 | apply T5); conv => whnf)
 simp only [lineB, Bool.and_eq_true] at hline
 have g1 := hline.1.2
 have g2 := hline.2
 simp only [Bool.or_eq_true, decide_eq_true_eq] at g1 g2
 refine ⟨?_, rfl⟩
 congr 1
 simp only [show ((0 : Int) == 0) = true from rfl, cond_true, Bool.cond_true_left, Bool.cond_false_right]
 simp only [Bool.or_eq_true, Bool.and_eq_true, decide_eq_true_eq]
 exact ⟨g1, g2⟩
end Go.Vc
