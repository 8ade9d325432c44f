/- What is proved here: contracts of functions of the program: of each function what it hands back and what it leaves in memory. Conditions: those that each theorem names. -/
import Derived.Test.YthhokabbanhllaaGreatDoorTCa
import Derived.Test.YthhokabbanhllaaGreatDoorTCb
import Derived.Test.YthhokabbanhllaaGreatDoorTBp
set_option linter.unusedVariables false
set_option linter.unusedSimpArgs false
set_option linter.unusedSectionVars false
namespace Go.Vc
open Go Go.Proofs
set_option maxRecDepth 100000
theorem show_x (v : V) (x : List UInt8) (hx : (if mayV v = true then showV v else []) = x) (z1 z2 : Nat) (lp : List PV) (t1 t2 : Bool) (Post : PV → List (Nat × Blk) → Prop) (a : VA v z1 lp z2) (h : Post (.str x) []) : Spec K 28 [.agg (vc v z1 lp t1 z2 t2)] [] Post := by
 subst hx; exact show_spec v z1 z2 lp t1 t2 a Post h
theorem showR_x (v : V) (x : List UInt8) (hx : (if mayV v = true then showV v else []) = x) (z1 z2 : Nat) (lp : List PV) (t1 t2 : Bool) (Post : PV → List (Nat × Blk) → Prop) (a : VA v z1 lp z2) (h : Post (.str x) []) : Spec K 29 [.agg (vc v z1 lp t1 z2 t2)] [] Post := by
 subst hx; exact showR_spec v z1 z2 lp t1 t2 a Post h
set_option maxHeartbeats 16000000 in
theorem shows_law (v : V) (z1 z2 : Nat) (lp : List PV) (t1 t2 : Bool) (a : VA v z1 lp z2) : CSpec K 7 [.agg (vc v z1 lp t1 z2 t2)] [] LawPost := by
 refine is7.cspec K_ok K_mix false (by simp) (by simp [keys]) ?_
 obtain ⟨x, hx⟩ : ∃ x, (if mayV v = true then showV v else []) = x := ⟨_, rfl⟩
 (conv => whnf); repeat ((first | (apply And.intro;· exact Cl4) | apply T1 | apply T2 | apply T3 | apply T4 | apply T6 | apply T5); conv => whnf)
 (conv => whnf); repeat' (first | ((first | (apply And.intro;· exact Cl4) | apply T1 | apply T2 | apply T3 | apply T4 | apply T6 | apply T5); conv => whnf) | (refine show_x v x hx z1 z2 lp _ _ _ a ?_; conv => whnf) | (refine showR_x v x hx z1 z2 lp _ _ _ a ?_; conv => whnf) | (refine works_spec _ ?_; conv => whnf) | (rw [beq_self_eq_true]; conv => whnf) | ((refine Both.mk ?_ ?_ <;> fail_if_success (intro _)) <;> conv => whnf))
end Go.Vc
