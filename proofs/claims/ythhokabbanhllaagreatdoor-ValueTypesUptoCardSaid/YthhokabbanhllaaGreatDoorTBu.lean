/- What is proved here: contracts of functions of the program: of each function what it hands back and what it leaves in memory. Conditions: those that each theorem names. -/
import Derived.Test.YthhokabbanhllaaGreatDoorTBt
import Derived.Test.YthhokabbanhllaaGreatDoorTBl
import Derived.Test.YthhokabbanhllaaGreatDoorTBm
set_option linter.unusedVariables false
set_option linter.unusedSimpArgs false
set_option linter.unusedSectionVars false
namespace Go.Vc
open Go Go.Proofs
def LawPost : PV → List (Nat × Blk) → Prop := fun r h => r = .bool true ∧ h = []
end Go.Vc
namespace Go.Vc
open Go Go.Proofs
set_option maxRecDepth 100000
theorem fits_x (t : List UInt8) (x : Bool) (hx : fitsT t = x) (ht : t.length ≤ 1000000000) (Post : PV → List (Nat × Blk) → Prop) (h : Post (.bool x) []) : Spec K 24 [.str t] [] Post := by
 subst hx; exact fits_all t ht Post h
theorem fitsR_x (t : List UInt8) (x : Bool) (hx : fitsT t = x) (ht : t.length ≤ 1000000000) (Post : PV → List (Nat × Blk) → Prop) (h : Post (.bool x) []) : Spec K 25 [.str t] [] Post := by
 subst hx; exact fitsR_spec t ht Post h
theorem is_x (v : V) (t : List UInt8) (x : Bool) (hx : isVB v t = x) (ht : t.length ≤ 1000000000) (z1 z2 : Nat) (lp : List PV) (t1 t2 : Bool) (Post : PV → List (Nat × Blk) → Prop) (a : VA v z1 lp z2) (h : Post (.bool x) []) : Spec K 26 [.agg (vc v z1 lp t1 z2 t2), .str t] [] Post := by
 subst hx; exact is_spec v t ht z1 z2 lp t1 t2 a Post h
theorem isR_x (v : V) (t : List UInt8) (x : Bool) (hx : isVB v t = x) (ht : t.length ≤ 1000000000) (z1 z2 : Nat) (lp : List PV) (t1 t2 : Bool) (Post : PV → List (Nat × Blk) → Prop) (a : VA v z1 lp z2) (h : Post (.bool x) []) : Spec K 27 [.agg (vc v z1 lp t1 z2 t2), .str t] [] Post := by
 subst hx; exact isR_spec v t ht z1 z2 lp t1 t2 a Post h
set_option maxHeartbeats 16000000 in
theorem types_law (v : V) (t : List UInt8) (ht : t.length ≤ 2000000) (z1 z2 : Nat) (lp : List PV) (t1 t2 : Bool) (a : VA v z1 lp z2) : CSpec K 6 [.agg (vc v z1 lp t1 z2 t2), .str t] [] LawPost := by
 refine is6.cspec K_ok K_mix false (by simp) (by simp [keys]) ?_
 have htl : t.length ≤ 1000000000 := by omega
 obtain ⟨x, hx⟩ : ∃ x, fitsT t = x := ⟨_, rfl⟩
 obtain ⟨y, hy⟩ : ∃ y, isVB v t = y := ⟨_, rfl⟩
 (conv => whnf); repeat ((first | (apply And.intro;· exact Cl4) | apply T1 | apply T2 | apply T3 | apply T4 | apply T6 | apply T5); conv => whnf)
 (conv => whnf); repeat' (first | ((first | (apply And.intro;· exact Cl4) | apply T1 | apply T2 | apply T3 | apply T4 | apply T6 | apply T5); conv => whnf) | (refine fits_x t x hx htl _ ?_; conv => whnf) | (refine fitsR_x t x hx htl _ ?_; conv => whnf) | (refine is_x v t y hy htl z1 z2 lp _ _ _ a ?_; conv => whnf) | (refine isR_x v t y hy htl z1 z2 lp _ _ _ a ?_; conv => whnf) | (refine works_spec _ ?_; conv => whnf) | (rw [beq_self_eq_true]; conv => whnf) | ((refine Both.mk ?_ ?_ <;> fail_if_success (intro _)) <;> conv => whnf))
end Go.Vc
