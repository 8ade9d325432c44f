/- What is proved here: contracts of functions of the program: of each function what it hands back and what it leaves in memory. Conditions: those that each theorem names. -/
import Derived.Test.YthhokabbanhllaaDoorTBo
set_option linter.unusedVariables false
set_option linter.unusedSimpArgs false
set_option linter.unusedSectionVars false
namespace Go.Vc
open Go Go.Proofs
set_option maxRecDepth 100000
theorem show_t (v : V) (hm : mayV v = true) (z1 z2 : Nat) (lp : List PV) (t1 t2 : Bool) (Post : PV → List (Nat × Blk) → Prop) (a : VA v z1 lp z2) (h : Post (.str (showV v)) []) : Spec K 20 [.agg (vc v z1 lp t1 z2 t2)] [] Post := by
 refine show_spec v z1 z2 lp t1 t2 a Post ?_
 rw [hm, if_pos rfl]; exact h
theorem show_f (v : V) (hm : mayV v = false) (z1 z2 : Nat) (lp : List PV) (t1 t2 : Bool) (Post : PV → List (Nat × Blk) → Prop) (a : VA v z1 lp z2) (h : Post (.str []) []) : Spec K 20 [.agg (vc v z1 lp t1 z2 t2)] [] Post := by
 refine show_spec v z1 z2 lp t1 t2 a Post ?_
 rw [hm, if_neg (by decide)]; exact h
theorem check_t (v : V) (hm : mayV v = true) (z1 z2 : Nat) (lp : List PV) (t1 t2 : Bool) (Post : PV → List (Nat × Blk) → Prop) (a : VA v z1 lp z2) (h : Post (.int .i64 0) []) : Spec K 19 [.agg (vc v z1 lp t1 z2 t2)] [] Post := by
 refine check_spec v z1 z2 lp t1 t2 Post a ?_
 rw [hm]; exact h
theorem check_f (v : V) (hm : mayV v = false) (z1 z2 : Nat) (lp : List PV) (t1 t2 : Bool) (Post : PV → List (Nat × Blk) → Prop) (a : VA v z1 lp z2) (h : Post (.int .i64 2) []) : Spec K 19 [.agg (vc v z1 lp t1 z2 t2)] [] Post := by
 refine check_spec v z1 z2 lp t1 t2 Post a ?_
 rw [hm]; exact h
theorem sameR_x (a b : V) (v : Bool) (hv : sameV a b = v) (z1 z2 : Nat) (lp : List PV) (t1 t2 : Bool) (x1 x2 : Nat) (mp : List PV) (u1 u2 : Bool) (Post : PV → List (Nat × Blk) → Prop) (ha : VA a z1 lp z2) (hb : VA b x1 mp x2)
  (h : Post (.bool v) []) : Spec K 13 [.agg (vc a z1 lp t1 z2 t2), .agg (vc b x1 mp u1 x2 u2)] [] Post := sameR_spec a b z1 z2 lp t1 t2 x1 x2 mp u1 u2 Post ha hb (by rw [hv]; exact h)
theorem mayV_all {v : V} (h : mayV v = true) : allV v = true := (okV_iff.1 h).2
set_option maxHeartbeats 16000000 in
theorem shown_law (a b : V) (z1 z2 : Nat) (lp : List PV) (t1 t2 : Bool) (x1 x2 : Nat) (mp : List PV) (u1 u2 : Bool) (ha : VA a z1 lp z2) (hb : VA b x1 mp x2) : CSpec K 7 [.agg (vc a z1 lp t1 z2 t2), .agg (vc b x1 mp u1 x2 u2)] [] LawPost := by
 refine is7.cspec K_ok K_mix false (by simp) (by simp [keys]) ?_
 (conv => whnf); repeat ((first | (apply And.intro;· exact Cl4) | apply T1 | apply T2 | apply T3 | apply T4 | apply T6 | apply T5); conv => whnf)
 refine works_spec _ ?_
 (conv => whnf); repeat ((first | (apply And.intro;· exact Cl4) | apply T1 | apply T2 | apply T3 | apply T4 | apply T6 | apply T5); conv => whnf)
 cases hma : mayV a
 ·refine check_f a hma z1 z2 lp _ _ _ ha ?_
  (conv => whnf); repeat ((first | (apply And.intro;· exact Cl4) | apply T1 | apply T2 | apply T3 | apply T4 | apply T6 | apply T5); conv => whnf)
  refine show_f a hma z1 z2 lp _ _ _ ha ?_
  (conv => whnf); repeat ((first | (apply And.intro;· exact Cl4) | apply T1 | apply T2 | apply T3 | apply T4 | apply T6 | apply T5); conv => whnf)
 ·refine check_t a hma z1 z2 lp _ _ _ ha ?_
  (conv => whnf); repeat ((first | (apply And.intro;· exact Cl4) | apply T1 | apply T2 | apply T3 | apply T4 | apply T6 | apply T5); conv => whnf)
  have hsa : (showV a == ({ data := #[] } : ByteArray).data.toList) = false := by
   rw [beq_eq_false_iff_ne]; exact show_ne (mayV_all hma)
  have hsn : (showV a != ({ data := #[] } : ByteArray).data.toList) = true := by rw [bne, hsa]; rfl
  cases hmb : mayV b
  ·refine check_f b hmb x1 x2 mp _ _ _ hb ?_
   (conv => whnf); repeat ((first | (apply And.intro;· exact Cl4) | apply T1 | apply T2 | apply T3 | apply T4 | apply T6 | apply T5); conv => whnf)
   refine show_t a hma z1 z2 lp _ _ _ ha ?_
   (conv => whnf); repeat ((first | (apply And.intro;· exact Cl4) | apply T1 | apply T2 | apply T3 | apply T4 | apply T6 | apply T5); conv => whnf)
   rw [hsa]
   (conv => whnf); repeat ((first | (apply And.intro;· exact Cl4) | apply T1 | apply T2 | apply T3 | apply T4 | apply T6 | apply T5); conv => whnf)
   refine show_f b hmb x1 x2 mp _ _ _ hb ?_
   (conv => whnf); repeat ((first | (apply And.intro;· exact Cl4) | apply T1 | apply T2 | apply T3 | apply T4 | apply T6 | apply T5); conv => whnf)
  ·refine check_t b hmb x1 x2 mp _ _ _ hb ?_
   (conv => whnf); repeat ((first | (apply And.intro;· exact Cl4) | apply T1 | apply T2 | apply T3 | apply T4 | apply T6 | apply T5); conv => whnf)
   have hs := shown_same (mayV_all hma) (mayV_all hmb)
   obtain ⟨v, hv⟩ : ∃ v, sameV a b = v := ⟨_, rfl⟩
   rw [hv] at hs
   cases v
   ·(conv => whnf); repeat' (first | ((first | (apply And.intro;· exact Cl4) | apply T1 | apply T2 | apply T3 | apply T4 | apply T6 | apply T5); conv => whnf) | (refine show_t a hma z1 z2 lp _ _ _ ha ?_; conv => whnf) | (refine show_t b hmb x1 x2 mp _ _ _ hb ?_; conv => whnf) | (refine sameR_x a b _ hv z1 z2 lp _ _ x1 x2 mp _ _ _ ha hb ?_; conv => whnf) | (rw [hs]; conv => whnf) | (rw [hsn]; conv => whnf) | ((refine Both.mk ?_ ?_ <;> fail_if_success (intro _)) <;> conv => whnf))
    all_goals exact ⟨by rw [hsa]; rfl, rfl⟩
   ·(conv => whnf); repeat' (first | ((first | (apply And.intro;· exact Cl4) | apply T1 | apply T2 | apply T3 | apply T4 | apply T6 | apply T5); conv => whnf) | (refine show_t a hma z1 z2 lp _ _ _ ha ?_; conv => whnf) | (refine show_t b hmb x1 x2 mp _ _ _ hb ?_; conv => whnf) | (refine sameR_x a b _ hv z1 z2 lp _ _ x1 x2 mp _ _ _ ha hb ?_; conv => whnf) | (rw [hs]; conv => whnf) | (rw [hsn]; conv => whnf) | ((refine Both.mk ?_ ?_ <;> fail_if_success (intro _)) <;> conv => whnf))
    all_goals exact ⟨by rw [hsa]; rfl, rfl⟩
end Go.Vc
