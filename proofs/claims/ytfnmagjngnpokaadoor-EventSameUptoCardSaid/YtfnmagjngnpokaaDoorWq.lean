/- What is proved here: contracts of functions of the program: of each function what it hands back and what it leaves in memory. Conditions: those that each theorem names. -/
import Derived.Test.YtfnmagjngnpokaaDoorWo
import Derived.Test.YtfnmagjngnpokaaDoorWl
import Derived.Test.YtfnmagjngnpokaaDoorWn
import Derived.Test.YtfnmagjngnpokaaDoorWm
set_option linter.unusedVariables false
set_option linter.unusedSimpArgs false
set_option linter.unusedSectionVars false
namespace Go.Vc
open Go Go.Proofs
set_option maxRecDepth 100000
theorem cmpI_refl (a : Int) : cmpI a a = 0 := by rw [cmpI, if_neg (by omega), if_neg (by omega)]
mutual
theorem sameV_refl : ∀ v : V, sameV v v = true
  | .mk k n s l ns => by
    rw [same_mk]
    show (k == k && n == n && s == s && cmpNs ns ns == 0 && cmpVs l l == 0) = true
    rw [cmpNs_eq.2 rfl, cmpVs_refl l]
    simp
theorem cmpVs_refl : ∀ l : List V, cmpVs l l = 0
  | [] => rfl
  | v :: r => by
    have h := sameV_refl v
    have h1 : ¬ cmpV v v ≠ 0 := by simpa [sameV] using h
    rw [cmpVs, if_neg h1]
    exact cmpVs_refl r
end
theorem sameE_refl (e : EV) : sameE e e = true := by
  unfold sameE
  rw [sameV_refl]
  simp
theorem evSame_x (a b : EV) (v : Bool) (hv : sameE a b = v) (z1 z2 : Nat) (lp : List PV) (t1 t2 : Bool) (x1 x2 : Nat) (mp : List PV) (u1 u2 : Bool) (Post : PV → List (Nat × Blk) → Prop) (ha : EA a z1 lp z2) (hb : EA b x1 mp x2)
    (h : Post (.bool v) []) : Spec K 23 [.agg (ec a z1 lp t1 z2 t2), .agg (ec b x1 mp u1 x2 u2)] [] Post := evSame_spec a b z1 z2 lp t1 t2 x1 x2 mp u1 u2 Post ha hb (by rw [hv]; exact h)
theorem evSameR_x (a b : EV) (v : Bool) (hv : sameE a b = v) (z1 z2 : Nat) (lp : List PV) (t1 t2 : Bool) (x1 x2 : Nat) (mp : List PV) (u1 u2 : Bool) (Post : PV → List (Nat × Blk) → Prop) (ha : EA a z1 lp z2) (hb : EA b x1 mp x2)
    (h : Post (.bool v) []) : Spec K 21 [.agg (ec a z1 lp t1 z2 t2), .agg (ec b x1 mp u1 x2 u2)] [] Post := evSameR_spec a b z1 z2 lp t1 t2 x1 x2 mp u1 u2 Post ha hb (by rw [hv]; exact h)
set_option maxHeartbeats 128000000 in
theorem law7 (a b : EV) (z1 z2 : Nat) (lp : List PV) (t1 t2 : Bool) (x1 x2 : Nat) (mp : List PV) (u1 u2 : Bool) (ha : EA a z1 lp z2) (hb : EA b x1 mp x2) : CSpec K 7 [.agg (ec a z1 lp t1 z2 t2), .agg (ec b x1 mp u1 x2 u2)] [] LawPost := by
  refine is7.cspec K_ok K_mix false (by simp) (by simp [keys]) ?_
  have hr := sameE_refl a
  obtain ⟨v, hv⟩ : ∃ v, sameE a b = v := ⟨_, rfl⟩
  cases v
  · (conv => whnf); repeat' (first | (refine And.intro ?_ ?_; (focus (first | exact fun _ => rfl | exact rfl | exact Nat.le_of_ble_eq_true rfl | exact fun _ => Nat.le_of_ble_eq_true rfl | exact gd_ok | exact gd2_ok | exact gd3_ok | exact Or.inl rfl | exact build_ok rfl | exact arr_ok rfl | exact vs_ok rfl | exact us_ok rfl | exact List.cons_ne_nil _ _ | exact bs_flat _ | assumption | exact gdT_ok | exact gdT2_ok | exact bs_flat2 _ _ _ | exact fun h => absurd h.2 (by decide) | (simp; done))); conv => whnf) | (refine evSame_x a b _ hv z1 z2 lp t1 t2 x1 x2 mp u1 u2 _ ha hb ?_; conv => whnf) | (refine evSameR_x a b _ hv z1 z2 lp t1 t2 x1 x2 mp u1 u2 _ ha hb ?_; conv => whnf) | (refine evSame_x a a _ hr z1 z2 lp t1 t2 z1 z2 lp t1 t2 _ ha ha ?_; conv => whnf) | (refine works_spec _ ?_; conv => whnf) | (refine Both.T (by exact rfl) ?_; conv => whnf) | (refine Both.F (by exact rfl) ?_; conv => whnf) | (refine Both.GT (by exact rfl) (by exact rfl) ?_; conv => whnf) | (refine Both.GF (by exact rfl) ?_; conv => whnf) | (refine Both.GN (by exact rfl) ?_; conv => whnf) | ((refine Both.mk ?_ ?_ <;> fail_if_success (intro _)) <;> conv => whnf))
  · (conv => whnf); repeat' (first | (refine And.intro ?_ ?_; (focus (first | exact fun _ => rfl | exact rfl | exact Nat.le_of_ble_eq_true rfl | exact fun _ => Nat.le_of_ble_eq_true rfl | exact gd_ok | exact gd2_ok | exact gd3_ok | exact Or.inl rfl | exact build_ok rfl | exact arr_ok rfl | exact vs_ok rfl | exact us_ok rfl | exact List.cons_ne_nil _ _ | exact bs_flat _ | assumption | exact gdT_ok | exact gdT2_ok | exact bs_flat2 _ _ _ | exact fun h => absurd h.2 (by decide) | (simp; done))); conv => whnf) | (refine evSame_x a b _ hv z1 z2 lp t1 t2 x1 x2 mp u1 u2 _ ha hb ?_; conv => whnf) | (refine evSameR_x a b _ hv z1 z2 lp t1 t2 x1 x2 mp u1 u2 _ ha hb ?_; conv => whnf) | (refine evSame_x a a _ hr z1 z2 lp t1 t2 z1 z2 lp t1 t2 _ ha ha ?_; conv => whnf) | (refine works_spec _ ?_; conv => whnf) | (refine Both.T (by exact rfl) ?_; conv => whnf) | (refine Both.F (by exact rfl) ?_; conv => whnf) | (refine Both.GT (by exact rfl) (by exact rfl) ?_; conv => whnf) | (refine Both.GF (by exact rfl) ?_; conv => whnf) | (refine Both.GN (by exact rfl) ?_; conv => whnf) | ((refine Both.mk ?_ ?_ <;> fail_if_success (intro _)) <;> conv => whnf))
end Go.Vc
