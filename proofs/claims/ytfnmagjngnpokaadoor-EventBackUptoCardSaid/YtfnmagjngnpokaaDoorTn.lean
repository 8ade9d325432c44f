/- What is proved here: contracts of functions of the program: of each function what it hands back and what it leaves in memory. Conditions: those that each theorem names. -/
import Derived.Test.YtfnmagjngnpokaaDoorTk
import Derived.Test.YtfnmagjngnpokaaDoorTm
set_option linter.unusedVariables false
set_option linter.unusedSimpArgs false
set_option linter.unusedSectionVars false
namespace Go.Vc
open Go Go.Proofs
set_option maxRecDepth 100000
theorem evBytes_ge (e : EV) : 3 ≤ (evBytes e).length := by
  rw [evBytes_r]
  have := wr_len e.flow.toNat
  simp only [List.length_cons, List.length_append]
  omega
set_option maxHeartbeats 8000000 in
theorem law5 (e : EV) (z1 z2 : Nat) (lp : List PV) (t1 t2 : Bool) (left : Int) (hl : i64 left) (ha : EA e z1 lp z2) (hb : bulkV e.v ≤ 2000000) : CSpec K 5 [.agg (ec e z1 lp t1 z2 t2), .int .i64 left] [] LawPost := by
  refine is5.cspec K_ok K_mix false (by simp) (by simp [keys]) ?_
  (conv => whnf); repeat ((first | (refine And.intro ?_ ?_; focus exact Cl4) | refine Both.T (by exact rfl) ?_ | refine Both.F (by exact rfl) ?_ | refine Both.GT (by exact rfl) (by exact rfl) ?_ | refine Both.GF (by exact rfl) ?_ | refine Both.GN (by exact rfl) ?_); conv => whnf)
  refine evBytes_spec e z1 z2 lp t1 t2 _ ha (fun ho => ?_) (fun ho => ?_)
  · have hlen := evBytes_len hb ho
    have hge := evBytes_ge e
    have henc := ev_enc ho ha.n ha.v.nV
    obtain ⟨w, hw⟩ : ∃ w, w = evBytes e := ⟨_, rfl⟩
    rw [← hw] at hlen hge henc ⊢
    (conv => whnf); repeat ((first | (refine And.intro ?_ ?_; focus exact Cl4) | refine Both.T (by exact rfl) ?_ | refine Both.F (by exact rfl) ?_ | refine Both.GT (by exact rfl) (by exact rfl) ?_ | refine Both.GF (by exact rfl) ?_ | refine Both.GN (by exact rfl) ?_); conv => whnf)
    rw [bs_len]
    refine bring_spec left w.length hl (by omega) (by omega) _ ?_
    have h0 := Int.emod_nonneg left (show (w.length : Int) ≠ 0 by omega)
    have h2 := Int.emod_lt_of_pos left (show (0 : Int) < w.length by omega)
    (conv => whnf); repeat ((first | (refine And.intro ?_ ?_; focus exact Cl4) | refine Both.T (by exact rfl) ?_ | refine Both.F (by exact rfl) ?_ | refine Both.GT (by exact rfl) (by exact rfl) ?_ | refine Both.GF (by exact rfl) ?_ | refine Both.GN (by exact rfl) ?_); conv => whnf)
    rw [List.drop_zero, bs_take]
    refine take_v (w.take (left % (w.length : Int)).toNat) 1 _ (.inl rfl) (by simp; omega) _ (fun e2 he2 _ => ?_) (fun y r hy => ?_)
    · rw [henc.2 _ (by omega)] at he2
      cases he2
      (conv => whnf); repeat ((first | (refine And.intro ?_ ?_; focus exact Cl4) | refine Both.T (by exact rfl) ?_ | refine Both.F (by exact rfl) ?_ | refine Both.GT (by exact rfl) (by exact rfl) ?_ | refine Both.GF (by exact rfl) ?_ | refine Both.GN (by exact rfl) ?_); conv => whnf)
      rw [bs_len, decide_eq_true (show (2 : Int) < (w.length : Int) by omega)]
      (conv => whnf); repeat ((first | (refine And.intro ?_ ?_; focus exact Cl4) | refine Both.T (by exact rfl) ?_ | refine Both.F (by exact rfl) ?_ | refine Both.GT (by exact rfl) (by exact rfl) ?_ | refine Both.GF (by exact rfl) ?_ | refine Both.GN (by exact rfl) ?_); conv => whnf)
      refine works_spec _ ?_
      (conv => whnf); repeat ((first | (refine And.intro ?_ ?_; focus exact Cl4) | refine Both.T (by exact rfl) ?_ | refine Both.F (by exact rfl) ?_ | refine Both.GT (by exact rfl) (by exact rfl) ?_ | refine Both.GF (by exact rfl) ?_ | refine Both.GN (by exact rfl) ?_); conv => whnf)
    · rw [henc.2 _ (by omega)] at hy
      cases hy
  · (conv => whnf); repeat ((first | (refine And.intro ?_ ?_; focus exact Cl4) | refine Both.T (by exact rfl) ?_ | refine Both.F (by exact rfl) ?_ | refine Both.GT (by exact rfl) (by exact rfl) ?_ | refine Both.GF (by exact rfl) ?_ | refine Both.GN (by exact rfl) ?_); conv => whnf)
    refine works_spec _ ?_
    (conv => whnf); repeat ((first | (refine And.intro ?_ ?_; focus exact Cl4) | refine Both.T (by exact rfl) ?_ | refine Both.F (by exact rfl) ?_ | refine Both.GT (by exact rfl) (by exact rfl) ?_ | refine Both.GF (by exact rfl) ?_ | refine Both.GN (by exact rfl) ?_); conv => whnf)
/-! EventAgain. -/
set_option maxHeartbeats 8000000 in
theorem law9 (b : List UInt8) (z : Nat) (t : Bool) (hz : z = 1 ∨ b = []) (hb : b.length ≤ 2000000) : CSpec K 9 [.sl z (bs b) t true] [] LawPost := by
  refine is9.cspec K_ok K_mix false (by simp) (by simp [keys]) ?_
  have hz2 : z = 1 ∨ bs b = [] := hz.imp id fun h => by rw [h]; rfl
  (conv => whnf); repeat ((first | (refine And.intro ?_ ?_; focus exact Cl4) | refine Both.T (by exact rfl) ?_ | refine Both.F (by exact rfl) ?_ | refine Both.GT (by exact rfl) (by exact rfl) ?_ | refine Both.GF (by exact rfl) ?_ | refine Both.GN (by exact rfl) ?_); conv => whnf)
  refine take_v b z t hz (by omega) _ (fun e he he0 => ?_) (fun y r hy z1 lp z2 ha z3 hz3 => ?_)
  · have h2 : (e != 0) = true := by simpa using he0
    (conv => whnf); repeat ((first | (refine And.intro ?_ ?_; focus exact Cl4) | refine Both.T (by exact rfl) ?_ | refine Both.F (by exact rfl) ?_ | refine Both.GT (by exact rfl) (by exact rfl) ?_ | refine Both.GF (by exact rfl) ?_ | refine Both.GN (by exact rfl) ?_); conv => whnf)
    rw [h2]
    (conv => whnf); repeat ((first | (refine And.intro ?_ ?_; focus exact Cl4) | refine Both.T (by exact rfl) ?_ | refine Both.F (by exact rfl) ?_ | refine Both.GT (by exact rfl) (by exact rfl) ?_ | refine Both.GF (by exact rfl) ?_ | refine Both.GN (by exact rfl) ?_); conv => whnf)
    refine evSame_x ⟨0, 0, 0, 0, [], V0⟩ ⟨0, 0, 0, 0, [], V0⟩ true (sameE_refl _) 0 0 [] _ _ 0 0 [] _ _ _ (EA0 0 0) (EA0 0 0) ?_
    (conv => whnf); repeat ((first | (refine And.intro ?_ ?_; focus exact Cl4) | refine Both.T (by exact rfl) ?_ | refine Both.F (by exact rfl) ?_ | refine Both.GT (by exact rfl) (by exact rfl) ?_ | refine Both.GF (by exact rfl) ?_ | refine Both.GN (by exact rfl) ?_); conv => whnf)
    refine works_spec _ ?_
    (conv => whnf); repeat ((first | (refine And.intro ?_ ?_; focus exact Cl4) | refine Both.T (by exact rfl) ?_ | refine Both.F (by exact rfl) ?_ | refine Both.GT (by exact rfl) (by exact rfl) ?_ | refine Both.GF (by exact rfl) ?_ | refine Both.GN (by exact rfl) ?_); conv => whnf)
  · obtain ⟨hbr, ho⟩ := ev_inv hy
    have hrl : (evBytes y).length + r.length = b.length := by rw [hbr, List.length_append]
    (conv => whnf); repeat ((first | (refine And.intro ?_ ?_; focus exact Cl4) | refine Both.T (by exact rfl) ?_ | refine Both.F (by exact rfl) ?_ | refine Both.GT (by exact rfl) (by exact rfl) ?_ | refine Both.GF (by exact rfl) ?_ | refine Both.GN (by exact rfl) ?_); conv => whnf)
    refine evBytes_ref y z1 z2 lp _ _ _ ha (fun _ => ?_) (fun ho' => by rw [ho] at ho'; cases ho')
    (conv => whnf); repeat ((first | (refine And.intro ?_ ?_; focus exact Cl4) | refine Both.T (by exact rfl) ?_ | refine Both.F (by exact rfl) ?_ | refine Both.GT (by exact rfl) (by exact rfl) ?_ | refine Both.GF (by exact rfl) ?_ | refine Both.GN (by exact rfl) ?_); conv => whnf)
    refine evCheck_x y true ho z1 z2 lp _ _ _ ha ?_
    (conv => whnf); repeat ((first | (refine And.intro ?_ ?_; focus exact Cl4) | refine Both.T (by exact rfl) ?_ | refine Both.F (by exact rfl) ?_ | refine Both.GT (by exact rfl) (by exact rfl) ?_ | refine Both.GF (by exact rfl) ?_ | refine Both.GN (by exact rfl) ?_); conv => whnf)
    have hab : ((evBytes y).length + (bs r).length) * 2 ≤ 70368744177664 := by rw [bs_len]; omega
    refine ⟨hab, ?_⟩
    (conv => whnf); repeat ((first | (refine And.intro ?_ ?_; focus exact Cl4) | refine Both.T (by exact rfl) ?_ | refine Both.F (by exact rfl) ?_ | refine Both.GT (by exact rfl) (by exact rfl) ?_ | refine Both.GF (by exact rfl) ?_ | refine Both.GN (by exact rfl) ?_); conv => whnf)
    have hcat : List.take ((evBytes y).length + (bs r).length) (List.drop 0 (List.take (evBytes y).length (bs (evBytes y)) ++ bs r)) = bs b := by
      rw [List.drop_zero, tka, ← bs_app, ← hbr, List.take_of_length_le (by rw [bs_len, bs_len]; omega)]
    rw [hcat]
    refine eq_t b 1 z _ true _ true (.inl rfl) hz2 (by omega) _ ?_
    (conv => whnf); repeat ((first | (refine And.intro ?_ ?_; focus exact Cl4) | refine Both.T (by exact rfl) ?_ | refine Both.F (by exact rfl) ?_ | refine Both.GT (by exact rfl) (by exact rfl) ?_ | refine Both.GF (by exact rfl) ?_ | refine Both.GN (by exact rfl) ?_); conv => whnf)
    refine works_spec _ ?_
    (conv => whnf); repeat ((first | (refine And.intro ?_ ?_; focus exact Cl4) | refine Both.T (by exact rfl) ?_ | refine Both.F (by exact rfl) ?_ | refine Both.GT (by exact rfl) (by exact rfl) ?_ | refine Both.GF (by exact rfl) ?_ | refine Both.GN (by exact rfl) ?_); conv => whnf)
end Go.Vc
