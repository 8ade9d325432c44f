/- What is proved here: VerifyEach holds of all programs whose bulk is at most 2^20: a program is sure just if each of its functions is. Conditions: those that each theorem names. -/
import Derived.Test.YtmbopgmllnijjaaRb
import Derived.Test.YtmbopgmllnijjaaQr
set_option linter.unusedVariables false
set_option linter.unusedSimpArgs false
set_option linter.unusedSectionVars false
namespace Go.Proofs.Ytmbopgmllnijjaa
open Go Go.Proofs Go.Deep Go.ChangeShapes Go.WideShapes Go.ChangeAt Go.RowKit Go.Vc
set_option maxRecDepth 100000
theorem r6_laidOutD : laidOutB Try.prog = true := by kernel_rfl
theorem r6_contract (H : Type) (enc : TypeId × Value → H) (W : World) (base : Nat) (args : Array Value) (ds gs : List (DataW H)) (before : List MemPlace)
    (hval : ∀ (j : Nat) t v, Try.f6.params[j]? = some t → args[j]? = some v → Value.okWide Try.prog W .any base t v)
    (hW : DataW.Whole enc Try.prog Try.f6.params.toList Rows.verifyEachSpec.vars false W args.toList ds gs before) (hL : laidMetH Try.prog Rows.verifyEachUptoRow.laid W)
    (hk : Rows.uptoSmall H (ds ++ gs) = true) :
    Calls Try.prog 6 args W fun e W' => ∃ v, e = .returned v ∧ Rows.verifyEachSpec.post enc Try.prog Try.f6 false true false false W args v W' := by
  have hW' := hW
  obtain ⟨p, q, hA0, hV, rfl, hfz, hnd⟩ := hW
  have hA : DataW.TrodAll enc Try.prog W 0 (fun _ => true) true Try.f6.params.toList args.toList ds p := hA0
  rw [Try.params6] at hA hval
  obtain ⟨v0, vs0, d0, ds0, p0, q0, hargs, rfl, rfl, h0, r0⟩ := trodAll_cons hA
  obtain ⟨rfl, rfl, rfl⟩ := trodAll_nil r0
  obtain rfl : args = #[v0] := by cases args; simp_all
  obtain ⟨rfl, rfl⟩ := trodVars_none hV
  have hb := of_decide_eq_true hk
  simp only [List.append_nil, Rows.uptoBulkAll] at hb
  obtain ⟨g0, lf0, lc0, hp0, hrep0⟩ := program_read h0 (by omega)
  refine (law_end (each_law fits_all works_law g0 4 lf0 false 5 lc0 false hp0) rfl (fun i u x hu hx => ?_) glob_none).mono fun e W' ⟨he, hbl⟩ => ?_
  · rcases i with _ | i
    · cases hu; cases hx; exact hrep0
    · cases hu
  · subst he
    have hlt0 : ∀ x ∈ p0, x.block < W.heap.size := fun x hx => hW'.lt x (by simp [hx])
    refine ⟨_, rfl, _, _, _, [], p0 ++ [], [], hW', trodAll_cons_mk (shut_bool Try.underlying4 _) trodAll_mk0, ?_, rfl, hbl.frame _, fun h => by cases h⟩
    rw [Try.params6]
    exact trodAll_cons_mk (Below.trod r6_laidOutD (by kernel_rfl) (of_decide_eq_true (by kernel_rfl)) h0 hbl hlt0) trodAll_mk0
/-- A world for the witness: the settled one. -/
noncomputable def r6_laidWorld (os : Os) (a : Array Value) : World := World.holding Try.prog os ⟨#[], #[], []⟩
def r6_wit : Array Value := #[Value.agg #[.slice none 0 0, .slice none 0 0]]
theorem r6_laid (os : Os) : laidMet Try.prog Rows.verifyEachUptoRow.laid ((r6_laidWorld os r6_wit).forCall (fun _ _ => 0) ⟨#[], r6_wit, []⟩).memory :=
  ⟨[], rfl, List.nodup_nil, fun b off h => (by cases h)⟩
theorem r6_reads (os : Os) {H : Type} (enc : TypeId × Value → H) : ∃ places, DataW.whole enc Try.prog ((r6_laidWorld os r6_wit).forCall (fun _ _ => 0) ⟨#[], r6_wit, []⟩).memory Try.f6.params.toList Rows.verifyEachSpec.vars false r6_wit.toList 8 =
    some ([.agg [.nil, .nil]], [], places) :=
  ⟨[], by kernel_rfl⟩
theorem r6_lifted (os : Os) (started : os.Started) (H : Type) (enc : TypeId × Value → H) (F : Stop.Interp) :
    ReturnsInHanded {} Try.checked os 6 .any ((Rows.OpenSpec.upto Rows.verifyEachSpec).preRow enc Try.prog Try.f6 Rows.verifyEachUptoRow.domain false Rows.verifyEachUptoRow.laid) (((Rows.OpenSpec.upto Rows.verifyEachSpec).at F).post enc Try.prog Try.f6 false true false false) := by
  obtain ⟨places, hx⟩ := r6_reads os enc
  refine returnsInHanded_of_row (C := Try.checked) (s := Rows.OpenSpec.upto Rows.verifyEachSpec) own started (by kernel_rfl) Try.func6
    (witness_row_at (enc := enc) (C := Try.checked) false (r6_laidWorld os r6_wit) r6_wit rfl (by kernel_rfl) (by kernel_rfl) (by kernel_rfl)
      (OpenSpec.preRow_of_cond 8 hx (by kernel_rfl) (fun k hk => by cases hk; kernel_rfl) (by kernel_rfl) (r6_laid os))) ?_
  intro W base args ds gs before hval hW h1 h2 hcond hL h3 h4
  exact r6_contract H enc W base args ds gs before hval hW hL (by first | exact h1 _ rfl | exact h2 _ rfl | exact h3 _ rfl | exact h4 _ rfl)
theorem r6_said : Rows.VerifyEachUptoSaid :=
  OpenClaim.holds_of_cond 6 Try.f6 rfl rfl rfl rfl rfl rfl rfl ⟨rfl, rfl, rfl, rfl, rfl⟩ rfl rfl rfl rfl rfl (by kernel_rfl) Try.func6 (by kernel_rfl)
    (of_decide_eq_true (by kernel_rfl)) (by unfold Func.isWrapper; first | (rw [if_pos (by decide +kernel)]; kernel_rfl) | (rw [if_neg (by decide +kernel)]; exact ⟨rfl, rfl⟩))
    (fun os started H enc _ F => by rw [OpenClaim.pre_eq_preRow]; exact r6_lifted os started H enc F)
/-- VerifyEach holds of all programs whose bulk is at most 2^20: a program is sure just if each of its functions is. -/
theorem verifyEachUpto_holds : Rows.VerifyEachUptoSaid := r6_said
end Go.Proofs.Ytmbopgmllnijjaa
