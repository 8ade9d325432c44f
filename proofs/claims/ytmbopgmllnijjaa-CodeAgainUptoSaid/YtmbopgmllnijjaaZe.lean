/- What is proved here: CodeAgain holds of all bytes of which there are at most 2^20: what is read is written so, and not otherwise. Conditions: those that each theorem names. -/
import Derived.Test.YtmbopgmllnijjaaRc
import Derived.Test.YtmbopgmllnijjaaCj
set_option linter.unusedVariables false
set_option linter.unusedSimpArgs false
set_option linter.unusedSectionVars false
namespace Go.Proofs.Ytmbopgmllnijjaa
open Go Go.Proofs Go.Deep Go.ChangeShapes Go.WideShapes Go.ChangeAt Go.RowKit Go.Vc
set_option maxRecDepth 100000
theorem r9_laidOutD : laidOutB Try.prog = true := by kernel_rfl
theorem r9_contract (H : Type) (enc : TypeId × Value → H) (W : World) (base : Nat) (args : Array Value) (ds gs : List (DataW H)) (before : List MemPlace)
    (hval : ∀ (j : Nat) t v, Try.f9.params[j]? = some t → args[j]? = some v → Value.okWide Try.prog W .any base t v)
    (hW : DataW.Whole enc Try.prog Try.f9.params.toList Rows.codeAgainSpec.vars false W args.toList ds gs before) (hL : laidMetH Try.prog Rows.codeAgainUptoRow.laid W)
    (hk : Rows.uptoSmall H (ds ++ gs) = true) :
    Calls Try.prog 9 args W fun e W' => ∃ v, e = .returned v ∧ Rows.codeAgainSpec.post enc Try.prog Try.f9 false true false false W args v W' := by
  have hW' := hW
  obtain ⟨p, q, hA0, hV, rfl, hfz, hnd⟩ := hW
  have hA : DataW.TrodAll enc Try.prog W 0 (fun _ => true) true Try.f9.params.toList args.toList ds p := hA0
  rw [Try.params9] at hA hval
  obtain ⟨v0, vs0, d0, ds0, p0, q0, hargs, rfl, rfl, h0, r0⟩ := trodAll_cons hA
  obtain ⟨rfl, rfl, rfl⟩ := trodAll_nil r0
  obtain rfl : args = #[v0] := by cases args; simp_all
  obtain ⟨rfl, rfl⟩ := trodVars_none hV
  have hb := of_decide_eq_true hk
  simp only [List.append_nil, Rows.uptoBulkAll] at hb
  obtain ⟨a0, len0, cap0, rfl⟩ := okWide_slice Try.underlying53 (hval 0 53 v0 rfl rfl)
  obtain ⟨fuel0, hf0⟩ := h0
  obtain ⟨w0, b0, hv0, hrep0, hbl0_⟩ := bytes_read hf0
  obtain rfl : w0 = .slice a0 len0 cap0 := by simpa [Value.cells] using hv0.symm
  have hbl0 : b0.length ≤ Rows.uptoBulk d0 := hbl0_
  refine (law_end (again_law fits_all works15_law same_law b0 1 false (.inl rfl) (by omega)) rfl (fun i u x hu hx => ?_) glob_none).mono fun e W' ⟨he, hbl⟩ => ?_
  · rcases i with _ | i
    · cases hu; cases hx; exact rep_of0 hrep0 rfl
    · cases hu
  · subst he
    have hlt0 : ∀ x ∈ p0, x.block < W.heap.size := fun x hx => hW'.lt x (by simp [hx])
    refine ⟨_, rfl, _, _, _, [], p0 ++ [], [], hW', trodAll_cons_mk (shut_bool Try.underlying4 _) trodAll_mk0, ?_, rfl, hbl.frame _, fun h => by cases h⟩
    rw [Try.params9]
    exact trodAll_cons_mk (Below.trod r9_laidOutD (by kernel_rfl) (of_decide_eq_true (by kernel_rfl)) ⟨fuel0, hf0⟩ hbl hlt0) trodAll_mk0
/-- A world for the witness: the settled one. -/
noncomputable def r9_laidWorld (os : Os) (a : Array Value) : World := World.holding Try.prog os ⟨#[], #[], []⟩
def r9_wit : Array Value := #[Value.slice none 0 0]
theorem r9_laid (os : Os) : laidMet Try.prog Rows.codeAgainUptoRow.laid ((r9_laidWorld os r9_wit).forCall (fun _ _ => 0) ⟨#[], r9_wit, []⟩).memory :=
  ⟨[], rfl, List.nodup_nil, fun b off h => (by cases h)⟩
theorem r9_reads (os : Os) {H : Type} (enc : TypeId × Value → H) : ∃ places, DataW.whole enc Try.prog ((r9_laidWorld os r9_wit).forCall (fun _ _ => 0) ⟨#[], r9_wit, []⟩).memory Try.f9.params.toList Rows.codeAgainSpec.vars false r9_wit.toList 8 =
    some ([.nil], [], places) :=
  ⟨[], by kernel_rfl⟩
theorem r9_lifted (os : Os) (started : os.Started) (H : Type) (enc : TypeId × Value → H) (F : Stop.Interp) :
    ReturnsInHanded {} Try.checked os 9 .any ((Rows.OpenSpec.upto Rows.codeAgainSpec).preRow enc Try.prog Try.f9 Rows.codeAgainUptoRow.domain false Rows.codeAgainUptoRow.laid) (((Rows.OpenSpec.upto Rows.codeAgainSpec).at F).post enc Try.prog Try.f9 false true false false) := by
  obtain ⟨places, hx⟩ := r9_reads os enc
  refine returnsInHanded_of_row (C := Try.checked) (s := Rows.OpenSpec.upto Rows.codeAgainSpec) own started (by kernel_rfl) Try.func9
    (witness_row_at (enc := enc) (C := Try.checked) false (r9_laidWorld os r9_wit) r9_wit rfl (by kernel_rfl) (by kernel_rfl) (by kernel_rfl)
      (OpenSpec.preRow_of_cond 8 hx (by kernel_rfl) (fun k hk => by cases hk; kernel_rfl) (by kernel_rfl) (r9_laid os))) ?_
  intro W base args ds gs before hval hW h1 h2 hcond hL h3 h4
  exact r9_contract H enc W base args ds gs before hval hW hL (by first | exact h1 _ rfl | exact h2 _ rfl | exact h3 _ rfl | exact h4 _ rfl)
theorem r9_said : Rows.CodeAgainUptoSaid :=
  OpenClaim.holds_of_cond 9 Try.f9 rfl rfl rfl rfl rfl rfl rfl ⟨rfl, rfl, rfl, rfl, rfl⟩ rfl rfl rfl rfl rfl (by kernel_rfl) Try.func9 (by kernel_rfl)
    (of_decide_eq_true (by kernel_rfl)) (by unfold Func.isWrapper; first | (rw [if_pos (by decide +kernel)]; kernel_rfl) | (rw [if_neg (by decide +kernel)]; exact ⟨rfl, rfl⟩))
    (fun os started H enc _ F => by rw [OpenClaim.pre_eq_preRow]; exact r9_lifted os started H enc F)
/-- CodeAgain holds of all bytes of which there are at most 2^20: what is read is written so, and not otherwise. -/
theorem codeAgainUpto_holds : Rows.CodeAgainUptoSaid := r9_said
end Go.Proofs.Ytmbopgmllnijjaa
