/- What is proved here: CodeParses holds of all bytes of which there are at most 2^20: the program of bytes is what the document says, and it does not hang on them. Conditions: those that each theorem names. -/
import Derived.Test.YtmbopgmllnijjaaGreatTAs
import Derived.Test.YtmbopgmllnijjaaGreatTBl
import Derived.Test.YtmbopgmllnijjaaGreatTBr
set_option linter.unusedVariables false
set_option linter.unusedSimpArgs false
set_option linter.unusedSectionVars false
namespace Go.Proofs.YtmbopgmllnijjaaGreat
open Go Go.Proofs Go.Deep Go.ChangeShapes Go.WideShapes Go.ChangeAt Go.RowKit Go.Vc
set_option maxRecDepth 100000
theorem r22_laidOutD : laidOutB Tryz.prog = true := by kernel_rfl
theorem r22_contract (H : Type) (enc : TypeId × Value → H) (W : World) (base : Nat) (args : Array Value) (ds gs : List (DataW H)) (before : List MemPlace)
  (hval : ∀ (j : Nat) t v, Tryz.f7.params[j]? = some t → args[j]? = some v → Value.okWide Tryz.prog W .any base t v)
  (hW : DataW.Whole enc Tryz.prog Tryz.f7.params.toList Rows.codeParsesSpec.vars false W args.toList ds gs before) (hL : laidMetH Tryz.prog Rows.codeParsesUptoRow.laid W)
  (hk : Rows.uptoSmall H (ds ++ gs) = true) :
  Calls Tryz.prog 7 args W fun e W' => ∃ v, e = .returned v ∧ Rows.codeParsesSpec.post enc Tryz.prog Tryz.f7 false true false false W args v W' := by
 have hW' := hW
 obtain ⟨p, q, hA0, hV, rfl, hfz, hnd⟩ := hW
 have hA : DataW.TrodAll enc Tryz.prog W 0 (fun _ => true) true Tryz.f7.params.toList args.toList ds p := hA0
 rw [Tryz.params7] at hA hval
 obtain ⟨v0, vs0, d0, ds0, p0, q0, hargs, rfl, rfl, h0, r0⟩ := trodAll_cons hA
 obtain ⟨rfl, rfl, rfl⟩ := trodAll_nil r0
 obtain rfl : args = #[v0] := by cases args; simp_all
 obtain ⟨rfl, rfl⟩ := trodVars_none hV
 have hb := of_decide_eq_true hk
 simp only [List.append_nil, Rows.uptoBulkAll] at hb
 obtain ⟨a0, len0, cap0, rfl⟩ := okWide_slice Tryz.underlying45 (hval 0 45 v0 rfl rfl)
 obtain ⟨fuel0, hf0⟩ := h0
 obtain ⟨w0, b0, hv0, hrep0, hbl0_⟩ := bytes_read hf0
 obtain rfl : w0 = .slice a0 len0 cap0 := by simpa [Value.cells] using hv0.symm
 have hbl0 : b0.length ≤ Rows.uptoBulk d0 := hbl0_
 refine (law_end (parses_law fits_all works15_law same_law b0 1 false (.inl rfl) (by omega)) rfl (fun i u x hu hx => ?_) glob_none).mono fun e W' ⟨he, hbl⟩ => ?_
 ·rcases i with _ | i
  ·cases hu; cases hx; exact rep_of0 hrep0 rfl
  ·cases hu
 ·subst he
  have hlt0 : ∀ x ∈ p0, x.block < W.heap.size := fun x hx => hW'.lt x (by simp [hx])
  refine ⟨_, rfl, _, _, _, [], p0 ++ [], [], hW', trodAll_cons_mk (shut_bool Tryz.underlying4 _) trodAll_mk0, ?_, rfl, hbl.frame _, fun h => by cases h⟩
  rw [Tryz.params7]
  exact trodAll_cons_mk (Below.trod r22_laidOutD (by kernel_rfl) (of_decide_eq_true (by kernel_rfl)) ⟨fuel0, hf0⟩ hbl hlt0) trodAll_mk0
noncomputable def r22_laidWorld (os : Os) (a : Array Value) : World := World.holding Tryz.prog os ⟨#[], #[], []⟩
def r22_wit : Array Value := #[Value.slice none 0 0]
theorem r22_laid (os : Os) : laidMet Tryz.prog Rows.codeParsesUptoRow.laid ((r22_laidWorld os r22_wit).forCall (fun _ _ => 0) ⟨#[], r22_wit, []⟩).memory :=
 ⟨[], rfl, List.nodup_nil, fun b off h => (by cases h)⟩
theorem r22_reads (os : Os) {H : Type} (enc : TypeId × Value → H) : ∃ places, DataW.whole enc Tryz.prog ((r22_laidWorld os r22_wit).forCall (fun _ _ => 0) ⟨#[], r22_wit, []⟩).memory Tryz.f7.params.toList Rows.codeParsesSpec.vars false r22_wit.toList 8 =
  some ([.nil], [], places) :=
 ⟨[], by kernel_rfl⟩
theorem r22_lifted (os : Os) (started : os.Started) (H : Type) (enc : TypeId × Value → H) (F : Stop.Interp) :
  ReturnsInHanded {} Tryz.checked os 7 .any ((Rows.OpenSpec.upto Rows.codeParsesSpec).preRow enc Tryz.prog Tryz.f7 Rows.codeParsesUptoRow.domain false Rows.codeParsesUptoRow.laid) (((Rows.OpenSpec.upto Rows.codeParsesSpec).at F).post enc Tryz.prog Tryz.f7 false true false false) := by
 obtain ⟨places, hx⟩ := r22_reads os enc
 refine returnsInHanded_of_row (C := Tryz.checked) (s := Rows.OpenSpec.upto Rows.codeParsesSpec) own started (by kernel_rfl) Tryz.func7
  (witness_row_at (enc := enc) (C := Tryz.checked) false (r22_laidWorld os r22_wit) r22_wit rfl (by kernel_rfl) (by kernel_rfl) (by kernel_rfl)
   (OpenSpec.preRow_of_cond 8 hx (by kernel_rfl) (fun k hk => by cases hk; kernel_rfl) (by kernel_rfl) (r22_laid os))) ?_
 intro W base args ds gs before hval hW h1 h2 hcond hL h3 h4
 exact r22_contract H enc W base args ds gs before hval hW hL (by first | exact h1 _ rfl | exact h2 _ rfl | exact h3 _ rfl | exact h4 _ rfl)
theorem r22_said : Rows.CodeParsesUptoSaid :=
 OpenClaim.holds_of_cond 7 Tryz.f7 rfl rfl rfl rfl rfl rfl rfl ⟨rfl, rfl, rfl, rfl, rfl⟩ rfl rfl rfl rfl rfl (by kernel_rfl) Tryz.func7 (by kernel_rfl)
  (of_decide_eq_true (by kernel_rfl)) (by unfold Func.isWrapper; first | (rw [if_pos (by decide +kernel)]; kernel_rfl) | (rw [if_neg (by decide +kernel)]; exact ⟨rfl, rfl⟩))
  (fun os started H enc _ F => by rw [OpenClaim.pre_eq_preRow]; exact r22_lifted os started H enc F)
theorem codeParsesUpto_holds : Rows.CodeParsesUptoSaid := r22_said
end Go.Proofs.YtmbopgmllnijjaaGreat
