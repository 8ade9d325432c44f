/- What is proved here: CodeBytes holds of all programs whose bulk is at most 2^20: the bytes of a program are what the document says, and it is left as it was. Conditions: those that each theorem names. -/
import Derived.Test.YtmbopgmllnijjaaGreatTAs
import Derived.Test.YtmbopgmllnijjaaGreatTBh
import Derived.Test.YtmbopgmllnijjaaGreatTBn
set_option linter.unusedVariables false
set_option linter.unusedSimpArgs false
set_option linter.unusedSectionVars false
namespace Go.Proofs.YtmbopgmllnijjaaGreat
open Go Go.Proofs Go.Deep Go.ChangeShapes Go.WideShapes Go.ChangeAt Go.RowKit Go.Vc
set_option maxRecDepth 100000
theorem r21_laidOutD : laidOutB Tryz.prog = true := by kernel_rfl
theorem r21_contract (H : Type) (enc : TypeId × Value → H) (W : World) (base : Nat) (args : Array Value) (ds gs : List (DataW H)) (before : List MemPlace)
  (hval : ∀ (j : Nat) t v, Tryz.f6.params[j]? = some t → args[j]? = some v → Value.okWide Tryz.prog W .any base t v)
  (hW : DataW.Whole enc Tryz.prog Tryz.f6.params.toList Rows.codeBytesSpec.vars false W args.toList ds gs before) (hL : laidMetH Tryz.prog Rows.codeBytesUptoRow.laid W)
  (hk : Rows.uptoSmall H (ds ++ gs) = true) :
  Calls Tryz.prog 6 args W fun e W' => ∃ v, e = .returned v ∧ Rows.codeBytesSpec.post enc Tryz.prog Tryz.f6 false true false false W args v W' := by
 have hW' := hW
 obtain ⟨p, q, hA0, hV, rfl, hfz, hnd⟩ := hW
 have hA : DataW.TrodAll enc Tryz.prog W 0 (fun _ => true) true Tryz.f6.params.toList args.toList ds p := hA0
 rw [Tryz.params6] at hA hval
 obtain ⟨v0, vs0, d0, ds0, p0, q0, hargs, rfl, rfl, h0, r0⟩ := trodAll_cons hA
 obtain ⟨rfl, rfl, rfl⟩ := trodAll_nil r0
 obtain rfl : args = #[v0] := by cases args; simp_all
 obtain ⟨rfl, rfl⟩ := trodVars_none hV
 have hb := of_decide_eq_true hk
 simp only [List.append_nil, Rows.uptoBulkAll] at hb
 obtain ⟨g0, lf0, lc0, hp0, hrep0⟩ := program_read h0 (by omega)
 refine (law_end (bytes_law fits_all works15_law same_law g0 4 lf0 false 5 lc0 false hp0) rfl (fun i u x hu hx => ?_) glob_none).mono fun e W' ⟨he, hbl⟩ => ?_
 ·rcases i with _ | i
  ·cases hu; cases hx; exact hrep0
  ·cases hu
 ·subst he
  have hlt0 : ∀ x ∈ p0, x.block < W.heap.size := fun x hx => hW'.lt x (by simp [hx])
  refine ⟨_, rfl, _, _, _, [], p0 ++ [], [], hW', trodAll_cons_mk (shut_bool Tryz.underlying4 _) trodAll_mk0, ?_, rfl, hbl.frame _, fun h => by cases h⟩
  rw [Tryz.params6]
  exact trodAll_cons_mk (Below.trod r21_laidOutD (by kernel_rfl) (of_decide_eq_true (by kernel_rfl)) h0 hbl hlt0) trodAll_mk0
noncomputable def r21_laidWorld (os : Os) (a : Array Value) : World := World.holding Tryz.prog os ⟨#[], #[], []⟩
def r21_wit : Array Value := #[Value.agg #[.slice none 0 0, .slice none 0 0]]
theorem r21_laid (os : Os) : laidMet Tryz.prog Rows.codeBytesUptoRow.laid ((r21_laidWorld os r21_wit).forCall (fun _ _ => 0) ⟨#[], r21_wit, []⟩).memory :=
 ⟨[], rfl, List.nodup_nil, fun b off h => (by cases h)⟩
theorem r21_reads (os : Os) {H : Type} (enc : TypeId × Value → H) : ∃ places, DataW.whole enc Tryz.prog ((r21_laidWorld os r21_wit).forCall (fun _ _ => 0) ⟨#[], r21_wit, []⟩).memory Tryz.f6.params.toList Rows.codeBytesSpec.vars false r21_wit.toList 8 =
  some ([.agg [.nil, .nil]], [], places) :=
 ⟨[], by kernel_rfl⟩
theorem r21_lifted (os : Os) (started : os.Started) (H : Type) (enc : TypeId × Value → H) (F : Stop.Interp) :
  ReturnsInHanded {} Tryz.checked os 6 .any ((Rows.OpenSpec.upto Rows.codeBytesSpec).preRow enc Tryz.prog Tryz.f6 Rows.codeBytesUptoRow.domain false Rows.codeBytesUptoRow.laid) (((Rows.OpenSpec.upto Rows.codeBytesSpec).at F).post enc Tryz.prog Tryz.f6 false true false false) := by
 obtain ⟨places, hx⟩ := r21_reads os enc
 refine returnsInHanded_of_row (C := Tryz.checked) (s := Rows.OpenSpec.upto Rows.codeBytesSpec) own started (by kernel_rfl) Tryz.func6
  (witness_row_at (enc := enc) (C := Tryz.checked) false (r21_laidWorld os r21_wit) r21_wit rfl (by kernel_rfl) (by kernel_rfl) (by kernel_rfl)
   (OpenSpec.preRow_of_cond 8 hx (by kernel_rfl) (fun k hk => by cases hk; kernel_rfl) (by kernel_rfl) (r21_laid os))) ?_
 intro W base args ds gs before hval hW h1 h2 hcond hL h3 h4
 exact r21_contract H enc W base args ds gs before hval hW hL (by first | exact h1 _ rfl | exact h2 _ rfl | exact h3 _ rfl | exact h4 _ rfl)
theorem r21_said : Rows.CodeBytesUptoSaid :=
 OpenClaim.holds_of_cond 6 Tryz.f6 rfl rfl rfl rfl rfl rfl rfl ⟨rfl, rfl, rfl, rfl, rfl⟩ rfl rfl rfl rfl rfl (by kernel_rfl) Tryz.func6 (by kernel_rfl)
  (of_decide_eq_true (by kernel_rfl)) (by unfold Func.isWrapper; first | (rw [if_pos (by decide +kernel)]; kernel_rfl) | (rw [if_neg (by decide +kernel)]; exact ⟨rfl, rfl⟩))
  (fun os started H enc _ F => by rw [OpenClaim.pre_eq_preRow]; exact r21_lifted os started H enc F)
theorem codeBytesUpto_holds : Rows.CodeBytesUptoSaid := r21_said
end Go.Proofs.YtmbopgmllnijjaaGreat
