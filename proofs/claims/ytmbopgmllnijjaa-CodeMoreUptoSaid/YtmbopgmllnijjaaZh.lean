/- What is proved here: CodeMore holds of all programs, and numbers, whose bulk is at most 2^20: constants and functions more, behind the others, change nothing about whether an instruction may be. Conditions: those that each theorem names. -/
import Derived.Test.YtmbopgmllnijjaaRd
import Derived.Test.YtmbopgmllnijjaaCp
import Derived.Test.YtmbopgmllnijjaaCo
set_option linter.unusedVariables false
set_option linter.unusedSimpArgs false
set_option linter.unusedSectionVars false
namespace Go.Proofs.Ytmbopgmllnijjaa
open Go Go.Proofs Go.Deep Go.ChangeShapes Go.WideShapes Go.ChangeAt Go.RowKit Go.Vc
set_option maxRecDepth 100000
theorem r11_laidOutD : laidOutB Try.prog = true := by kernel_rfl
theorem r11_contract (H : Type) (enc : TypeId × Value → H) (W : World) (base : Nat) (args : Array Value) (ds gs : List (DataW H)) (before : List MemPlace)
    (hval : ∀ (j : Nat) t v, Try.f11.params[j]? = some t → args[j]? = some v → Value.okWide Try.prog W .any base t v)
    (hW : DataW.Whole enc Try.prog Try.f11.params.toList Rows.codeMoreSpec.vars false W args.toList ds gs before) (hL : laidMetH Try.prog Rows.codeMoreUptoRow.laid W)
    (hk : Rows.uptoSmall H (ds ++ gs) = true) :
    Calls Try.prog 11 args W fun e W' => ∃ v, e = .returned v ∧ Rows.codeMoreSpec.post enc Try.prog Try.f11 false true false false W args v W' := by
  have hW' := hW
  obtain ⟨p, q, hA0, hV, rfl, hfz, hnd⟩ := hW
  have hA : DataW.TrodAll enc Try.prog W 0 (fun _ => true) true Try.f11.params.toList args.toList ds p := hA0
  rw [Try.params11] at hA hval
  obtain ⟨v0, vs0, d0, ds0, p0, q0, hargs, rfl, rfl, h0, r0⟩ := trodAll_cons hA
  obtain ⟨v1, vs1, d1, ds1, p1, q1, rfl, rfl, rfl, h1, r1⟩ := trodAll_cons r0
  obtain ⟨rfl, rfl, rfl⟩ := trodAll_nil r1
  obtain rfl : args = #[v0, v1] := by cases args; simp_all
  obtain ⟨rfl, rfl⟩ := trodVars_none hV
  have hb := of_decide_eq_true hk
  simp only [List.append_nil, Rows.uptoBulkAll] at hb
  obtain ⟨g0, lf0, lc0, hp0, hrep0⟩ := program_read h0 (by omega)
  obtain ⟨n1, rfl, rfl, rfl, wn1⟩ := open_int Try.underlying3 (hval 1 3 v1 rfl rfl) h1
  refine (law_end (more_law fits_all works15_law g0 n1 (i64_wf wn1) 4 lf0 false 5 lc0 false hp0) rfl (fun i u x hu hx => ?_) glob_none).mono fun e W' ⟨he, hbl⟩ => ?_
  · rcases i with _ | _ | i
    · cases hu; cases hx; exact hrep0
    · cases hu; cases hx; exact .int _ _
    · cases hu
  · subst he
    have hlt0 : ∀ x ∈ p0, x.block < W.heap.size := fun x hx => hW'.lt x (by simp [hx])
    refine ⟨_, rfl, _, _, _, [], p0 ++ ([] ++ []), [], hW', trodAll_cons_mk (shut_bool Try.underlying4 _) trodAll_mk0, ?_, rfl, hbl.frame _, fun h => by cases h⟩
    rw [Try.params11]
    exact trodAll_cons_mk (Below.trod r11_laidOutD (by kernel_rfl) (of_decide_eq_true (by kernel_rfl)) h0 hbl hlt0) (trodAll_cons_mk (shut_int Try.underlying3 wn1) trodAll_mk0)
/-- A world for the witness: the settled one. -/
noncomputable def r11_laidWorld (os : Os) (a : Array Value) : World := World.holding Try.prog os ⟨#[], #[], []⟩
def r11_wit : Array Value := #[Value.agg #[.slice none 0 0, .slice none 0 0], .int .i64 0]
theorem r11_laid (os : Os) : laidMet Try.prog Rows.codeMoreUptoRow.laid ((r11_laidWorld os r11_wit).forCall (fun _ _ => 0) ⟨#[], r11_wit, []⟩).memory :=
  ⟨[], rfl, List.nodup_nil, fun b off h => (by cases h)⟩
theorem r11_reads (os : Os) {H : Type} (enc : TypeId × Value → H) : ∃ places, DataW.whole enc Try.prog ((r11_laidWorld os r11_wit).forCall (fun _ _ => 0) ⟨#[], r11_wit, []⟩).memory Try.f11.params.toList Rows.codeMoreSpec.vars false r11_wit.toList 8 =
    some ([.agg [.nil, .nil], .lit (.int .i64 0)], [], places) :=
  ⟨[], by kernel_rfl⟩
theorem r11_lifted (os : Os) (started : os.Started) (H : Type) (enc : TypeId × Value → H) (F : Stop.Interp) :
    ReturnsInHanded {} Try.checked os 11 .any ((Rows.OpenSpec.upto Rows.codeMoreSpec).preRow enc Try.prog Try.f11 Rows.codeMoreUptoRow.domain false Rows.codeMoreUptoRow.laid) (((Rows.OpenSpec.upto Rows.codeMoreSpec).at F).post enc Try.prog Try.f11 false true false false) := by
  obtain ⟨places, hx⟩ := r11_reads os enc
  refine returnsInHanded_of_row (C := Try.checked) (s := Rows.OpenSpec.upto Rows.codeMoreSpec) own started (by kernel_rfl) Try.func11
    (witness_row_at (enc := enc) (C := Try.checked) false (r11_laidWorld os r11_wit) r11_wit rfl (by kernel_rfl) (by kernel_rfl) (by kernel_rfl)
      (OpenSpec.preRow_of_cond 8 hx (by kernel_rfl) (fun k hk => by cases hk; kernel_rfl) (by kernel_rfl) (r11_laid os))) ?_
  intro W base args ds gs before hval hW h1 h2 hcond hL h3 h4
  exact r11_contract H enc W base args ds gs before hval hW hL (by first | exact h1 _ rfl | exact h2 _ rfl | exact h3 _ rfl | exact h4 _ rfl)
theorem r11_said : Rows.CodeMoreUptoSaid :=
  OpenClaim.holds_of_cond 11 Try.f11 rfl rfl rfl rfl rfl rfl rfl ⟨rfl, rfl, rfl, rfl, rfl⟩ rfl rfl rfl rfl rfl (by kernel_rfl) Try.func11 (by kernel_rfl)
    (of_decide_eq_true (by kernel_rfl)) (by unfold Func.isWrapper; first | (rw [if_pos (by decide +kernel)]; kernel_rfl) | (rw [if_neg (by decide +kernel)]; exact ⟨rfl, rfl⟩))
    (fun os started H enc _ F => by rw [OpenClaim.pre_eq_preRow]; exact r11_lifted os started H enc F)
/-- CodeMore holds of all programs, and numbers, whose bulk is at most 2^20: constants and functions more, behind the others, change nothing about whether an instruction may be. -/
theorem codeMoreUpto_holds : Rows.CodeMoreUptoSaid := r11_said
end Go.Proofs.Ytmbopgmllnijjaa
