/- What is proved here: contracts of functions of the program: of each function what it hands back and what it leaves in memory. Conditions: those that each theorem names. -/
import Derived.Test.YtfnmagjngnpokaaDoorWn
import Derived.Test.YtfnmagjngnpokaaDoorTn
set_option linter.unusedVariables false
set_option linter.unusedSimpArgs false
set_option linter.unusedSectionVars false
namespace Go.Proofs.YtfnmagjngnpokaaDoor
open Go Go.Proofs Go.Deep Go.ChangeShapes Go.WideShapes Go.ChangeAt Go.RowKit Go.Vc
set_option maxRecDepth 100000
theorem ea_laidOutD : laidOutB Tryd.prog = true := by kernel_rfl
theorem ea_contract (H : Type) (enc : TypeId × Value → H) (W : World) (base : Nat) (args : Array Value) (ds gs : List (DataW H)) (before : List MemPlace)
    (hval : ∀ (j : Nat) t v, Tryd.f9.params[j]? = some t → args[j]? = some v → Value.okWide Tryd.prog W .any base t v)
    (hW : DataW.Whole enc Tryd.prog Tryd.f9.params.toList Rows.eventAgainSpec.vars false W args.toList ds gs before) (hL : laidMetH Tryd.prog Rows.eventAgainUptoRow.laid W)
    (hk : Rows.uptoSmall H (ds ++ gs) = true) :
    Calls Tryd.prog 9 args W fun e W' => ∃ v, e = .returned v ∧ Rows.eventAgainSpec.post enc Tryd.prog Tryd.f9 false true false false W args v W' := by
  have hW' := hW
  obtain ⟨p, q, hA0, hV, rfl, hfz, hnd⟩ := hW
  have hA : DataW.TrodAll enc Tryd.prog W 0 (fun _ => true) true Tryd.f9.params.toList args.toList ds p := hA0
  rw [Tryd.params9] at hA hval
  obtain ⟨v0, vs0, d0, ds0, p0, q0, hargs, rfl, rfl, h0, r0⟩ := trodAll_cons hA
  obtain ⟨rfl, rfl, rfl⟩ := trodAll_nil r0
  obtain rfl : args = #[v0] := by cases args; simp_all
  obtain ⟨rfl, rfl⟩ := trodVars_none hV
  have hb := of_decide_eq_true hk
  simp only [List.append_nil, Rows.uptoBulkAll] at hb
  obtain ⟨a0, len0, cap0, rfl⟩ := okWide_slice Tryd.underlying28 (hval 0 28 v0 rfl rfl)
  obtain ⟨fuel0, hf0⟩ := h0
  obtain ⟨w0, b0, hv0, hrep0, hbl0_⟩ := bytes_read hf0
  obtain rfl : w0 = .slice a0 len0 cap0 := by simpa [Value.cells] using hv0.symm
  have hbl0 : b0.length ≤ Rows.uptoBulk d0 := hbl0_
  refine (law_end (law9 b0 1 false (.inl rfl) (by omega)) rfl (fun i u x hu hx => ?_) (glob_ok hL)).mono fun e W' ⟨he, hbl⟩ => ?_
  · rcases i with _ | i
    · cases hu; cases hx; exact rep_of0 hrep0 rfl
    · cases hu
  · subst he
    have hlt0 : ∀ x ∈ p0, x.block < W.heap.size := fun x hx => hW'.lt x (by simp [hx])
    refine ⟨_, rfl, _, _, _, [], p0 ++ [], [], hW', trodAll_cons_mk (shut_bool Tryd.underlying4 _) trodAll_mk0, ?_, rfl, hbl.frame _, fun h => by cases h⟩
    rw [Tryd.params9]
    exact trodAll_cons_mk (Below.trod ea_laidOutD (by kernel_rfl) (of_decide_eq_true (by kernel_rfl)) ⟨fuel0, hf0⟩ hbl hlt0) trodAll_mk0
/-- A world for the witness: the settled one, the table holding what its initialiser lays. -/
noncomputable def ea_laidWorld (os : Os) (a : Array Value) : World :=
  { World.holding Tryd.prog os ⟨#[], #[], []⟩ with heap := (World.holding Tryd.prog os ⟨#[], #[], []⟩).heap.modify 0 fun
      | .cells _ t frozen => .cells #[.int .i64 0, .int .i64 15, .int .i64 13, .int .i64 3, .int .i64 3, .int .i64 9, .int .i64 11, .int .i64 11, .int .i64 1, .int .i64 5, .int .i64 12, .int .i64 15, .int .i64 3, .int .i64 3, .int .i64 0, .int .i64 10] t frozen
      | o => o }
def ea_wit : Array Value := #[Value.slice none 0 0]
theorem ea_laid (os : Os) : laidMet Tryd.prog Rows.eventAgainUptoRow.laid ((ea_laidWorld os ea_wit).forCall (fun _ _ => 0) ⟨#[], ea_wit, []⟩).memory :=
  laidMet_of_run' 8 (by kernel_rfl) (by kernel_rfl)
theorem ea_reads (os : Os) {H : Type} (enc : TypeId × Value → H) : ∃ places, DataW.whole enc Tryd.prog ((ea_laidWorld os ea_wit).forCall (fun _ _ => 0) ⟨#[], ea_wit, []⟩).memory Tryd.f9.params.toList Rows.eventAgainSpec.vars false ea_wit.toList 8 =
    some ([.nil], [], places) :=
  ⟨[], by kernel_rfl⟩
theorem ea_lifted (os : Os) (started : os.Started) (H : Type) (enc : TypeId × Value → H) (F : Stop.Interp) :
    ReturnsInHanded {} Tryd.checked os 9 .any ((Rows.OpenSpec.upto Rows.eventAgainSpec).preRow enc Tryd.prog Tryd.f9 Rows.eventAgainUptoRow.domain false Rows.eventAgainUptoRow.laid) (((Rows.OpenSpec.upto Rows.eventAgainSpec).at F).post enc Tryd.prog Tryd.f9 false true false false) := by
  obtain ⟨places, hx⟩ := ea_reads os enc
  refine returnsInHanded_of_row (C := Tryd.checked) (s := Rows.OpenSpec.upto Rows.eventAgainSpec) own started (by kernel_rfl) Tryd.func9
    (witness_row_at (enc := enc) (C := Tryd.checked) false (ea_laidWorld os ea_wit) ea_wit rfl (by kernel_rfl) (by kernel_rfl) (by kernel_rfl)
      (OpenSpec.preRow_of_cond 8 hx (by kernel_rfl) (fun k hk => by cases hk; kernel_rfl) (by kernel_rfl) (ea_laid os))) ?_
  intro W base args ds gs before hval hW h1 h2 hcond hL h3 h4
  exact ea_contract H enc W base args ds gs before hval hW hL (by first | exact h1 _ rfl | exact h2 _ rfl | exact h3 _ rfl | exact h4 _ rfl)
theorem ea_said : Rows.EventAgainUptoSaid :=
  OpenClaim.holds_of_cond 9 Tryd.f9 rfl rfl rfl rfl rfl rfl rfl ⟨rfl, rfl, rfl, rfl, rfl⟩ rfl rfl rfl rfl rfl (by kernel_rfl) Tryd.func9 (by kernel_rfl)
    (of_decide_eq_true (by kernel_rfl)) (by unfold Func.isWrapper; first | (rw [if_pos (by decide +kernel)]; kernel_rfl) | (rw [if_neg (by decide +kernel)]; exact ⟨rfl, rfl⟩))
    (fun os started H enc _ F => by rw [OpenClaim.pre_eq_preRow]; exact ea_lifted os started H enc F)
theorem ea_plain (f : FuncId) (fn : Func) (hf : Tryd.pinned.checked.prog.funcNamed "encore/encorelaw08.EventAgain" = some f) (hfn : Tryd.pinned.checked.prog.funcs[f]? = some fn) :
    false = Tryd.pinned.checked.prog.looks [] ∧ ∀ (j : Nat) t, fn.params[j]? = some t → Tryd.pinned.checked.prog.wantsStandIn t = false := by
  obtain rfl : f = 9 := Option.some.inj ((show Tryd.prog.funcNamed "encore/encorelaw08.EventAgain" = some 9 by kernel_rfl).symm.trans hf) |>.symm
  obtain rfl : fn = Tryd.f9 := (Option.some.inj (Tryd.func9.symm.trans hfn)).symm
  refine ⟨by kernel_rfl, fun j t ht => ?_⟩
  rw [Tryd.params9] at ht
  obtain rfl : t = 28 := by simpa using Array.mem_of_getElem? ht
  exact (show Tryd.prog.wantsStandIn 28 = false by kernel_rfl)
/-- EventAgain, of arguments of bulk at most 1048576: the law returns true; the argument reads as it did. -/
theorem eventAgainUpto_holds : Rows.EventAgainUptoCardSaid :=
  Claim7.holds_tied_plain_at .later [] _ _ _ _ ea_said (fun _ h => by cases h) (by kernel_rfl) (fun _ h => by cases h) eventAgainUpto_row_tie rfl ⟨rfl, rfl⟩ (by kernel_rfl) rfl ea_plain (by kernel_rfl)
end Go.Proofs.YtfnmagjngnpokaaDoor
