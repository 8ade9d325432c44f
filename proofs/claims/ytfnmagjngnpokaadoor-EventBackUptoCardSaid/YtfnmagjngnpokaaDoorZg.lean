/- What is proved here: contracts of functions of the program: of each function what it hands back and what it leaves in memory. Conditions: those that each theorem names. -/
import Derived.Test.YtfnmagjngnpokaaDoorWn
import Derived.Test.YtfnmagjngnpokaaDoorTp
import Derived.Test.YtfnmagjngnpokaaDoorTq
set_option linter.unusedVariables false
set_option linter.unusedSimpArgs false
set_option linter.unusedSectionVars false
namespace Go.Proofs.YtfnmagjngnpokaaDoor
open Go Go.Proofs Go.Deep Go.ChangeShapes Go.WideShapes Go.ChangeAt Go.RowKit Go.Vc
set_option maxRecDepth 100000
theorem eb_laidOutD : laidOutB Tryd.prog = true := by kernel_rfl
theorem eb_contract (H : Type) (enc : TypeId × Value → H) (W : World) (base : Nat) (args : Array Value) (ds gs : List (DataW H)) (before : List MemPlace)
    (hval : ∀ (j : Nat) t v, Tryd.f8.params[j]? = some t → args[j]? = some v → Value.okWide Tryd.prog W .any base t v)
    (hW : DataW.Whole enc Tryd.prog Tryd.f8.params.toList Rows.eventBackSpec.vars false W args.toList ds gs before) (hL : laidMetH Tryd.prog Rows.eventBackUptoRow.laid W)
    (hk : Rows.uptoSmall H (ds ++ gs) = true) :
    Calls Tryd.prog 8 args W fun e W' => ∃ v, e = .returned v ∧ Rows.eventBackSpec.post enc Tryd.prog Tryd.f8 false true false false W args v W' := by
  have hW' := hW
  obtain ⟨p, q, hA0, hV, rfl, hfz, hnd⟩ := hW
  have hA : DataW.TrodAll enc Tryd.prog W 0 (fun _ => true) true Tryd.f8.params.toList args.toList ds p := hA0
  rw [Tryd.params8] at hA hval
  obtain ⟨v0, vs0, d0, ds0, p0, q0, hargs, rfl, rfl, h0, r0⟩ := trodAll_cons hA
  obtain ⟨v1, vs1, d1, ds1, p1, q1, rfl, rfl, rfl, h1, r1⟩ := trodAll_cons r0
  obtain ⟨rfl, rfl, rfl⟩ := trodAll_nil r1
  obtain rfl : args = #[v0, v1] := by cases args; simp_all
  obtain ⟨rfl, rfl⟩ := trodVars_none hV
  have hb := of_decide_eq_true hk
  simp only [List.append_nil, Rows.uptoBulkAll] at hb
  obtain ⟨a0, len0, cap0, rfl⟩ := okWide_slice Tryd.underlying46 (hval 0 46 v0 rfl rfl)
  obtain ⟨fuel0, hf0⟩ := h0
  obtain ⟨w0, l0, lp0, hv0, hrep0, hE0, hbl0_⟩ := events_read hf0 (by show Rows.uptoBulk d0 ≤ _; omega)
  obtain rfl : w0 = .slice a0 len0 cap0 := by simpa [Value.cells] using hv0.symm
  have hbl0 : l0.length ≤ Rows.uptoBulk d0 := hbl0_
  obtain ⟨a1, len1, cap1, rfl⟩ := okWide_slice Tryd.underlying28 (hval 1 28 v1 rfl rfl)
  obtain ⟨fuel1, hf1⟩ := h1
  obtain ⟨w1, b1, hv1, hrep1, hbl1_⟩ := bytes_read hf1
  obtain rfl : w1 = .slice a1 len1 cap1 := by simpa [Value.cells] using hv1.symm
  have hbl1 : b1.length ≤ Rows.uptoBulk d1 := hbl1_
  refine (law_end (law8 l0 lp0 10 false b1 1 false (.inl rfl) hE0 (by omega) (.inl rfl) (by omega)) rfl (fun i u x hu hx => ?_) (glob_ok hL)).mono fun e W' ⟨he, hbl⟩ => ?_
  · rcases i with _ | _ | i
    · cases hu; cases hx; exact rep_of0 hrep0 rfl
    · cases hu; cases hx; exact rep_of0 hrep1 rfl
    · cases hu
  · subst he
    have hlt0 : ∀ x ∈ p0, x.block < W.heap.size := fun x hx => hW'.lt x (by simp [hx])
    have hlt1 : ∀ x ∈ p1, x.block < W.heap.size := fun x hx => hW'.lt x (by simp [hx])
    refine ⟨_, rfl, _, _, _, [], p0 ++ (p1 ++ []), [], hW', trodAll_cons_mk (shut_bool Tryd.underlying4 _) trodAll_mk0, ?_, rfl, hbl.frame _, fun h => by cases h⟩
    rw [Tryd.params8]
    exact trodAll_cons_mk (Below.trod eb_laidOutD (by kernel_rfl) (of_decide_eq_true (by kernel_rfl)) ⟨fuel0, hf0⟩ hbl hlt0) (trodAll_cons_mk (Below.trod eb_laidOutD (by kernel_rfl) (of_decide_eq_true (by kernel_rfl)) ⟨fuel1, hf1⟩ hbl hlt1) trodAll_mk0)
/-- A world for the witness: the settled one, the table holding what its initialiser lays. -/
noncomputable def eb_laidWorld (os : Os) (a : Array Value) : World :=
  { World.holding Tryd.prog os ⟨#[], #[], []⟩ with heap := (World.holding Tryd.prog os ⟨#[], #[], []⟩).heap.modify 0 fun
      | .cells _ t frozen => .cells #[.int .i64 0, .int .i64 15, .int .i64 13, .int .i64 3, .int .i64 3, .int .i64 9, .int .i64 11, .int .i64 11, .int .i64 1, .int .i64 5, .int .i64 12, .int .i64 15, .int .i64 3, .int .i64 3, .int .i64 0, .int .i64 10] t frozen
      | o => o }
def eb_wit : Array Value := #[Value.slice none 0 0, .slice none 0 0]
theorem eb_laid (os : Os) : laidMet Tryd.prog Rows.eventBackUptoRow.laid ((eb_laidWorld os eb_wit).forCall (fun _ _ => 0) ⟨#[], eb_wit, []⟩).memory :=
  laidMet_of_run' 8 (by kernel_rfl) (by kernel_rfl)
theorem eb_reads (os : Os) {H : Type} (enc : TypeId × Value → H) : ∃ places, DataW.whole enc Tryd.prog ((eb_laidWorld os eb_wit).forCall (fun _ _ => 0) ⟨#[], eb_wit, []⟩).memory Tryd.f8.params.toList Rows.eventBackSpec.vars false eb_wit.toList 8 =
    some ([.nil, .nil], [], places) :=
  ⟨[], by kernel_rfl⟩
theorem eb_lifted (os : Os) (started : os.Started) (H : Type) (enc : TypeId × Value → H) (F : Stop.Interp) :
    ReturnsInHanded {} Tryd.checked os 8 .any ((Rows.OpenSpec.upto Rows.eventBackSpec).preRow enc Tryd.prog Tryd.f8 Rows.eventBackUptoRow.domain false Rows.eventBackUptoRow.laid) (((Rows.OpenSpec.upto Rows.eventBackSpec).at F).post enc Tryd.prog Tryd.f8 false true false false) := by
  obtain ⟨places, hx⟩ := eb_reads os enc
  refine returnsInHanded_of_row (C := Tryd.checked) (s := Rows.OpenSpec.upto Rows.eventBackSpec) own started (by kernel_rfl) Tryd.func8
    (witness_row_at (enc := enc) (C := Tryd.checked) false (eb_laidWorld os eb_wit) eb_wit rfl (by kernel_rfl) (by kernel_rfl) (by kernel_rfl)
      (OpenSpec.preRow_of_cond 8 hx (by kernel_rfl) (fun k hk => by cases hk; kernel_rfl) (by kernel_rfl) (eb_laid os))) ?_
  intro W base args ds gs before hval hW h1 h2 hcond hL h3 h4
  exact eb_contract H enc W base args ds gs before hval hW hL (by first | exact h1 _ rfl | exact h2 _ rfl | exact h3 _ rfl | exact h4 _ rfl)
theorem eb_said : Rows.EventBackUptoSaid :=
  OpenClaim.holds_of_cond 8 Tryd.f8 rfl rfl rfl rfl rfl rfl rfl ⟨rfl, rfl, rfl, rfl, rfl⟩ rfl rfl rfl rfl rfl (by kernel_rfl) Tryd.func8 (by kernel_rfl)
    (of_decide_eq_true (by kernel_rfl)) (by unfold Func.isWrapper; first | (rw [if_pos (by decide +kernel)]; kernel_rfl) | (rw [if_neg (by decide +kernel)]; exact ⟨rfl, rfl⟩))
    (fun os started H enc _ F => by rw [OpenClaim.pre_eq_preRow]; exact eb_lifted os started H enc F)
theorem eb_plain (f : FuncId) (fn : Func) (hf : Tryd.pinned.checked.prog.funcNamed "encore/encorelaw08.EventBack" = some f) (hfn : Tryd.pinned.checked.prog.funcs[f]? = some fn) :
    false = Tryd.pinned.checked.prog.looks [] ∧ ∀ (j : Nat) t, fn.params[j]? = some t → Tryd.pinned.checked.prog.wantsStandIn t = false := by
  obtain rfl : f = 8 := Option.some.inj ((show Tryd.prog.funcNamed "encore/encorelaw08.EventBack" = some 8 by kernel_rfl).symm.trans hf) |>.symm
  obtain rfl : fn = Tryd.f8 := (Option.some.inj (Tryd.func8.symm.trans hfn)).symm
  refine ⟨by kernel_rfl, fun j t ht => ?_⟩
  rw [Tryd.params8] at ht
  have ht2 : t = 46 ∨ t = 28 := by simpa using Array.mem_of_getElem? ht
  rcases ht2 with rfl | rfl
  · exact (show Tryd.prog.wantsStandIn 46 = false by kernel_rfl)
  · exact (show Tryd.prog.wantsStandIn 28 = false by kernel_rfl)
/-- EventBack, of arguments of bulk at most 1048576: the law returns true; the arguments read as they did. -/
theorem eventBackUpto_holds : Rows.EventBackUptoCardSaid :=
  Claim7.holds_tied_plain_at .later [] _ _ _ _ eb_said (fun _ h => by cases h) (by kernel_rfl) (fun _ h => by cases h) eventBackUpto_row_tie rfl ⟨rfl, rfl⟩ (by kernel_rfl) rfl eb_plain (by kernel_rfl)
end Go.Proofs.YtfnmagjngnpokaaDoor
