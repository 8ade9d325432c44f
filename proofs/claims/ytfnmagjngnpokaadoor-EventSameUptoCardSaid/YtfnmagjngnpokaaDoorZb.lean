/- What is proved here: contracts of functions of the program: of each function what it hands back and what it leaves in memory. Conditions: those that each theorem names. -/
import Derived.Test.YtfnmagjngnpokaaDoorWn
import Derived.Test.YtfnmagjngnpokaaDoorWq
set_option linter.unusedVariables false
set_option linter.unusedSimpArgs false
set_option linter.unusedSectionVars false
namespace Go.Proofs.YtfnmagjngnpokaaDoor
open Go Go.Proofs Go.Deep Go.ChangeShapes Go.WideShapes Go.ChangeAt Go.RowKit Go.Vc
set_option maxRecDepth 100000
theorem es_laidOutD : laidOutB Tryd.prog = true := by kernel_rfl
theorem es_contract (H : Type) (enc : TypeId × Value → H) (W : World) (args : Array Value) (ds gs : List (DataW H)) (before : List MemPlace)
    (hW : DataW.Whole enc Tryd.prog Tryd.f7.params.toList Rows.eventSameSpec.vars false W args.toList ds gs before) (hL : laidMetH Tryd.prog Rows.eventSameUptoRow.laid W)
    (hk : Rows.uptoSmall H (ds ++ gs) = true) :
    Calls Tryd.prog 7 args W fun e W' => ∃ v, e = .returned v ∧ Rows.eventSameSpec.post enc Tryd.prog Tryd.f7 false true false false W args v W' := by
  have hW' := hW
  obtain ⟨p, q, hA0, hV, rfl, hfz, hnd⟩ := hW
  have hA : DataW.TrodAll enc Tryd.prog W 0 (fun _ => true) true Tryd.f7.params.toList args.toList ds p := hA0
  rw [Tryd.params7] at hA
  obtain ⟨v0, vs0, d0, ds0, p0, q0, hargs, rfl, rfl, h0, r0⟩ := trodAll_cons hA
  obtain ⟨v1, vs1, d1, ds1, p1, q1, rfl, rfl, rfl, h1, r1⟩ := trodAll_cons r0
  obtain ⟨rfl, rfl, rfl⟩ := trodAll_nil r1
  obtain rfl : args = #[v0, v1] := by cases args; simp_all
  obtain ⟨rfl, rfl⟩ := trodVars_none hV
  have hb := of_decide_eq_true hk
  simp only [List.append_nil, Rows.uptoBulkAll] at hb
  obtain ⟨e, lp, ha, _, hrep⟩ := event_read h0 (by omega)
  obtain ⟨e1, lp1, ha1, _, hrep1⟩ := event_read h1 (by omega)
  refine (law_end (law7 e e1 5 1 lp false false 5 1 lp1 false false ha ha1) rfl (fun i u x hu hx => ?_) (glob_ok hL)).mono fun e W' ⟨he, hbl⟩ => ?_
  · rcases i with _ | _ | i
    · cases hu; cases hx; exact hrep
    · cases hu; cases hx; exact hrep1
    · cases hu
  · subst he
    have hlt : ∀ x ∈ p0 ++ p1, x.block < W.heap.size := fun x hx => hW'.lt x (by simpa using hx)
    refine ⟨_, rfl, _, _, _, [], p0 ++ (p1 ++ []), [], hW', trodAll_cons_mk (shut_bool Tryd.underlying4 _) trodAll_mk0, ?_, rfl, hbl.frame _, fun h => by cases h⟩
    rw [Tryd.params7]
    exact trodAll_cons_mk (Below.trod es_laidOutD (by kernel_rfl) (of_decide_eq_true (by kernel_rfl)) h0 hbl fun x hx => hlt x (by simp [hx]))
      (trodAll_cons_mk (Below.trod es_laidOutD (by kernel_rfl) (of_decide_eq_true (by kernel_rfl)) h1 hbl fun x hx => hlt x (by simp [hx])) trodAll_mk0)
/-- A world for the witness: the settled one, the table holding what its initialiser lays. -/
noncomputable def es_laidWorld (os : Os) (a : Array Value) : World :=
  { World.holding Tryd.prog os ⟨#[], #[], []⟩ with heap := (World.holding Tryd.prog os ⟨#[], #[], []⟩).heap.modify 0 fun
      | .cells _ t frozen => .cells #[.int .i64 0, .int .i64 15, .int .i64 13, .int .i64 3, .int .i64 3, .int .i64 9, .int .i64 11, .int .i64 11, .int .i64 1, .int .i64 5, .int .i64 12, .int .i64 15, .int .i64 3, .int .i64 3, .int .i64 0, .int .i64 10] t frozen
      | o => o }
def es_zeroV : Value := .agg #[.int .i64 0, .int .i64 0, .int .i64 0, .int .i64 0, .string ⟨#[]⟩, .int .i64 0, .int .i64 0, .string ⟨#[]⟩, .slice none 0 0, .slice none 0 0]
theorem es_laid (os : Os) : laidMet Tryd.prog Rows.eventSameUptoRow.laid ((es_laidWorld os #[es_zeroV, es_zeroV]).forCall (fun _ _ => 0) ⟨#[], #[es_zeroV, es_zeroV], []⟩).memory :=
  laidMet_of_run' 8 (by kernel_rfl) (by kernel_rfl)
theorem es_reads (os : Os) {H : Type} (enc : TypeId × Value → H) : ∃ places, DataW.whole enc Tryd.prog ((es_laidWorld os #[es_zeroV, es_zeroV]).forCall (fun _ _ => 0) ⟨#[], #[es_zeroV, es_zeroV], []⟩).memory Tryd.f7.params.toList Rows.eventSameSpec.vars false #[es_zeroV, es_zeroV].toList 8 =
    some ([.agg [.lit (.int .i64 0), .lit (.int .i64 0), .lit (.int .i64 0), .lit (.int .i64 0), .lit (.string []), .agg [.lit (.int .i64 0), .lit (.int .i64 0), .lit (.string []), .nil, .nil]], .agg [.lit (.int .i64 0), .lit (.int .i64 0), .lit (.int .i64 0), .lit (.int .i64 0), .lit (.string []), .agg [.lit (.int .i64 0), .lit (.int .i64 0), .lit (.string []), .nil, .nil]]], [], places) :=
  ⟨[], by kernel_rfl⟩
theorem es_lifted (os : Os) (started : os.Started) (H : Type) (enc : TypeId × Value → H) (F : Stop.Interp) :
    ReturnsInHanded {} Tryd.checked os 7 .any ((Rows.OpenSpec.upto Rows.eventSameSpec).preRow enc Tryd.prog Tryd.f7 Rows.eventSameUptoRow.domain false Rows.eventSameUptoRow.laid) (((Rows.OpenSpec.upto Rows.eventSameSpec).at F).post enc Tryd.prog Tryd.f7 false true false false) := by
  obtain ⟨places, hx⟩ := es_reads os enc
  refine returnsInHanded_of_row (C := Tryd.checked) (s := Rows.OpenSpec.upto Rows.eventSameSpec) own started (by kernel_rfl) Tryd.func7
    (witness_row_at (enc := enc) (C := Tryd.checked) false (es_laidWorld os #[es_zeroV, es_zeroV]) #[es_zeroV, es_zeroV] rfl (by kernel_rfl) (by kernel_rfl) (by kernel_rfl)
      (OpenSpec.preRow_of_cond 8 hx (by kernel_rfl) (fun k hk => by cases hk; kernel_rfl) (by kernel_rfl) (es_laid os))) ?_
  intro W base args ds gs before hval hW h1 h2 hcond hL h3 h4
  exact es_contract H enc W args ds gs before hW hL (by first | exact h1 _ rfl | exact h2 _ rfl | exact h3 _ rfl | exact h4 _ rfl)
theorem es_said : Rows.EventSameUptoSaid :=
  OpenClaim.holds_of_cond 7 Tryd.f7 rfl rfl rfl rfl rfl rfl rfl ⟨rfl, rfl, rfl, rfl, rfl⟩ rfl rfl rfl rfl rfl (by kernel_rfl) Tryd.func7 (by kernel_rfl)
    (of_decide_eq_true (by kernel_rfl)) (by unfold Func.isWrapper; first | (rw [if_pos (by decide +kernel)]; kernel_rfl) | (rw [if_neg (by decide +kernel)]; exact ⟨rfl, rfl⟩))
    (fun os started H enc _ F => by rw [OpenClaim.pre_eq_preRow]; exact es_lifted os started H enc F)
theorem es_plain (f : FuncId) (fn : Func) (hf : Tryd.pinned.checked.prog.funcNamed "encore/encorelaw08.EventSame" = some f) (hfn : Tryd.pinned.checked.prog.funcs[f]? = some fn) :
    false = Tryd.pinned.checked.prog.looks [] ∧ ∀ (j : Nat) t, fn.params[j]? = some t → Tryd.pinned.checked.prog.wantsStandIn t = false := by
  obtain rfl : f = 7 := Option.some.inj ((show Tryd.prog.funcNamed "encore/encorelaw08.EventSame" = some 7 by kernel_rfl).symm.trans hf) |>.symm
  obtain rfl : fn = Tryd.f7 := (Option.some.inj (Tryd.func7.symm.trans hfn)).symm
  refine ⟨by kernel_rfl, fun j t ht => ?_⟩
  rw [Tryd.params7] at ht
  obtain rfl : t = 27 := by simpa using Array.mem_of_getElem? ht
  exact (show Tryd.prog.wantsStandIn 27 = false by kernel_rfl)
/-- EventSame, of arguments of bulk at most 1048576: the law returns true; the argument reads as it did. -/
theorem eventSameUpto_holds : Rows.EventSameUptoCardSaid :=
  Claim7.holds_tied_plain_at .later [] _ _ _ _ es_said (fun _ h => by cases h) (by kernel_rfl) (fun _ h => by cases h) eventSameUpto_row_tie rfl ⟨rfl, rfl⟩ (by kernel_rfl) rfl es_plain (by kernel_rfl)
end Go.Proofs.YtfnmagjngnpokaaDoor
