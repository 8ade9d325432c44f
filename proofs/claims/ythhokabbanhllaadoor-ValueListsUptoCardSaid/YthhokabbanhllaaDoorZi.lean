/- What is proved here: ValueLists, of arguments of bulk at most 1048576: the law returns true and its arguments read as they did. Conditions: those that each theorem names. -/
import Derived.Test.YthhokabbanhllaaDoorTBv
import Derived.Test.YthhokabbanhllaaDoorTBq
import Derived.Test.YthhokabbanhllaaDoorTBw
set_option linter.unusedVariables false
set_option linter.unusedSimpArgs false
set_option linter.unusedSectionVars false
namespace Go.Proofs.YthhokabbanhllaaDoor
open Go Go.Proofs Go.Deep Go.ChangeShapes Go.WideShapes Go.ChangeAt Go.RowKit Go.Vc
set_option maxRecDepth 100000
theorem vi_laidOutD : laidOutB Tryd.prog = true := by kernel_rfl
theorem vi_contract (H : Type) (enc : TypeId × Value → H) (W : World) (base : Nat) (args : Array Value) (ds gs : List (DataW H)) (before : List MemPlace)
  (hval : ∀ (j : Nat) t v, Tryd.f8.params[j]? = some t → args[j]? = some v → Value.okWide Tryd.prog W .any base t v)
  (hW : DataW.Whole enc Tryd.prog Tryd.f8.params.toList Rows.valueListsSpec.vars false W args.toList ds gs before) (hL : laidMetH Tryd.prog Rows.valueListsUptoRow.laid W)
  (hk : Rows.uptoSmall H (ds ++ gs) = true) :
  Calls Tryd.prog 8 args W fun e W' => ∃ v, e = .returned v ∧ Rows.valueListsSpec.post enc Tryd.prog Tryd.f8 false true false false W args v W' := by
 have hW' := hW
 obtain ⟨p, q, hA0, hV, rfl, hfz, hnd⟩ := hW
 have hA : DataW.TrodAll enc Tryd.prog W 0 (fun _ => true) true Tryd.f8.params.toList args.toList ds p := hA0
 rw [Tryd.params8] at hA hval
 obtain ⟨v0, vs0, d0, ds0, p0, q0, hargs, rfl, rfl, h0, r0⟩ := trodAll_cons hA
 obtain ⟨v1, vs1, d1, ds1, p1, q1, rfl, rfl, rfl, h1, r1⟩ := trodAll_cons r0
 obtain ⟨rfl, rfl, rfl⟩ := trodAll_nil r1
 obtain rfl : args = #[v0, v1] := by cases args; simp_all
 obtain ⟨rfl, rfl⟩ := trodVars_none hV
 have hb := of_decide_eq_true hk
 simp only [List.append_nil, List.nil_append, Rows.uptoBulkAll] at hb
 obtain ⟨a0, len0, cap0, rfl⟩ := okWide_slice Tryd.underlying22 (hval 0 22 v0 rfl rfl)
 obtain ⟨fuel0, hf0⟩ := h0
 obtain ⟨w0, l0, lp0, hv0, hl0, hrep0, hbl0_⟩ := values_read hf0
 obtain rfl : w0 = .slice a0 len0 cap0 := by simpa [Value.cells] using hv0.symm
 have hbl0 : bulkVs l0 ≤ Rows.uptoBulk d0 := hbl0_
 obtain ⟨s1, rfl⟩ := okWide_string Tryd.underlying9 (hval 1 9 v1 rfl rfl)
 obtain ⟨fuel1, hf1⟩ := h1
 have hbl1 : s1.data.toList.length ≤ Rows.uptoBulk d1 := string_read hf1
 refine (law_end (lists_law l0 lp0 5 false s1.data.toList (.inl rfl) hl0 (by omega) (by omega)) rfl (fun i u x hu hx => ?_) (glob_ok hL)).mono fun e W' ⟨he, hbl⟩ => ?_
 ·rcases i with _ | _ | i
  ·cases hu; cases hx; exact rep_of0 hrep0 rfl
  ·cases hu; cases hx; exact .str _ _ rfl
  ·cases hu
 ·subst he
  have hlt0 : ∀ x ∈ p0, x.block < W.heap.size := fun x hx => hW'.lt x (by simp [hx])
  have hlt1 : ∀ x ∈ p1, x.block < W.heap.size := fun x hx => hW'.lt x (by simp [hx])
  refine ⟨_, rfl, _, _, _, [], p0 ++ (p1 ++ []), [], hW', trodAll_cons_mk (shut_bool Tryd.underlying4 _) trodAll_mk0, ?_, rfl, hbl.frame _, fun h => by cases h⟩
  rw [Tryd.params8]
  exact trodAll_cons_mk (Below.trod vi_laidOutD (by kernel_rfl) (of_decide_eq_true (by kernel_rfl)) ⟨fuel0, hf0⟩ hbl hlt0) (trodAll_cons_mk (Below.trod vi_laidOutD (by kernel_rfl) (of_decide_eq_true (by kernel_rfl)) ⟨fuel1, hf1⟩ hbl hlt1) trodAll_mk0)
def vi_tab (x : Array Value) : Obj → Obj
 | .cells _ t frozen => .cells x t frozen
 | o => o
noncomputable def vi_laidWorld (os : Os) : World :=
 { World.holding Tryd.prog os ⟨#[], #[], []⟩ with heap := (((World.holding Tryd.prog os ⟨#[], #[], []⟩).heap.modify 1 (vi_tab #[.int .u64 1, .int .u64 10, .int .u64 100, .int .u64 1000, .int .u64 10000, .int .u64 100000, .int .u64 1000000, .int .u64 10000000, .int .u64 100000000, .int .u64 1000000000, .int .u64 10000000000, .int .u64 100000000000, .int .u64 1000000000000, .int .u64 10000000000000, .int .u64 100000000000000, .int .u64 1000000000000000, .int .u64 10000000000000000, .int .u64 100000000000000000, .int .u64 1000000000000000000, .int .u64 10000000000000000000])).modify 2 (vi_tab #[.int .u8 0, .int .u8 1, .int .u8 28, .int .u8 2, .int .u8 29, .int .u8 14, .int .u8 24, .int .u8 3, .int .u8 30, .int .u8 22, .int .u8 20, .int .u8 15, .int .u8 25, .int .u8 17, .int .u8 4, .int .u8 8, .int .u8 31, .int .u8 27, .int .u8 13, .int .u8 23, .int .u8 21, .int .u8 19, .int .u8 16, .int .u8 7, .int .u8 26, .int .u8 12, .int .u8 18, .int .u8 6, .int .u8 11, .int .u8 5, .int .u8 10, .int .u8 9])).modify 3 (vi_tab #[.int .u8 0, .int .u8 1, .int .u8 56, .int .u8 2, .int .u8 57, .int .u8 49, .int .u8 28, .int .u8 3, .int .u8 61, .int .u8 58, .int .u8 42, .int .u8 50, .int .u8 38, .int .u8 29, .int .u8 17, .int .u8 4, .int .u8 62, .int .u8 47, .int .u8 59, .int .u8 36, .int .u8 45, .int .u8 43, .int .u8 51, .int .u8 22, .int .u8 53, .int .u8 39, .int .u8 33, .int .u8 30, .int .u8 24, .int .u8 18, .int .u8 12, .int .u8 5, .int .u8 63, .int .u8 55, .int .u8 48, .int .u8 27, .int .u8 60, .int .u8 41, .int .u8 37, .int .u8 16, .int .u8 46, .int .u8 35, .int .u8 44, .int .u8 21, .int .u8 52, .int .u8 32, .int .u8 23, .int .u8 11, .int .u8 54, .int .u8 26, .int .u8 40, .int .u8 15, .int .u8 34, .int .u8 20, .int .u8 31, .int .u8 10, .int .u8 25, .int .u8 14, .int .u8 19, .int .u8 9, .int .u8 13, .int .u8 8, .int .u8 7, .int .u8 6]) }
def vi_wit : Array Value := #[Value.slice none 0 0, .string ⟨#[]⟩]
theorem vi_laid (os : Os) : laidMet Tryd.prog Rows.valueListsUptoRow.laid ((vi_laidWorld os).forCall (fun _ _ => 0) ⟨#[], vi_wit, []⟩).memory :=
 laidMet_of_run' 8 (by kernel_rfl) (by kernel_rfl)
theorem vi_reads (os : Os) {H : Type} (enc : TypeId × Value → H) : ∃ places, DataW.whole enc Tryd.prog ((vi_laidWorld os).forCall (fun _ _ => 0) ⟨#[], vi_wit, []⟩).memory Tryd.f8.params.toList Rows.valueListsSpec.vars false vi_wit.toList 8 =
  some ([.nil, .lit (.string [])], [], places) :=
 ⟨[], by kernel_rfl⟩
theorem vi_lifted (os : Os) (started : os.Started) (H : Type) (enc : TypeId × Value → H) (F : Stop.Interp) :
  ReturnsInHanded {} Tryd.checked os 8 .any ((Rows.OpenSpec.upto Rows.valueListsSpec).preRow enc Tryd.prog Tryd.f8 Rows.valueListsUptoRow.domain false Rows.valueListsUptoRow.laid) (((Rows.OpenSpec.upto Rows.valueListsSpec).at F).post enc Tryd.prog Tryd.f8 false true false false) := by
 obtain ⟨places, hx⟩ := vi_reads os enc
 refine returnsInHanded_of_row (C := Tryd.checked) (s := Rows.OpenSpec.upto Rows.valueListsSpec) own started (by kernel_rfl) Tryd.func8
  (witness_row_at (enc := enc) (C := Tryd.checked) false (vi_laidWorld os) vi_wit rfl (by kernel_rfl) (by kernel_rfl) (by kernel_rfl)
   (OpenSpec.preRow_of_cond 8 hx (by kernel_rfl) (fun k hk => by cases hk; kernel_rfl) (by kernel_rfl) (vi_laid os))) ?_
 intro W base args ds gs before hval hW h1 h2 hcond hL h3 h4
 exact vi_contract H enc W base args ds gs before hval hW hL (by first | exact h1 _ rfl | exact h2 _ rfl | exact h3 _ rfl | exact h4 _ rfl)
theorem vi_said : Rows.ValueListsUptoSaid :=
 OpenClaim.holds_of_cond 8 Tryd.f8 rfl rfl rfl rfl rfl rfl rfl ⟨rfl, rfl, rfl, rfl, rfl⟩ rfl rfl rfl rfl rfl (by kernel_rfl) Tryd.func8 (by kernel_rfl)
  (of_decide_eq_true (by kernel_rfl)) (by unfold Func.isWrapper; first | (rw [if_pos (by decide +kernel)]; kernel_rfl) | (rw [if_neg (by decide +kernel)]; exact ⟨rfl, rfl⟩))
  (fun os started H enc _ F => by rw [OpenClaim.pre_eq_preRow]; exact vi_lifted os started H enc F)
theorem vi_plain (f : FuncId) (fn : Func) (hf : Tryd.pinned.checked.prog.funcNamed "encore/encorelaw07.ValueLists" = some f) (hfn : Tryd.pinned.checked.prog.funcs[f]? = some fn) :
  false = Tryd.pinned.checked.prog.looks [] ∧ ∀ (j : Nat) t, fn.params[j]? = some t → Tryd.pinned.checked.prog.wantsStandIn t = false := by
 obtain rfl : f = 8 := Option.some.inj ((show Tryd.prog.funcNamed "encore/encorelaw07.ValueLists" = some 8 by kernel_rfl).symm.trans hf) |>.symm
 obtain rfl : fn = Tryd.f8 := (Option.some.inj (Tryd.func8.symm.trans hfn)).symm
 refine ⟨by kernel_rfl, fun j t ht => ?_⟩
 rw [Tryd.params8] at ht
 have hm : t = 22 ∨ t = 9 := by have := Array.mem_of_getElem? ht; simpa using this
 rcases hm with rfl | rfl
 ·exact (show Tryd.prog.wantsStandIn 22 = false by kernel_rfl)
 ·exact (show Tryd.prog.wantsStandIn 9 = false by kernel_rfl)
theorem valueListsUpto_holds : Rows.ValueListsUptoCardSaid :=
 Claim7.holds_tied_plain_at .later [] _ _ _ _ vi_said (fun _ h => by cases h) (by kernel_rfl) (fun _ h => by cases h) valueListsUpto_row_tie rfl ⟨rfl, rfl⟩ (by kernel_rfl) rfl vi_plain (by kernel_rfl)
end Go.Proofs.YthhokabbanhllaaDoor
