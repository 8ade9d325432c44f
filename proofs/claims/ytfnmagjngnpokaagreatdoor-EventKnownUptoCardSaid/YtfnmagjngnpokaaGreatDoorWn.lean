/- What is proved here: contracts of functions of the program: of each function what it hands back and what it leaves in memory. Conditions: those that each theorem names. -/
import Derived.WalkKit
import Derived.ProofKit
import Derived.OpenShut
import Derived.Deep.DeepHandedRow
import Derived.Test.YtfnmagjngnpokaaGreatDoorWh
import Derived.Test.YtfnmagjngnpokaaGreatDoorWl
import Derived.Test.YtfnmagjngnpokaaGreatDoorWm
set_option linter.unusedVariables false
set_option linter.unusedSimpArgs false
set_option linter.unusedSectionVars false
namespace Go.Vc
open Go Go.Proofs
set_option maxRecDepth 100000
theorem evCheck_x (e : EV) (b : Bool) (ho : evOk e = b) (z1 z2 : Nat) (lp : List PV) (t1 t2 : Bool) (Post : PV → List (Nat × Blk) → Prop) (a : EA e z1 lp z2) (h : Post (.int .i64 (bif b then 0 else 2)) []) :
    Spec K 13 [.agg (ec e z1 lp t1 z2 t2)] [] Post := evCheck_spec e z1 z2 lp t1 t2 Post a (by rw [ho]; exact h)
theorem evCheckR_x (e : EV) (b : Bool) (ho : evOk e = b) (z1 z2 : Nat) (lp : List PV) (t1 t2 : Bool) (Post : PV → List (Nat × Blk) → Prop) (a : EA e z1 lp z2) (h : Post (.int .i64 (bif b then 0 else 2)) []) :
    Spec K 25 [.agg (ec e z1 lp t1 z2 t2)] [] Post := evCheckR_spec' e z1 z2 lp t1 t2 Post a (by rw [ho]; exact h)
def LawPost : PV → List (Nat × Blk) → Prop := fun r h' => r = .bool true ∧ h' = []
theorem evBytes_len {e : EV} (hb : bulkV e.v ≤ 2000000) (ho : evOk e = true) : (evBytes e).length ≤ 1000000000 := by
  have hw : ∀ m, (wr m).length ≤ 9 := fun m => by have := fol_le m; rw [wr_len]; omega
  simp only [evOk, Bool.and_eq_true] at ho
  obtain ⟨⟨⟨hk, hf⟩, hm⟩, he⟩ := ho
  have h1 := hw e.flow.toNat
  have h2 := hw e.id.toNat
  have h3 := hw (zig e.n)
  have h4 := hw e.s.length
  have h5 := evB_s (k := e.kind) (id := e.id) (n := e.n) (s := e.s) (v := e.v) hk
  have h6 := writeV_len e.v
  unfold evBytes
  cases hb1 : (bitsI .and .i64 (hasI e.kind) 1 != 0) <;> cases hb2 : (bitsI .and .i64 (hasI e.kind) 2 != 0) <;> cases hb3 : (bitsI .and .i64 (hasI e.kind) 4 != 0) <;> cases hb4 : (bitsI .and .i64 (hasI e.kind) 8 != 0)
  all_goals (
    try have h7 := h5 hb3 he
    simp only [cond_true, cond_false, List.length_append, List.length_cons, List.length_nil]
    omega)
set_option maxHeartbeats 64000000 in
theorem law3 (e : EV) (z1 z2 : Nat) (lp : List PV) (t1 t2 : Bool) (a : EA e z1 lp z2) (hb : bulkV e.v ≤ 2000000) : CSpec K 6 [.agg (ec e z1 lp t1 z2 t2)] [] LawPost := by
  refine is6.cspec K_ok K_mix false (by simp) (by simp [keys]) ?_
  (conv => whnf); repeat ((first | (refine And.intro ?_ ?_; focus exact Cl3) | refine Both.T (by exact rfl) ?_ | refine Both.F (by exact rfl) ?_ | refine Both.GT (by exact rfl) (by exact rfl) ?_ | refine Both.GF (by exact rfl) ?_ | refine Both.GN (by exact rfl) ?_); conv => whnf)
  cases ho : evOk e
  · refine evBytes_spec e z1 z2 lp t1 t2 _ a (fun hc => by rw [ho] at hc; cases hc) (fun _ => ?_)
    (conv => whnf); repeat ((first | (refine And.intro ?_ ?_; focus exact Cl3) | refine Both.T (by exact rfl) ?_ | refine Both.F (by exact rfl) ?_ | refine Both.GT (by exact rfl) (by exact rfl) ?_ | refine Both.GF (by exact rfl) ?_ | refine Both.GN (by exact rfl) ?_); conv => whnf)
    refine evBytesR_spec e z1 z2 lp t1 t2 _ a (fun hc => by rw [ho] at hc; cases hc) (fun _ => ?_)
    (conv => whnf); repeat ((first | (refine And.intro ?_ ?_; focus exact Cl3) | refine Both.T (by exact rfl) ?_ | refine Both.F (by exact rfl) ?_ | refine Both.GT (by exact rfl) (by exact rfl) ?_ | refine Both.GF (by exact rfl) ?_ | refine Both.GN (by exact rfl) ?_); conv => whnf)
    (conv => whnf); repeat' (first | ((refine And.intro ?_ ?_; focus exact Cl2); conv => whnf) | ((refine Both.mk ?_ ?_ <;> fail_if_success (intro _)) <;> conv => whnf))
    all_goals (
      refine evCheck_x e _ ho z1 z2 lp t1 t2 _ a ?_
      (conv => whnf); repeat' (first | ((refine And.intro ?_ ?_; focus exact Cl2); conv => whnf) | ((refine Both.mk ?_ ?_ <;> fail_if_success (intro _)) <;> conv => whnf))
      all_goals (
        refine evCheckR_x e _ ho z1 z2 lp t1 t2 _ a ?_
        (conv => whnf); repeat ((first | (refine And.intro ?_ ?_; focus exact Cl3) | refine Both.T (by exact rfl) ?_ | refine Both.F (by exact rfl) ?_ | refine Both.GT (by exact rfl) (by exact rfl) ?_ | refine Both.GF (by exact rfl) ?_ | refine Both.GN (by exact rfl) ?_); conv => whnf)
        refine eq_spec [] [] _ _ _ _ _ _ (.inr rfl) (.inr rfl) (by decide) _ ?_
        rw [show (([] : List UInt8) == []) = true from rfl]
        (conv => whnf); repeat ((first | (refine And.intro ?_ ?_; focus exact Cl3) | refine Both.T (by exact rfl) ?_ | refine Both.F (by exact rfl) ?_ | refine Both.GT (by exact rfl) (by exact rfl) ?_ | refine Both.GF (by exact rfl) ?_ | refine Both.GN (by exact rfl) ?_); conv => whnf)
        refine works_spec _ ?_
        (conv => whnf); repeat ((first | (refine And.intro ?_ ?_; focus exact Cl3) | refine Both.T (by exact rfl) ?_ | refine Both.F (by exact rfl) ?_ | refine Both.GT (by exact rfl) (by exact rfl) ?_ | refine Both.GF (by exact rfl) ?_ | refine Both.GN (by exact rfl) ?_); conv => whnf)))
  · refine evBytes_spec e z1 z2 lp t1 t2 _ a (fun _ => ?_) (fun hc => by rw [ho] at hc; cases hc)
    (conv => whnf); repeat ((first | (refine And.intro ?_ ?_; focus exact Cl3) | refine Both.T (by exact rfl) ?_ | refine Both.F (by exact rfl) ?_ | refine Both.GT (by exact rfl) (by exact rfl) ?_ | refine Both.GF (by exact rfl) ?_ | refine Both.GN (by exact rfl) ?_); conv => whnf)
    refine evBytesR_spec e z1 z2 lp t1 t2 _ a (fun _ => ?_) (fun hc => by rw [ho] at hc; cases hc)
    (conv => whnf); repeat ((first | (refine And.intro ?_ ?_; focus exact Cl3) | refine Both.T (by exact rfl) ?_ | refine Both.F (by exact rfl) ?_ | refine Both.GT (by exact rfl) (by exact rfl) ?_ | refine Both.GF (by exact rfl) ?_ | refine Both.GN (by exact rfl) ?_); conv => whnf)
    (conv => whnf); repeat' (first | ((refine And.intro ?_ ?_; focus exact Cl2); conv => whnf) | ((refine Both.mk ?_ ?_ <;> fail_if_success (intro _)) <;> conv => whnf))
    all_goals (
      refine evCheck_x e _ ho z1 z2 lp t1 t2 _ a ?_
      (conv => whnf); repeat' (first | ((refine And.intro ?_ ?_; focus exact Cl2); conv => whnf) | ((refine Both.mk ?_ ?_ <;> fail_if_success (intro _)) <;> conv => whnf))
      all_goals (
        refine evCheckR_x e _ ho z1 z2 lp t1 t2 _ a ?_
        (conv => whnf); repeat ((first | (refine And.intro ?_ ?_; focus exact Cl3) | refine Both.T (by exact rfl) ?_ | refine Both.F (by exact rfl) ?_ | refine Both.GT (by exact rfl) (by exact rfl) ?_ | refine Both.GF (by exact rfl) ?_ | refine Both.GN (by exact rfl) ?_); conv => whnf)
        refine eq_spec (evBytes e) (evBytes e) _ _ _ _ _ _ (.inl rfl) (.inl rfl) (by have := evBytes_len hb ho; omega) _ ?_
        rw [show (evBytes e == evBytes e) = true from beq_self_eq_true _]
        (conv => whnf); repeat ((first | (refine And.intro ?_ ?_; focus exact Cl3) | refine Both.T (by exact rfl) ?_ | refine Both.F (by exact rfl) ?_ | refine Both.GT (by exact rfl) (by exact rfl) ?_ | refine Both.GF (by exact rfl) ?_ | refine Both.GN (by exact rfl) ?_); conv => whnf)
        refine works_spec _ ?_
        (conv => whnf); repeat ((first | (refine And.intro ?_ ?_; focus exact Cl3) | refine Both.T (by exact rfl) ?_ | refine Both.F (by exact rfl) ?_ | refine Both.GT (by exact rfl) (by exact rfl) ?_ | refine Both.GF (by exact rfl) ?_ | refine Both.GN (by exact rfl) ?_); conv => whnf)))
end Go.Vc
namespace Go.Vc
open Go Go.Proofs Go.Deep Go.ChangeShapes Go.WideShapes Go.ChangeAt Go.RowKit
open Go.Proofs.YtfnmagjngnpokaaGreatDoor
set_option maxRecDepth 100000
theorem own : ownKnob Tryz.prog.godebug = none := by kernel_rfl
theorem below_of {W W' : World} (h : Frame0 W (ownOf (Zall W) φN) W') : Below W.heap.size W W' :=
  ⟨h.os, h.tape, h.output, h.size, fun k hk => h.block k hk fun ⟨⟨_, _, h1⟩, _⟩ => (by cases h1)⟩
theorem law_end {f : Nat} {args : List PV} {W : World} {vs : List Value} (hc : CSpec K f args [] LawPost) (hl : args.length = vs.length)
    (hr : ∀ (i : Nat) u x, args[i]? = some u → vs[i]? = some x → Rep (RN W) u x) (hg : Glob K W (Zall W)) :
    Calls Tryz.prog f ⟨vs⟩ W fun e w' => e = .returned (.bool true) ∧ Below W.heap.size W w' := by
  refine (hc W (Zall W) φN vs ⟨hl, hr, ?_, fun b hb => hb, hg⟩).mono fun e w' ⟨v, he, ha⟩ => ?_
  · exact ⟨fun id b h => (by cases h), fun i j b m m' _ h => (by cases h), fun id x h => (by cases h)⟩
  · obtain ⟨r, h', φ', Z', ⟨rfl, rfl⟩, h2, _, _, _, _, _, h8⟩ := ha
    cases h2
    exact ⟨he, below_of h8⟩
end Go.Vc
