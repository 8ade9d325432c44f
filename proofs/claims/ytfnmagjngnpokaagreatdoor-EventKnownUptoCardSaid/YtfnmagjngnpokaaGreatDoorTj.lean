/- What is proved here: contracts of functions of the program: of each function what it hands back and what it leaves in memory. Conditions: those that each theorem names. -/
import Derived.Test.YtfnmagjngnpokaaGreatDoorWl
import Derived.Test.YtfnmagjngnpokaaGreatDoorWn
import Derived.Test.YtfnmagjngnpokaaGreatDoorWm
set_option linter.unusedVariables false
set_option linter.unusedSimpArgs false
set_option linter.unusedSectionVars false
namespace Go.Vc
open Go Go.Proofs
set_option maxRecDepth 100000
set_option maxHeartbeats 16000000 in
theorem takeV_spec (c : UInt8) (b : List UInt8) (hc : c ≠ 1) (hb : b ≠ []) (t : Bool) (Post : PV → List (Nat × Blk) → Prop) (h : Post (.tup [zeroE, .sl 0 [] false true, .int .i64 4]) []) :
    Spec K 29 [.sl 1 (bs (c :: b)) t true] [] Post := by
  have hl : 1 ≤ b.length := by cases b with
    | nil => exact absurd rfl hb
    | cons x r => simp
  refine is29.specW K_ok K_mix false (by simp) (by simp [keys]) ?_
  (conv => whnf); repeat ((first | (refine And.intro ?_ ?_; focus exact Cl3) | refine Both.T (by exact rfl) ?_ | refine Both.F (by exact rfl) ?_ | refine Both.GT (by exact rfl) (by exact rfl) ?_ | refine Both.GF (by exact rfl) ?_ | refine Both.GN (by exact rfl) ?_); conv => whnf)
  refine ⟨fun h1 => ?_, fun h1 => ?_⟩
  · have := of_decide_eq_true h1
    rw [bs_len] at this
    simp at this
    omega
  (conv => whnf); repeat ((first | (refine And.intro ?_ ?_; focus exact Cl3) | refine Both.T (by exact rfl) ?_ | refine Both.F (by exact rfl) ?_ | refine Both.GT (by exact rfl) (by exact rfl) ?_ | refine Both.GF (by exact rfl) ?_ | refine Both.GN (by exact rfl) ?_); conv => whnf)
  refine ⟨fun _ => ⟨by decide, by rw [bs_len]; simp only [List.length_cons]; omega⟩, ?_⟩
  (conv => whnf); repeat ((first | (refine And.intro ?_ ?_; focus exact Cl3) | refine Both.T (by exact rfl) ?_ | refine Both.F (by exact rfl) ?_ | refine Both.GT (by exact rfl) (by exact rfl) ?_ | refine Both.GF (by exact rfl) ?_ | refine Both.GN (by exact rfl) ?_); conv => whnf)
  rw [show nth (bs (c :: b)) (Int.toNat 1) = .int .u8 ((b.headD 0).toNat : Int) by cases b with
    | nil => exact absurd rfl hb
    | cons x r => rfl]
  (conv => whnf); repeat ((first | (refine And.intro ?_ ?_; focus exact Cl3) | refine Both.T (by exact rfl) ?_ | refine Both.F (by exact rfl) ?_ | refine Both.GT (by exact rfl) (by exact rfl) ?_ | refine Both.GF (by exact rfl) ?_ | refine Both.GN (by exact rfl) ?_); conv => whnf)
  refine ⟨fun _ => ⟨by decide, by rw [bs_len]; simp only [List.length_cons]; omega⟩, ?_⟩
  (conv => whnf); repeat ((first | (refine And.intro ?_ ?_; focus exact Cl3) | refine Both.T (by exact rfl) ?_ | refine Both.F (by exact rfl) ?_ | refine Both.GT (by exact rfl) (by exact rfl) ?_ | refine Both.GF (by exact rfl) ?_ | refine Both.GN (by exact rfl) ?_); conv => whnf)
  have hv : (((c.toNat : Int)) != 1) = true := by
    simp
    intro h2
    exact hc (UInt8.toNat.inj (by show c.toNat = 1; omega))
  rw [show ((c.toNat : Int) != 1) = true from hv]
  (conv => whnf); repeat ((first | (refine And.intro ?_ ?_; focus exact Cl3) | refine Both.T (by exact rfl) ?_ | refine Both.F (by exact rfl) ?_ | refine Both.GT (by exact rfl) (by exact rfl) ?_ | refine Both.GF (by exact rfl) ?_ | refine Both.GN (by exact rfl) ?_); conv => whnf)
  exact h
end Go.Vc
