/- What is proved here: contracts of functions of the program: of each function what it hands back and what it leaves in memory. Conditions: those that each theorem names. -/
import Derived.Test.YtfnmagjngnpokaaGreatDoorWj
import Derived.Test.YtfnmagjngnpokaaGreatDoorWk
import Derived.Test.YtfnmagjngnpokaaGreatDoorWa
set_option linter.unusedVariables false
set_option linter.unusedSimpArgs false
set_option linter.unusedSectionVars false
namespace Go.Vc
open Go Go.Proofs
set_option maxRecDepth 100000
def eA : EV := ⟨14, 3, 0, 0, [], V0⟩
def eB : EV := ⟨3, 1, 2, 1, [], V0⟩
theorem eA_EA : EA eA 0 [] 0 := ⟨V0_VA, by decide, ⟨by decide, by decide⟩, ⟨by decide, by decide⟩⟩
theorem eB_EA : EA eB 0 [] 0 := ⟨V0_VA, by decide, ⟨by decide, by decide⟩, ⟨by decide, by decide⟩⟩
set_option maxHeartbeats 16000000 in
theorem works_spec (Post : PV → List (Nat × Blk) → Prop) (h : Post (.bool true) []) : Spec K 12 [] [] Post := by
  refine is12.specW K_ok K_mix false (by simp) (by simp [keys]) ?_
  (conv => whnf); repeat ((first | (refine And.intro ?_ ?_; focus exact Cl3) | refine Both.T (by exact rfl) ?_ | refine Both.F (by exact rfl) ?_ | refine Both.GT (by exact rfl) (by exact rfl) ?_ | refine Both.GF (by exact rfl) ?_ | refine Both.GN (by exact rfl) ?_); conv => whnf)
  refine evBytes_spec eA 0 0 [] _ _ _ eA_EA (fun _ => ?_) (fun hc => absurd hc (by decide +kernel))
  (conv => whnf); repeat ((first | (refine And.intro ?_ ?_; focus exact Cl3) | refine Both.T (by exact rfl) ?_ | refine Both.F (by exact rfl) ?_ | refine Both.GT (by exact rfl) (by exact rfl) ?_ | refine Both.GF (by exact rfl) ?_ | refine Both.GN (by exact rfl) ?_); conv => whnf)
  refine evBytes_spec eB 0 0 [] _ _ _ eB_EA (fun _ => ?_) (fun hc => absurd hc (by decide +kernel))
  (conv => whnf); repeat ((first | (refine And.intro ?_ ?_; focus exact Cl3) | refine Both.T (by exact rfl) ?_ | refine Both.F (by exact rfl) ?_ | refine Both.GT (by exact rfl) (by exact rfl) ?_ | refine Both.GF (by exact rfl) ?_ | refine Both.GN (by exact rfl) ?_); conv => whnf)
  refine parseA_spec _ _ ?_
  (conv => whnf); repeat ((first | (refine And.intro ?_ ?_; focus exact Cl3) | refine Both.T (by exact rfl) ?_ | refine Both.F (by exact rfl) ?_ | refine Both.GT (by exact rfl) (by exact rfl) ?_ | refine Both.GF (by exact rfl) ?_ | refine Both.GN (by exact rfl) ?_); conv => whnf)
  refine parseB_spec _ _ ?_
  (conv => whnf); repeat ((first | (refine And.intro ?_ ?_; focus exact Cl3) | refine Both.T (by exact rfl) ?_ | refine Both.F (by exact rfl) ?_ | refine Both.GT (by exact rfl) (by exact rfl) ?_ | refine Both.GF (by exact rfl) ?_ | refine Both.GN (by exact rfl) ?_); conv => whnf)
  refine parseC_spec _ _ ?_
  (conv => whnf); repeat ((first | (refine And.intro ?_ ?_; focus exact Cl3) | refine Both.T (by exact rfl) ?_ | refine Both.F (by exact rfl) ?_ | refine Both.GT (by exact rfl) (by exact rfl) ?_ | refine Both.GF (by exact rfl) ?_ | refine Both.GN (by exact rfl) ?_); conv => whnf)
  refine eq_spec (evBytes eA) [1, 14, 3] _ _ _ _ _ _ (.inl rfl) (.inl rfl) (by decide +kernel) _ ?_
  rw [show (evBytes eA == [1, 14, 3]) = true by decide +kernel]
  (conv => whnf); repeat ((first | (refine And.intro ?_ ?_; focus exact Cl3) | refine Both.T (by exact rfl) ?_ | refine Both.F (by exact rfl) ?_ | refine Both.GT (by exact rfl) (by exact rfl) ?_ | refine Both.GF (by exact rfl) ?_ | refine Both.GN (by exact rfl) ?_); conv => whnf)
  refine eq_spec (evBytes eB) [1, 3, 1, 2, 2] _ _ _ _ _ _ (.inl rfl) (.inl rfl) (by decide +kernel) _ ?_
  rw [show (evBytes eB == [1, 3, 1, 2, 2]) = true by decide +kernel]
  (conv => whnf); repeat ((first | (refine And.intro ?_ ?_; focus exact Cl3) | refine Both.T (by exact rfl) ?_ | refine Both.F (by exact rfl) ?_ | refine Both.GT (by exact rfl) (by exact rfl) ?_ | refine Both.GF (by exact rfl) ?_ | refine Both.GN (by exact rfl) ?_); conv => whnf)
  exact h
end Go.Vc
