/- What is proved here: contracts of functions of the program: of each function what it hands back and what it leaves in memory. Conditions: those that each theorem names. -/
import Derived.Test.YtfnmagjngnpokaaGreatDoorTg
import Derived.Test.YtfnmagjngnpokaaGreatDoorTd
import Derived.Test.YtfnmagjngnpokaaGreatDoorTh
import Derived.Test.YtfnmagjngnpokaaGreatDoorTi
import Derived.Test.YtfnmagjngnpokaaGreatDoorTj
set_option linter.unusedVariables false
set_option linter.unusedSimpArgs false
set_option linter.unusedSectionVars false
namespace Go.Vc
open Go Go.Proofs
set_option maxRecDepth 100000
/-- The event of bytes that are one. -/
def evParse (b : List UInt8) : Except Int EV :=
  match evTake b with
  | .error e => .error e
  | .ok (y, r) => if r = [] then .ok y else .error 4
set_option maxHeartbeats 8000000 in
theorem parse_p (b : List UInt8) (z : Nat) (t : Bool) (hz : z = 1 ∨ b = []) (hb1 : b.length ≤ 1000000000) (Post : PV → List (Nat × Blk) → Prop)
    (herr : ∀ e, evParse b = .error e → Post (.tup [zeroE, .int .i64 e]) []) (hok : ∀ y, evParse b = .ok y → ∀ z1 lp z2, EA y z1 lp z2 → Post (.tup [.agg (ec y z1 lp false z2 false), .int .i64 0]) []) :
    Spec K 11 [.sl z (bs b) t true] [] Post := by
  refine is11.specW K_ok K_mix false (by simp) (by simp [keys]) ?_
  (conv => whnf); repeat ((first | (refine And.intro ?_ ?_; focus exact Cl4) | refine Both.T (by exact rfl) ?_ | refine Both.F (by exact rfl) ?_ | refine Both.GT (by exact rfl) (by exact rfl) ?_ | refine Both.GF (by exact rfl) ?_ | refine Both.GN (by exact rfl) ?_); conv => whnf)
  refine take_v b z t hz hb1 _ (fun e he he0 => ?_) (fun y r hy z1 lp z2 ha z3 hz3 => ?_)
  · have h2 : (e != 0) = true := by simpa using he0
    (conv => whnf); repeat ((first | (refine And.intro ?_ ?_; focus exact Cl4) | refine Both.T (by exact rfl) ?_ | refine Both.F (by exact rfl) ?_ | refine Both.GT (by exact rfl) (by exact rfl) ?_ | refine Both.GF (by exact rfl) ?_ | refine Both.GN (by exact rfl) ?_); conv => whnf)
    rw [h2]
    (conv => whnf); repeat ((first | (refine And.intro ?_ ?_; focus exact Cl4) | refine Both.T (by exact rfl) ?_ | refine Both.F (by exact rfl) ?_ | refine Both.GT (by exact rfl) (by exact rfl) ?_ | refine Both.GF (by exact rfl) ?_ | refine Both.GN (by exact rfl) ?_); conv => whnf)
    exact herr e (by rw [evParse, he])
  · (conv => whnf); repeat ((first | (refine And.intro ?_ ?_; focus exact Cl4) | refine Both.T (by exact rfl) ?_ | refine Both.F (by exact rfl) ?_ | refine Both.GT (by exact rfl) (by exact rfl) ?_ | refine Both.GF (by exact rfl) ?_ | refine Both.GN (by exact rfl) ?_); conv => whnf)
    rw [bs_len]
    by_cases hr : r = []
    · subst hr
      (conv => whnf); repeat ((first | (refine And.intro ?_ ?_; focus exact Cl4) | refine Both.T (by exact rfl) ?_ | refine Both.F (by exact rfl) ?_ | refine Both.GT (by exact rfl) (by exact rfl) ?_ | refine Both.GF (by exact rfl) ?_ | refine Both.GN (by exact rfl) ?_); conv => whnf)
      exact hok y (by rw [evParse, hy]; rfl) z1 lp z2 ha
    · rw [show decide ((0 : Int) < (r.length : Int)) = true from decide_eq_true (by have := List.length_pos_iff.2 hr; omega)]
      (conv => whnf); repeat ((first | (refine And.intro ?_ ?_; focus exact Cl4) | refine Both.T (by exact rfl) ?_ | refine Both.F (by exact rfl) ?_ | refine Both.GT (by exact rfl) (by exact rfl) ?_ | refine Both.GF (by exact rfl) ?_ | refine Both.GN (by exact rfl) ?_); conv => whnf)
      exact herr 4 (by rw [evParse, hy]; exact if_neg hr)
set_option maxHeartbeats 8000000 in
theorem parse_r (b : List UInt8) (z : Nat) (t : Bool) (hz : z = 1 ∨ b = []) (hb1 : b.length ≤ 1000000000) (Post : PV → List (Nat × Blk) → Prop)
    (herr : ∀ e, evParse b = .error e → Post (.tup [zeroE, .int .i64 e]) []) (hok : ∀ y, evParse b = .ok y → ∀ z1 lp z2, EA y z1 lp z2 → Post (.tup [.agg (ec y z1 lp false z2 false), .int .i64 0]) []) :
    Spec K 31 [.sl z (bs b) t true] [] Post := by
  refine is31.specW K_ok K_mix false (by simp) (by simp [keys]) ?_
  (conv => whnf); repeat ((first | (refine And.intro ?_ ?_; focus exact Cl4) | refine Both.T (by exact rfl) ?_ | refine Both.F (by exact rfl) ?_ | refine Both.GT (by exact rfl) (by exact rfl) ?_ | refine Both.GF (by exact rfl) ?_ | refine Both.GN (by exact rfl) ?_); conv => whnf)
  refine take_r b z t hz hb1 _ (fun e he he0 => ?_) (fun y r hy z1 lp z2 ha z3 hz3 => ?_)
  · have h2 : (e != 0) = true := by simpa using he0
    (conv => whnf); repeat ((first | (refine And.intro ?_ ?_; focus exact Cl4) | refine Both.T (by exact rfl) ?_ | refine Both.F (by exact rfl) ?_ | refine Both.GT (by exact rfl) (by exact rfl) ?_ | refine Both.GF (by exact rfl) ?_ | refine Both.GN (by exact rfl) ?_); conv => whnf)
    rw [h2]
    (conv => whnf); repeat ((first | (refine And.intro ?_ ?_; focus exact Cl4) | refine Both.T (by exact rfl) ?_ | refine Both.F (by exact rfl) ?_ | refine Both.GT (by exact rfl) (by exact rfl) ?_ | refine Both.GF (by exact rfl) ?_ | refine Both.GN (by exact rfl) ?_); conv => whnf)
    exact herr e (by rw [evParse, he])
  · (conv => whnf); repeat ((first | (refine And.intro ?_ ?_; focus exact Cl4) | refine Both.T (by exact rfl) ?_ | refine Both.F (by exact rfl) ?_ | refine Both.GT (by exact rfl) (by exact rfl) ?_ | refine Both.GF (by exact rfl) ?_ | refine Both.GN (by exact rfl) ?_); conv => whnf)
    rw [bs_len]
    by_cases hr : r = []
    · subst hr
      (conv => whnf); repeat ((first | (refine And.intro ?_ ?_; focus exact Cl4) | refine Both.T (by exact rfl) ?_ | refine Both.F (by exact rfl) ?_ | refine Both.GT (by exact rfl) (by exact rfl) ?_ | refine Both.GF (by exact rfl) ?_ | refine Both.GN (by exact rfl) ?_); conv => whnf)
      exact hok y (by rw [evParse, hy]; rfl) z1 lp z2 ha
    · rw [show decide ((0 : Int) < (r.length : Int)) = true from decide_eq_true (by have := List.length_pos_iff.2 hr; omega)]
      (conv => whnf); repeat ((first | (refine And.intro ?_ ?_; focus exact Cl4) | refine Both.T (by exact rfl) ?_ | refine Both.F (by exact rfl) ?_ | refine Both.GT (by exact rfl) (by exact rfl) ?_ | refine Both.GF (by exact rfl) ?_ | refine Both.GN (by exact rfl) ?_); conv => whnf)
      exact herr 4 (by rw [evParse, hy]; exact if_neg hr)
theorem eq_t (a : List UInt8) (z1 z2 : Nat) (t1 o1 t2 o2 : Bool) (h1 : z1 = 1 ∨ bs a = []) (h2 : z2 = 1 ∨ bs a = []) (ha : a.length ≤ 1000000000) (Post : PV → List (Nat × Blk) → Prop) (h : Post (.bool true) []) :
    Spec K 26 [.sl z1 (bs a) t1 true, .sl z2 (bs a) t2 true] [] Post := eq_spec a a z1 z2 _ _ _ _ h1 h2 ha _ (by rw [beq_self_eq_true]; exact h)
end Go.Vc
