/- What is proved here: contracts of functions of the program: of each function what it hands back and what it leaves in memory. Conditions: those that each theorem names. -/
import Derived.Test.YthhokabbanhllaaGreatDoorTBp
import Derived.Test.YthhokabbanhllaaGreatDoorTAr
set_option linter.unusedVariables false
set_option linter.unusedSimpArgs false
set_option linter.unusedSectionVars false
namespace Go.Vc
open Go Go.Proofs
def LawPost : PV → List (Nat × Blk) → Prop := fun r h => r = .bool true ∧ h = []
end Go.Vc
namespace Go.Vc
open Go Go.Proofs
set_option maxRecDepth 100000
theorem sameV_self (v : V) : sameV v v = true := by rw [sameV, cmpV_self]; rfl
theorem sameS_x (a b : V) (x : Bool) (hx : sameV a b = x) (z1 z2 : Nat) (lp : List PV) (t1 t2 : Bool) (x1 x2 : Nat) (mp : List PV) (u1 u2 : Bool) (Post : PV → List (Nat × Blk) → Prop) (ha : VA a z1 lp z2) (hb : VA b x1 mp x2)
  (h : Post (.bool x) []) : Spec K 15 [.agg (vc a z1 lp t1 z2 t2), .agg (vc b x1 mp u1 x2 u2)] [] Post := by
 subst hx
 exact sameR_spec a b z1 z2 lp t1 t2 x1 x2 mp u1 u2 Post ha hb h
end Go.Vc
