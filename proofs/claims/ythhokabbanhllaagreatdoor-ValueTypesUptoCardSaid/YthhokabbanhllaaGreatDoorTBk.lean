/- What is proved here: contracts of functions of the program: of each function what it hands back and what it leaves in memory. Conditions: those that each theorem names. -/
import Derived.Lib.ItoaNum
import Derived.Test.YthhokabbanhllaaGreatDoorTAr
set_option linter.unusedVariables false
set_option linter.unusedSimpArgs false
set_option linter.unusedSectionVars false
namespace Go.Vc
open Go Go.Proofs
set_option maxRecDepth 100000
def hexD (n : Nat) : UInt8 := UInt8.ofNat (if n < 10 then 48 + n else 87 + n)
def escB (c : UInt8) : Bool := decide (c.toNat < 32) || decide (126 < c.toNat) || c.toNat == 34 || c.toNat == 92
def quoC (c : UInt8) : List UInt8 := if escB c = true then [92, hexD (c.toNat / 16), hexD (c.toNat % 16)] else [c]
def quoT (s : List UInt8) : List UInt8 := 34 :: (s.flatMap quoC ++ [34])
def joinC : List (List UInt8) → List UInt8
 | [] => []
 | [a] => a
 | a :: r => a ++ 44 :: joinC r
mutual
def showV : V → List UInt8
 | .mk k n s l ns => if k = 0 then [110, 111, 110, 101] else if k = 1 then Lib.itoa n else if k = 2 then (if n = 1 then [116, 114, 117, 101] else [102, 97, 108, 115, 101]) else if k = 3 then quoT s
  else if k = 6 then 35 :: Lib.itoa n else if k = 5 then 123 :: (joinC (showR ns l) ++ [125]) else 91 :: (joinC (showL l) ++ [93])
def showL : List V → List (List UInt8)
 | [] => []
 | v :: r => showV v :: showL r
def showR : List (List UInt8) → List V → List (List UInt8)
 | _, [] => []
 | ns, v :: r => (ns.headD [] ++ 58 :: showV v) :: showR ns.tail r
end
theorem joinC_cons {a : List UInt8} {r : List (List UInt8)} (h : r ≠ []) : joinC (a :: r) = a ++ 44 :: joinC r := by
 cases r with
 | nil => exact absurd rfl h
 | cons b q => rfl
theorem rise_names : ∀ {d : List UInt8} {ns : List (List UInt8)}, rise d ns = true → ∀ n ∈ ns, isName n = true
 | _, [], _, n, hn => by cases hn
 | d, a :: ns, h, n, hn => by
  simp only [rise, Bool.and_eq_true] at h
  rcases List.mem_cons.1 hn with rfl | hn
  ·exact h.1.2
  ·exact rise_names h.2 n hn
end Go.Vc
