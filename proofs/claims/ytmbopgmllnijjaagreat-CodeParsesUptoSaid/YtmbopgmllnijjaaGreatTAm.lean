/- What is proved here: contracts of functions of the program: of each function what it hands back and what it leaves in memory. Conditions: those that each theorem names. -/
import Derived.Test.YtmbopgmllnijjaaGreatTAl
set_option linter.unusedVariables false
set_option linter.unusedSimpArgs false
set_option linter.unusedSectionVars false
namespace Go.Vc
open Go
structure IN where
 op : Int
 a : Int
 b : Int
 deriving DecidableEq, Inhabited
structure FD where
 name : List UInt8
 args : Int
 locals : Int
 code : List IN
 deriving Inhabited
structure PG where
 funcs : List FD
 consts : List V
def movesM (p : PG) (x : IN) : Int × Int :=
 if x.op = 1 ∨ x.op = 2 then (0, 1)
 else if x.op = 5 then (1, 2)
 else if x.op = 3 ∨ x.op = 4 ∨ x.op = 25 ∨ x.op = 28 ∨ x.op = 30 then (1, 0)
 else if 6 ≤ x.op ∧ x.op ≤ 8 ∨ x.op = 22 ∨ x.op = 23 then (1, 1)
 else if 9 ≤ x.op ∧ x.op ≤ 19 then (2, 1)
 else if x.op = 20 then (x.a, 1)
 else if x.op = 21 then (if 0 ≤ x.a then match p.consts[x.a.toNat]? with | some v => (v.l.length : Int) | none => 0 else 0, 1)
 else if x.op = 29 then (if 0 ≤ x.a then match p.funcs[x.a.toNat]? with | some f => f.args | none => 0 else 0, 1)
 else if x.op = 31 then (if x.a ≠ 3 ∧ x.a ≠ 5 ∧ x.a ≠ 6 then 1 else 0, 1)
 else (0, 0)
structure HS where
 h : Int
 ts : List (Int × Int)
 deriving DecidableEq, Inhabited
def lowOk (s : HS) (n : Int) : Bool := match s.ts.getLast? with | none => true | some t => decide (t.2 ≤ n)
def nextM (p : PG) (x : IN) (i : Nat) (s : HS) : Option (List (Int × HS)) :=
 if s.h < (movesM p x).1 ∨ 32 < s.h - (movesM p x).1 + (movesM p x).2 ∨ lowOk s (s.h - (movesM p x).1) = false then none
 else if x.op = 28 ∨ x.op = 30 then some []
 else if x.op = 24 then some [(x.a, ⟨s.h - (movesM p x).1 + (movesM p x).2, s.ts⟩)]
 else if x.op = 25 then some [(x.a, ⟨s.h - (movesM p x).1 + (movesM p x).2, s.ts⟩), ((i : Int) + 1, ⟨s.h - (movesM p x).1 + (movesM p x).2, s.ts⟩)]
 else if x.op = 26 then
  if 8 ≤ s.ts.length then none
  else some [(x.a, ⟨s.h - (movesM p x).1 + (movesM p x).2 + 1, s.ts⟩), ((i : Int) + 1, ⟨s.h - (movesM p x).1 + (movesM p x).2, s.ts ++ [(x.a, s.h - (movesM p x).1 + (movesM p x).2)]⟩)]
 else if x.op = 27 then
  if s.ts = [] then none else some [((i : Int) + 1, ⟨s.h - (movesM p x).1 + (movesM p x).2, s.ts.dropLast⟩)]
 else some [((i : Int) + 1, ⟨s.h - (movesM p x).1 + (movesM p x).2, s.ts⟩)]
abbrev PL := List (Option HS)
def PL.at (l : PL) (i : Nat) : Option HS := (l[i]?).getD none
def fits (n : Nat) (c : Int × HS) : Prop := 0 ≤ c.1 ∧ c.1 < n ∧ c.2.h ≤ 32
instance (n : Nat) (c : Int × HS) : Decidable (fits n c) := by unfold fits; infer_instance
inductive Reach (p : PG) (c : List IN) : Nat → HS → Prop
 | zero : Reach p c 0 ⟨0, []⟩
 | step {i : Nat} {s : HS} {x : IN} {l : List (Int × HS)} {t : Int × HS} : Reach p c i s → c[i]? = some x → nextM p x i s = some l → t ∈ l → fits c.length t → Reach p c t.1.toNat t.2
structure Sure (p : PG) (c : List IN) : Prop where
 ok : ∀ i s, Reach p c i s → ∃ x l, c[i]? = some x ∧ nextM p x i s = some l ∧ ∀ t ∈ l, fits c.length t
 one : ∀ i s s', Reach p c i s → Reach p c i s' → s = s'
structure Known (p : PG) (c : List IN) (l : PL) : Prop where
 len : l.length = c.length
 at_ : ∀ i s, PL.at l i = some s ↔ Reach p c i s
def Below (p : PG) (c : List IN) (l : PL) : Prop := ∀ i s, PL.at l i = some s → Reach p c i s
structure KS where
 pl : PL
 left : List Nat
 odd : Bool
def PL.free : PL → Nat
 | [] => 0
 | none :: r => 1 + PL.free r
 | some _ :: r => PL.free r
end Go.Vc
