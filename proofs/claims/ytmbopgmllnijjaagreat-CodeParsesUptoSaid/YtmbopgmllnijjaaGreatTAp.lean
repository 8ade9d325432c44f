/- What is proved here: contracts of functions of the program: of each function what it hands back and what it leaves in memory. Conditions: those that each theorem names. -/
import Derived.Test.YtmbopgmllnijjaaGreatTAo
set_option linter.unusedVariables false
set_option linter.unusedSimpArgs false
set_option linter.unusedSectionVars false
namespace Go.Vc
open Go Go.Proofs
set_option maxRecDepth 100000
def Vz : V := .mk 0 0 [] [] []
def low (c : UInt8) : Bool := decide (97 ≤ c.toNat) && decide (c.toNat ≤ 122)
def wordM (t : List UInt8) : List UInt8 := t.takeWhile low
mutual
def readM : Nat → List UInt8 → List UInt8 × Bool
 | 0, _ => ([], false)
 | n + 1, t =>
  match t with
  | 91 :: r => match readM n r with
   | (93 :: l, ok) => (l, ok)
   | (l, _) => (l, false)
  | 123 :: 125 :: r => (r, true)
  | 123 :: r => recM n [] r
  | _ => (t.drop (wordM t).length, decide (0 ≤ kindM (wordM t)))
def recM : Nat → List (List UInt8) → List UInt8 → List UInt8 × Bool
 | 0, _, _ => ([], false)
 | n + 1, ns, t =>
  match readM n (cutM t).2.1 with
  | (l, ok) => match (cutM t).2.2 && ok, l with
   | true, 125 :: r => (r, rise [] (ns ++ [(cutM t).1]))
   | true, 44 :: r => recM n (ns ++ [(cutM t).1]) r
   | _, _ => ([], false)
end
def fitsT (t : List UInt8) : Bool := decide (t.length ≤ 64) && (readM (2 * t.length + 1) t).2 && (readM (2 * t.length + 1) t).1.isEmpty
def textM (p : PG) (n : Int) : List UInt8 × Bool := if 0 ≤ n then match p.consts[n.toNat]? with | some v => (v.s, v.k == 3) | none => ([], false) else ([], false)
def nameM (s : List UInt8) : Bool := mayV (.mk 5 0 [] [Vz] [s])
def namedM (p : PG) (n : Int) : Bool := (textM p n).2 && nameM (textM p n).1
def recordM (v : V) : Bool := v.l.all (fun x => x.k == 3) && (v.k == 4 && decide (v.l.length ≤ 8) && mayV (.mk 5 0 [] (List.replicate v.l.length Vz) (v.l.map V.s)))
def idxL {α : Type} (P : α → Bool) : List α → Int
 | [] => -1
 | f :: r => if P f = true then 0 else if idxL P r = -1 then -1 else idxL P r + 1
def findM (p : PG) (s : List UInt8) : Int := idxL (fun f => f.name == s) p.funcs
def inB (n : Int) (m : Nat) : Bool := decide (0 ≤ n) && decide (n < m)
def askM (p : PG) (x : IN) : Bool :=
 if x.a = 1 ∨ x.a = 3 then namedM p x.b
 else if x.a = 4 then (textM p x.b).2 && decide (0 ≤ findM p (textM p x.b).1) && (match p.funcs[(findM p (textM p x.b).1).toNat]? with | some f => f.args == 1 | none => false)
 else if x.a = 2 ∨ x.a = 5 ∨ x.a = 6 ∨ x.a = 7 ∨ x.a = 8 then x.b == 0
 else false
def operandM (p : PG) (f : FD) (x : IN) : Bool :=
 if x.op = 1 then inB x.a p.consts.length
 else if x.op = 2 ∨ x.op = 3 then decide (0 ≤ x.a) && decide (x.a < f.locals)
 else if x.op = 20 then decide (0 ≤ x.a) && decide (x.a ≤ 8)
 else if x.op = 21 then inB x.a p.consts.length && (match p.consts[x.a.toNat]? with | some v => recordM v | none => false)
 else if x.op = 22 then namedM p x.a
 else if x.op = 23 then (textM p x.a).2 && fitsT (textM p x.a).1
 else if x.op = 24 ∨ x.op = 25 ∨ x.op = 26 then inB x.a f.code.length
 else if x.op = 29 then inB x.a p.funcs.length
 else if x.op = 31 then askM p x
 else x.a == 0
def insM (p : PG) (f : FD) (x : IN) : Bool := decide (1 ≤ x.op) && decide (x.op ≤ 31) && (x.b == 0 || x.op == 31) && operandM p f x
def headM (p : PG) (f : FD) : Bool := (p.funcs.countP fun g => g.name == f.name) == 1 && nameM f.name && decide (0 ≤ f.args) && decide (f.args ≤ 8) && decide (f.args ≤ f.locals) && decide (f.locals ≤ 32) && decide (0 < f.code.length)
def chkM (p : PG) : Int :=
 if 16 < p.funcs.length ∨ 256 < p.consts.length ∨ (p.funcs.any fun f => decide (512 < f.code.length)) = true then 5
 else if p.funcs = [] ∨ (p.consts.any fun v => !mayV v) = true ∨ (p.funcs.any fun f => !headM p f) = true then 2
 else if (p.funcs.any fun f => f.code.any fun x => !insM p f x) = true then 150
 else 0
end Go.Vc
