/- What is proved here: contracts of functions of the program: of each function what it hands back and what it leaves in memory. Conditions: those that each theorem names. -/
import Derived.Orders
import Derived.Laws.World
import Derived.Laws.Sem
import Derived.Below
import Derived.Laws.AppendOwn
import Derived.Laws.Entries
import Derived.Laws.StructEq
import Derived.Lib.Strings
set_option linter.unusedVariables false
set_option linter.unusedSimpArgs false
set_option linter.unusedSectionVars false
namespace Go.Vc
open Go
inductive PV where
 | int (k : IntKind) (n : Int)
 | bool (b : Bool)
 | str (s : List UInt8)
 | raw (v : Value)
 | fn (f : Fn) (first caps : List PV)
 | ptr (id off : Nat)
 | eptr (sz id j off : Nat)
 | ro (l : List PV) (off : Nat) (o : Bool)
 | sl (sz : Nat) (l : List PV) (t o : Bool)
 | ref (sz id lo n : Nat)
 | agg (l : List PV)
 | tup (l : List PV)
 | cond (c : Bool) (v : PV)
 | undef
 deriving Inhabited
def PV.cells : PV → List PV
 | .agg l => l
 | .int k n => [.int k n]
 | .bool b => [.bool b]
 | .str s => [.str s]
 | .raw v => [.raw v]
 | .fn f x y => [.fn f x y]
 | .ptr i o => [.ptr i o]
 | .eptr s i j o => [.eptr s i j o]
 | .ro l o b => [.ro l o b]
 | .sl s l t o => [.sl s l t o]
 | .ref s i l n => [.ref s i l n]
 | .tup l => [.tup l]
 | .cond c v => [.cond c v]
 | .undef => [.undef]
def PV.one : PV → Bool
 | .int _ _ | .bool _ | .str _ | .fn .. | .ptr .. | .eptr .. | .ro .. | .sl .. | .ref .. => true
 | .raw v => v.oneCell'
 | _ => false
def PV.flat : PV → Bool
 | .int _ _ | .bool _ | .str _ | .sl .. => true
 | _ => false
def PV.old : PV → Bool
 | .sl _ _ _ o => o
 | .ro _ _ o => o
 | _ => false
def PV.retag (o : Bool) : PV → PV
 | .sl s l t _ => .sl s l t o
 | .int k n => .int k n
 | .bool b => .bool b
 | .str s => .str s
 | .raw v => .raw v
 | _ => .undef
def PV.strip : PV → PV
 | .cond _ v => v
 | .agg l => .agg l
 | .int k n => .int k n
 | .bool b => .bool b
 | .str s => .str s
 | .raw v => .raw v
 | .fn f x y => .fn f x y
 | .ptr i o => .ptr i o
 | .eptr s i j o => .eptr s i j o
 | .ro l o b => .ro l o b
 | .sl s l t o => .sl s l t o
 | .ref s i l n => .ref s i l n
 | .tup l => .tup l
 | .undef => .undef
def cellOf : Value → PV
 | .int k n => .int k n
 | .bool b => .bool b
 | .string s => .str s.data.toList
 | .slice none 0 0 => .sl 0 [] true false
 | v => .raw v
def ofConst : Value → PV
 | .agg cs => .agg (cs.toList.map cellOf)
 | .tuple cs => .tup (cs.toList.map cellOf)
 | .int k n => .int k n
 | .bool b => .bool b
 | .string s => .str s.data.toList
 | .slice none 0 0 => .sl 0 [] true false
 | v => .raw v
inductive Blk where
 | box (l : List PV)
 | row (e sz : Nat) (l : List PV) (o : Bool)
 | fro (e sz : Nat) (l : List PV) (o : Bool)
 deriving Inhabited
structure St where
 n : Nat
 slots : List (Nat × PV)
 heap : List (Nat × Blk)
 kb : List Nat
def look (t : Nat) : List (Nat × PV) → PV
 | [] => .undef
 | (u, v) :: r => if t = u then v else look t r
def lookB (t : Nat) : List (Nat × Blk) → Option Blk
 | [] => none
 | (u, v) :: r => if t = u then some v else lookB t r
def updB (t : Nat) (b : Blk) : List (Nat × Blk) → List (Nat × Blk)
 | [] => []
 | (u, v) :: r => if t = u then (u, b) :: r else (u, v) :: updB t b r
def fresh : List (Nat × Blk) → Nat
 | [] => 0
 | (u, _) :: r => max (u + 1) (fresh r)
def St.get (s : St) (t : Nat) : PV := look t s.slots
def St.put (s : St) (d : Option Nat) (v : PV) : St :=
 match d with
 | some d => { s with slots := (d, if d < s.n then v else .undef) :: s.slots }
 | none => s
inductive TD where
 | int (k : IntKind) | bool | str | slice (e : Nat) | arr (n e : Nat) | struct (fs : List (Nat × Nat)) | ptr (e : Nat) | func | none
structure Ctx where
 P : Program
 ty : Nat → TD
 size : Nat → Nat
 bytes : Nat → Nat
 zero : Nat → List PV
 glob : Nat → PV
 give : Nat → Bool
 eqs : Nat → Bool
def TD.srcTy : TD → Bool
 | .slice _ | .str => true
 | _ => false
def TD.agg : TD → Bool
 | .arr _ _ | .struct _ => true
 | _ => false
def nth (l : List PV) (i : Nat) : PV := l.getD i .undef
def ev (C : Ctx) (s : St) : Operand → PV
 | .tmp t => s.get t
 | .const v => ofConst v
 | .global g => C.glob g
 | .func f => .fn (.func f) [] []
def opd (C : Ctx) (s : St) (g : Prop) (x : Operand) (k : PV → Prop) : Prop :=
 match ev C s x with
 | .cond c v => (g → c = true) ∧ k v
 | v => k v
def opds (C : Ctx) (s : St) (g : Prop) : List Operand → (List PV → Prop) → Prop
 | [], k => k []
 | x :: r, k => opd C s g x fun v => opds C s g r fun vs => k (v :: vs)
def bitsI (op : BinOp) (k : IntKind) (x y : Int) : Int :=
 let a := BitVec.ofInt k.bits x
 let b := BitVec.ofInt k.bits y
 match op with
 | .and => k.wrap (a &&& b).toNat
 | .or => k.wrap (a ||| b).toNat
 | .xor => k.wrap (a ^^^ b).toNat
 | _ => k.wrap (a &&& ~~~b).toNat
def intB (g : Prop) (op : BinOp) (k : IntKind) (x y : Int) (K : PV → Prop) : Prop :=
 match op with
 | .add => K (.int k (k.wrap (x + y)))
 | .sub => K (.int k (k.wrap (x - y)))
 | .mul => K (.int k (k.wrap (x * y)))
 | .quo => (g → y ≠ 0) ∧ K (.int k (k.wrap (x.tdiv y)))
 | .rem => (g → y ≠ 0) ∧ K (.int k (x.tmod y))
 | .and => K (.int k (bitsI .and k x y))
 | .or => K (.int k (bitsI .or k x y))
 | .xor => K (.int k (bitsI .xor k x y))
 | .andNot => K (.int k (bitsI .andNot k x y))
 | .eql => K (.bool (x == y))
 | .neq => K (.bool (x != y))
 | .lss => K (.bool (decide (x < y)))
 | .leq => K (.bool (decide (x ≤ y)))
 | .gtr => K (.bool (decide (y < x)))
 | .geq => K (.bool (decide (y ≤ x)))
 | _ => False
def shiftB (g : Prop) (op : BinOp) (k : IntKind) (x y : Int) (K : PV → Prop) : Prop :=
 match op with
 | .shl => (g → 0 ≤ y) ∧ K (.int k (k.wrap (x * 2 ^ min y.toNat k.bits)))
 | .shr => (g → 0 ≤ y) ∧ K (.int k (x.fdiv (2 ^ min y.toNat k.bits)))
 | _ => False
def strB (g : Prop) (op : BinOp) (x y : List UInt8) (K : PV → Prop) : Prop :=
 match op with
 | .add => (g → x.length + y.length ≤ 9223372036854775807) ∧ K (.str (x ++ y))
 | .eql => K (.bool (x == y))
 | .neq => K (.bool !(x == y))
 | .lss => K (.bool (Op.bytesLess x y))
 | .leq => K (.bool (Op.bytesLess x y || x == y))
 | .gtr => K (.bool !(Op.bytesLess x y || x == y))
 | .geq => K (.bool !(Op.bytesLess x y))
 | _ => False
def isShift : BinOp → Bool
 | .shl | .shr => true
 | _ => false
def binB (g : Prop) (op : BinOp) (ty : TD) (a b : PV) (K : PV → Prop) : Prop :=
 match a, b with
 | .int k x, .int k' y => match isShift op with
  | true => shiftB g op k x y K
  | false => k = k' ∧ intB g op k x y K
 | .bool x, .bool y => match op, ty with
  | .eql, .bool => K (.bool (x == y))
  | .neq, .bool => K (.bool !(x == y))
  | _, _ => (g → False) ∧ K (.bool false)
 | .str x, .str y => strB g op x y K
 | _, _ => (g → False) ∧ K (.bool false)
def eqAll : List PV → List PV → Option Bool
 | [], [] => some true
 | .int k x :: r, .int k' y :: r' => match decide (k = k') with
  | true => match eqAll r r' with
   | some b => some ((x == y) && b)
   | none => none
  | false => none
 | _, _ => none
def aggB (op : BinOp) (n : Nat) (a b : PV) (K : PV → Prop) : Prop :=
 match a, b with
 | .agg x, .agg y => x.length = n ∧ match op, eqAll x y with
  | .eql, some r => K (.bool r)
  | .neq, some r => K (.bool !r)
  | _, _ => False
 | _, _ => False
def nilB (op : BinOp) (ty : TD) (a : PV) (K : PV → Prop) : Prop :=
 match ty, op, a with
 | .slice _, .eql, .sl _ l _ _ => ∀ bb : Bool, (l ≠ [] → bb = false) → K (.bool bb)
 | .slice _, .neq, .sl _ l _ _ => ∀ bb : Bool, (l ≠ [] → bb = true) → K (.bool bb)
 | .slice _, .eql, .ref _ _ _ n => ∀ bb : Bool, (n ≠ 0 → bb = false) → K (.bool bb)
 | .slice _, .neq, .ref _ _ _ n => ∀ bb : Bool, (n ≠ 0 → bb = true) → K (.bool bb)
 | _, _, _ => False
def isNilConst : Operand → Bool
 | .const (.slice none 0 0) => true
 | _ => false
def unB (g : Prop) (op : UnOp) (a : PV) (K : PV → Prop) : Prop :=
 match op, a with
 | .not, .bool b => K (.bool !b)
 | .neg, .int k n => K (.int k (k.wrap (0 - n)))
 | .xor, .int k n => K (.int k (bitsI .xor k (if k.signed then -1 else k.max) n))
 | _, _ => (g → False) ∧ K (.bool false)
def partP (C : Ctx) (ty : Nat) (l : List PV) (off : Nat) : PV :=
 match (C.ty ty).agg with
 | true => .agg ((l.drop off).take (C.size ty))
 | false => nth l off
def setAt (l : List PV) (off : Nat) (cs : List PV) : List PV := l.take off ++ cs ++ l.drop (off + cs.length)
def buildP (fs : List (Nat × Nat)) (l : List PV) : List (Nat × PV) → List PV
 | [] => l
 | (i, v) :: r => buildP fs (setAt l (((fs[i]?).map (·.1)).getD 0) v.cells) r
def buildOk (C : Ctx) (fs : List (Nat × Nat)) (n : Nat) : List (Nat × PV) → Prop
 | [] => True
 | (i, v) :: r => (match fs[i]? with | some (off, ty) => v.cells.length = C.size ty ∧ off + C.size ty ≤ n ∧ v.cells.all PV.one = true | none => False) ∧ buildOk C fs n r
def arrP (z : Nat) (l : List PV) : List (Nat × PV) → List PV
 | [] => l
 | (i, v) :: r => arrP z (setAt l (i * z) v.cells) r
def arrOk (z n : Nat) : List (Nat × PV) → Prop
 | [] => True
 | (i, v) :: r => (v.cells.length = z ∧ i * z + z ≤ n ∧ v.cells.all PV.one = true) ∧ arrOk z n r
def bound (C : Ctx) (s : St) (g : Prop) (x : Option Operand) (d : Nat) (top : Nat) (K : Nat → Prop) : Prop :=
 match x with
 | none => K d
 | some x => opd C s g x fun v => match v with
  | .int _ i => (g → 0 ≤ i ∧ i ≤ (top : Int)) ∧ K i.toNat
  | _ => False
def pickB (C : Ctx) (s : St) (g : Prop) (bc : Bool) (a b : Operand) (K : PV → Prop) : Prop :=
 opd C s (g ∧ bc = true) a fun va => opd C s (g ∧ bc = false) b fun vb => match va, vb with
  | .bool x, .bool y => K (.bool (cond bc x y))
  | _, _ => False
def qWp (C : Ctx) (s : St) (g : Prop) (op : Op) (K : PV → Prop) : Prop :=
 match op with
 | .move x => opd C s g x K
 | .assign x => opd C s g x K
 | .pick c a b => opd C s g c fun vc => match vc with
  | .bool bc => pickB C s g bc a b K
  | _ => False
 | .nilCheck x => opd C s g x fun v => match v with
  | .ptr i o => K (.ptr i o)
  | .eptr z i j o => K (.eptr z i j o)
  | .ro l o b => K (.ro l o b)
  | .fn (.func f) x y => K (.fn (.func f) x y)
  | _ => False
 | .binOp op t x y _ => match isNilConst y with
  | true => opd C s g x fun a => nilB op (C.ty t) a K
  | false => opd C s g x fun a => opd C s g y fun b => match C.eqs t with
   | true => aggB op (C.size t) a b K
   | false => binB g op (C.ty t) a b K
 | .unOp op _ x => opd C s g x fun a => unB g op a K
 | .convert src dst x => 0 < C.size src ∧ opd C s g x fun a => match C.ty dst, a with
  | .int k, .int _ n => K (.int k (k.wrap n))
  | .str, .str l => K (.str l)
  | _, _ => False
 | .makeFunc f first caps => opds C s g first.toList fun x => opds C s g caps.toList fun y => K (.fn f x y)
 | .extract x i => opd C s g x fun a => match a with
  | .tup l => i < l.length ∧ K (nth l i)
  | _ => False
 | .fieldAddr t x f => opd C s g x fun a => match C.ty t with
  | .struct fs => match fs[f]? with
   | some (off, _) => match a with
    | .ptr i o => K (.ptr i (o + off))
    | .eptr z i j o => K (.eptr z i j (o + off))
    | .ro l o b => K (.ro l (o + off) b)
    | _ => False
   | none => False
  | _ => False
 | .field t x f => opd C s g x fun a => match C.ty t, a with
  | .struct fs, .agg l => match fs[f]? with
   | some (off, ty) => 0 < C.size ty ∧ off + C.size ty ≤ l.length ∧ K (partP C ty l off)
   | none => False
  | _, _ => False
 | .indexAddr t x i => opd C s g x fun a => opd C s g i fun b => match b with
  | .int _ i => match C.ty t, a with
   | .slice e, .sl z l _ o => 0 < C.size e ∧ (z = C.size e ∨ l = []) ∧ (g → 0 ≤ i ∧ i < (l.length : Int)) ∧ K (.ro (nth l i.toNat).cells 0 o)
   | .slice e, .ref z id lo n => 0 < C.size e ∧ z = C.size e ∧ (g → 0 ≤ i ∧ i < (n : Int)) ∧ K (.eptr z id (lo + i.toNat) 0)
   | .arr n e, .ptr id o => 0 < C.size e ∧ (g → 0 ≤ i ∧ i < (n : Int)) ∧ K (.ptr id (o + i.toNat * C.size e))
   | .arr n e, .ro l o b => 0 < C.size e ∧ (g → 0 ≤ i ∧ i < (n : Int)) ∧ K (.ro l (o + i.toNat * C.size e) b)
   | _, _ => False
  | _ => False
 | .index t x i => opd C s g x fun a => opd C s g i fun b => match b with
  | .int _ i => match C.ty t, a with
   | .str, .str l => (g → 0 ≤ i ∧ i < (l.length : Int)) ∧ K (.int .u8 ((l.getD i.toNat 0).toNat : Int))
   | .arr n e, .agg l => 0 < C.size e ∧ (g → 0 ≤ i ∧ i < (n : Int)) ∧ l.length = n * C.size e ∧ K (partP C e l (i.toNat * C.size e))
   | _, _ => False
  | _ => False
 | .slice t x lo hi mx => opd C s g x fun a => match C.ty t, a with
  | .str, .str l => match mx with
   | none => bound C s g hi l.length l.length fun h => bound C s g lo 0 h fun lo' => K (.str ((l.take h).drop lo'))
   | some _ => False
  | .slice e, .sl z l t o => 0 < C.size e ∧ (z = C.size e ∨ l = []) ∧ match mx with
   | none => bound C s g hi l.length l.length fun h => bound C s g lo 0 h fun lo' => K (.sl z ((l.take h).drop lo') (t && h == l.length) o)
   | some m => bound C s g (some m) 0 l.length fun m' => bound C s g hi 0 m' fun h => bound C s g lo 0 h fun lo' => hi ≠ none ∧ K (.sl z ((l.take h).drop lo') (h == m') o)
  | .slice e, .ref z id off n => 0 < C.size e ∧ z = C.size e ∧ match mx with
   | none => bound C s g hi n n fun h => bound C s g lo 0 h fun lo' => (g → lo' = 0 ∨ lo' < n) ∧ K (.ref z id (off + lo') (h - lo'))
   | some _ => False
  | _, _ => False
 | .build t parts => match C.ty t with
  | .struct fs => opds C s g (parts.toList.map (·.2)) fun vs =>
    (C.zero t).length = C.size t ∧ C.zero t ≠ [] ∧ buildOk C fs (C.size t) ((parts.toList.map (·.1)).zip vs) ∧ K (.agg (buildP fs (C.zero t) ((parts.toList.map (·.1)).zip vs)))
  | .arr _ e => opds C s g (parts.toList.map (·.2)) fun vs =>
    0 < C.size e ∧ (C.zero t).length = C.size t ∧ C.zero t ≠ [] ∧ arrOk (C.size e) (C.size t) ((parts.toList.map (·.1)).zip vs) ∧ K (.agg (arrP (C.size e) (C.zero t) ((parts.toList.map (·.1)).zip vs)))
  | _ => False
 | .call { callee := .builtin .len, args, argTypes } => match args.toList, argTypes.toList with
  | [x], [t] => opd C s g x fun a => match C.ty t, a with
   | .str, .str l => K (.int .i64 l.length)
   | .slice _, .sl _ l _ _ => K (.int .i64 l.length)
   | .slice _, .ref _ _ _ n => K (.int .i64 n)
   | .arr n _, _ => K (.int .i64 n)
   | _, _ => False
  | _, _ => False
 | .call { callee := .builtin .max, args, .. } => match args.toList with
  | [x, y] => opd C s g x fun a => opd C s g y fun b => match a, b with
   | .int k m, .int _ n => K (.int k (if n > m then n else m))
   | _, _ => False
  | _ => False
 | .call { callee := .builtin .min, args, .. } => match args.toList with
  | [x, y] => opd C s g x fun a => opd C s g y fun b => match a, b with
   | .int k m, .int _ n => K (.int k (if n < m then n else m))
   | _, _ => False
  | _ => False
 | .load t x => 0 < C.size t ∧ opd C s g x fun a => match a with
  | .ptr id off => match lookB id s.heap with
   | some (.box l) => off + C.size t ≤ l.length ∧ K (partP C t l off)
   | _ => False
  | .eptr z id j off => match lookB id s.heap with
   | some (.row _ z' l o) => z = z' ∧ off + C.size t ≤ z ∧ (g → j < l.length) ∧ K (partP C t ((nth l j).cells.map (PV.retag o)) off)
   | some (.fro _ z' l o) => z = z' ∧ off + C.size t ≤ z ∧ (g → j < l.length) ∧ K (partP C t ((nth l j).cells.map (PV.retag o)) off)
   | _ => False
  | .ro l off o => (g → off + C.size t ≤ l.length) ∧ K (partP C t (l.map (PV.retag o)) off)
  | _ => False
 | _ => False
mutual
def PV.kill (i : Nat) : PV → PV
 | .ref z id lo n => if id = i then .undef else .ref z id lo n
 | .eptr z id j o => if id = i then .undef else .eptr z id j o
 | .agg l => .agg (killL i l)
 | .tup l => .tup (killL i l)
 | .fn f x y => .fn f (killL i x) (killL i y)
 | .cond c v => .cond c (PV.kill i v)
 | .int k n => .int k n
 | .bool b => .bool b
 | .str s => .str s
 | .raw v => .raw v
 | .ptr id o => if id = i then .undef else .ptr id o
 | .ro l o b => .ro l o b
 | .sl s l t o => .sl s l t o
 | .undef => .undef
def killL (i : Nat) : List PV → List PV
 | [] => []
 | v :: r => PV.kill i v :: killL i r
end
mutual
def PV.labs : PV → List Nat
 | .ref _ id _ _ => [id]
 | .eptr _ id _ _ => [id]
 | .ptr id _ => [id]
 | .agg l => labsL l
 | .tup l => labsL l
 | .fn _ x y => labsL x ++ labsL y
 | .cond _ v => PV.labs v
 | _ => []
def labsL : List PV → List Nat
 | [] => []
 | v :: r => PV.labs v ++ labsL r
end
def Blk.labs : Blk → List Nat
 | .box l => labsL l
 | _ => []
def keys (h : List (Nat × Blk)) : List Nat := h.map (·.1)
def killS (i : Nat) : List (Nat × PV) → List (Nat × PV)
 | [] => []
 | (t, v) :: r => (t, v.kill i) :: killS i r
def killH (i : Nat) : List (Nat × Blk) → List (Nat × Blk)
 | [] => []
 | (t, .box l) :: r => (t, .box (killL i l)) :: killH i r
 | (t, b) :: r => (t, b) :: killH i r
def St.kill (i : Nat) (s : St) : St := { s with slots := killS i s.slots, heap := killH i s.heap }
def readCell (h : List (Nat × Blk)) : PV → PV
 | .ref z id lo n => match lookB id h with
  | some (.row _ z' l o) => if z = z' then .sl z ((l.drop lo).take n) false o else .undef
  | some (.fro _ z' l o) => if z = z' then .sl z ((l.drop lo).take n) false o else .undef
  | _ => .undef
 | v => v
def freeze (id : Nat) (h : List (Nat × Blk)) : List (Nat × Blk) :=
 match lookB id h with
 | some (.row e z l o) => updB id (.fro e z l o) h
 | _ => h
def freezeAll : List PV → List (Nat × Blk) → List (Nat × Blk)
 | [], h => h
 | .ref _ id _ _ :: r, h => freezeAll r (freeze id h)
 | _ :: r, h => freezeAll r h
def rowElem (h : List (Nat × Blk)) : PV → PV
 | .agg l => .agg (l.map (readCell h))
 | v => readCell h v
def srcOf (h : List (Nat × Blk)) : PV → Option (List PV × Bool)
 | .sl _ l _ o => some (l, o)
 | .ref z id lo n => match lookB id h with
  | some (.row _ z' l o) => if z = z' then some ((l.drop lo).take n, o) else none
  | some (.fro _ z' l o) => if z = z' then some ((l.drop lo).take n, o) else none
  | _ => none
 | .str s => some (s.map fun c => .int .u8 c.toNat, false)
 | _ => none
def PV.u8 : PV → UInt8
 | .int _ n => UInt8.ofNat n.toNat
 | _ => 0
def PV.isStr : PV → Bool
 | .str _ => true
 | _ => false
def PV.notRef (id : Nat) : PV → Bool
 | .ref _ i _ _ => !(i == id)
 | _ => true
def putElem (x : PV) (off : Nat) (cs : List PV) : PV :=
 match x with
 | .agg l => .agg (setAt l off cs)
 | _ => nth cs 0
def newRow (s : St) (dst : Option Nat) (e sz : Nat) (l : List PV) (o : Bool) (n : Nat) : St :=
 { s with heap := (fresh s.heap, .row e sz l o) :: s.heap }.put dst (.ref sz (fresh s.heap) 0 n)
def appended (C : Ctx) (s : St) (dst : Option Nat) (e : Nat) (new : List PV) (no : Bool) : St := newRow s dst e (C.size e) new no new.length
abbrev Callee := Nat → List PV → List (Nat × Blk) → (PV → List (Nat × Blk) → Prop) → Prop
mutual
def PV.mapL (σ : Nat → Nat) : PV → PV
 | .ref z id lo n => .ref z (σ id) lo n
 | .eptr z id j o => .eptr z (σ id) j o
 | .ptr id o => .ptr (σ id) o
 | .agg l => .agg (mapLL σ l)
 | .tup l => .tup (mapLL σ l)
 | .fn f x y => .fn f (mapLL σ x) (mapLL σ y)
 | .cond c v => .cond c (PV.mapL σ v)
 | .int k n => .int k n
 | .bool b => .bool b
 | .str s => .str s
 | .raw v => .raw v
 | .ro l o b => .ro l o b
 | .sl s l t o => .sl s l t o
 | .undef => .undef
def mapLL (σ : Nat → Nat) : List PV → List PV
 | [] => []
 | v :: r => PV.mapL σ v :: mapLL σ r
end
mutual
def PV.sent (σ : Nat → Nat) : PV → PV
 | .ref z id lo n => .ref z (σ id) lo n
 | .eptr z id j o => .eptr z (σ id) j o
 | .ptr id o => .ptr (σ id) o
 | .agg l => .agg (sentL σ l)
 | .tup l => .tup (sentL σ l)
 | .fn f x y => .fn f (sentL σ x) (sentL σ y)
 | .cond c v => .cond c (PV.sent σ v)
 | .int k n => .int k n
 | .bool b => .bool b
 | .str s => .str s
 | .raw v => .raw v
 | .ro l o _ => .ro l o true
 | .sl s l t _ => .sl s l t true
 | .undef => .undef
def sentL (σ : Nat → Nat) : List PV → List PV
 | [] => []
 | v :: r => PV.sent σ v :: sentL σ r
end
def Blk.mapL (σ : Nat → Nat) : Blk → Blk
 | .box l => .box (mapLL σ l)
 | .row e z l o => .row e z l o
 | .fro e z l o => .fro e z l o
def Blk.sent (σ : Nat → Nat) : Blk → Blk
 | .box l => .box (sentL σ l)
 | .row e z l _ => .row e z l true
 | .fro e z l _ => .fro e z l true
def reach (h : List (Nat × Blk)) : Nat → List Nat → List Nat
 | 0, l => l
 | k + 1, l => reach h k (l ++ l.flatMap fun i => match lookB i h with | some b => b.labs | none => [])
def nub : List Nat → List Nat
 | [] => []
 | a :: r => a :: (nub r).filter (· != a)
def reached (h : List (Nat × Blk)) (l : List Nat) : List Nat := (nub (reach h 3 l)).filter fun i => (lookB i h).isSome
def idx : List Nat → Nat → Nat
 | [], _ => 0
 | a :: r, i => if i = a then 0 else idx r i + 1
def blkAt (h : List (Nat × Blk)) (i : Nat) : Blk := (lookB i h).getD default
def closed (h : List (Nat × Blk)) (l : List Nat) : Bool := l.all fun i => (blkAt h i).labs.all fun j => l.contains j
def rest (h : List (Nat × Blk)) (l : List Nat) : List (Nat × Blk) := h.filter fun p => !l.contains p.1
def Blk.isBox : Blk → Bool
 | .box _ => true
 | _ => false
def killAll : List Nat → St → St
 | [], s => s
 | i :: r, s => killAll r (s.kill i)
def PV.new1 : PV → Bool
 | .int .. | .bool _ | .str _ | .raw _ | .ptr .. | .eptr .. | .ref .. | .undef => true
 | .sl _ _ _ o => !o
 | .ro _ _ o => !o
 | _ => false
def PV.new2 : PV → Bool
 | .agg l => l.all PV.new1
 | v => v.new1
def PV.fresh : PV → Bool
 | .tup l => l.all PV.new2
 | v => v.new2
def Blk.fresh : Blk → Bool
 | .box l => l.all PV.new1
 | .row _ _ _ o => !o
 | .fro _ _ _ o => !o
def freshH (h : List (Nat × Blk)) : Bool := h.all fun p => p.2.fresh
def through (gv : Bool) (h : List (Nat × Blk)) (v : PV) : PV :=
 match gv with
 | true => v
 | false => rowElem h v
def PV.refIn (l : List Nat) : PV → Bool
 | .ref _ i _ _ => l.contains i
 | _ => false
def lent (back : Bool) (us : List PV) (s : St) : St :=
 match back with
 | true => s
 | false => { s with heap := freezeAll us s.heap }
def callWp (gv : Bool) (S : Callee) (s : St) (dst : Option Nat) (f : Nat) (args : List PV) (k : St → Prop) : Prop :=
 let vs := args.map (through gv s.heap)
 let l := reached s.heap (labsL vs)
 (closed s.heap l = true ∧ (labsL vs).all (l.contains ·) = true ∧ (gv || (args.flatMap PV.cells).all fun u => !u.refIn l) = true) ∧
 S f (sentL (idx l) vs) (l.map fun i => (idx l i, (blkAt s.heap i).sent (idx l))) fun r h' =>
  let out := fun n => (l[n]?).getD (fresh s.heap + n)
  let s0 := lent (gv || (r.fresh && freshH h')) (args.flatMap PV.cells) s
  let s1 := killAll (l.filter fun i => !(blkAt s.heap i).isBox) s0
  k ({ s1 with heap := h'.map (fun p : Nat × Blk => (out p.1, p.2.mapL out)) ++ rest s1.heap l }.put dst (r.mapL out))
def zeroElem (C : Ctx) (e : Nat) : PV :=
 match (C.ty e).agg with
 | true => .agg (C.zero e)
 | false => nth (C.zero e) 0
def hWp (C : Ctx) (S : Callee) (s : St) (op : Op) (dst : Option Nat) (k : St → Prop) : Prop :=
 match op with
 | .alloc t => (C.zero t).all PV.one = true ∧ C.zero t ≠ [] ∧ k ({ s with heap := (fresh s.heap, .box (C.zero t)) :: s.heap }.put dst (.ptr (fresh s.heap) 0))
 | .box _ x => opd C s True x fun v => v.cells.all PV.one = true ∧ k ({ s with heap := (fresh s.heap, .box v.cells) :: s.heap }.put dst (.ptr (fresh s.heap) 0))
 | .store t a x => 0 < C.size t ∧ opd C s True a fun p => opd C s True x fun v => v.cells.length = C.size t ∧ v.cells.all PV.one = true ∧ match p with
  | .ptr id off => match lookB id s.heap with
   | some (.box l) => off + C.size t ≤ l.length ∧ k ({ s with heap := updB id (.box (setAt l off v.cells)) s.heap }.put dst .undef)
   | _ => False
  | .eptr z id j off => match lookB id s.heap with
   | some (.row e z' l o) => z = z' ∧ off + C.size t ≤ z ∧ j < l.length ∧ ((v.cells.map (readCell s.heap)).all PV.flat = true) ∧ (v.cells.all (PV.notRef id) = true) ∧
     k ({ s with heap := updB id (.row e z (l.set j (putElem (nth l j) off (v.cells.map (readCell s.heap)))) (o || (v.cells.map (readCell s.heap)).any PV.old)) (freezeAll v.cells s.heap) }.put dst .undef)
   | _ => False
  | _ => False
 | .buildSlice t len parts => match C.ty t with
  | .slice e => opds C s True (parts.toList.map (·.2)) fun vs =>
    parts.toList.map (·.1) = List.range len ∧ (∀ v ∈ vs, v.cells.length = C.size e ∧ (v.cells.map (readCell s.heap)).all PV.flat = true) ∧ len * C.size e ≤ 16777216 ∧ 0 < C.size e ∧ (C.zero e).length = C.size e ∧
    k (newRow { s with heap := freezeAll (vs.flatMap PV.cells) s.heap } dst e (C.size e) (vs.map (rowElem s.heap)) ((vs.flatMap PV.cells).any fun v => (readCell s.heap v).old) len)
  | _ => False
 | .makeSlice t len cap => match C.ty t with
  | .slice e => opd C s True len fun a => opd C s True cap fun b => match a, b with
   | .int .i64 n, .int .i64 c => 0 ≤ n ∧ n ≤ c ∧ (C.bytes e : Int) * c ≤ 281474976710656 ∧ c ≤ 9223372036854775807 ∧ 0 < C.size e ∧ (C.zero e).length = C.size e ∧ (C.zero e).all PV.flat = true ∧ (zeroElem C e).cells = C.zero e ∧
     k (newRow s dst e (C.size e) (List.replicate n.toNat (zeroElem C e)) false n.toNat)
   | _, _ => False
  | _ => False
 | .convert src dt x => opd C s True x fun v => match C.ty src, C.ty dt with
  | .slice e, .str => match C.ty e, srcOf s.heap v with
   | .int .u8, some (l, _) => v.isStr = false ∧ (∀ u ∈ l, ∃ n, u = .int .u8 n) ∧ k (s.put dst (.str (l.map PV.u8)))
   | _, _ => False
  | .str, .slice e => match C.ty e, v with
   | .int .u8, .str l => l.length ≤ 140737488355328 ∧ C.size e = 1 ∧ k (s.put dst (.sl 1 (l.map fun c => .int .u8 c.toNat) false false))
   | _, _ => False
  | _, _ => False
 | .call { callee := .builtin .append, args, argTypes } => match args.toList, argTypes.toList with
  | [a, x], [t, t'] => opd C s True a fun va => opd C s True x fun vx => match C.ty t with
   | .slice e => match srcOf s.heap vx with
    | some (new, no) => ((C.ty t').srcTy = true) ∧ 0 < C.size e ∧ (C.zero e).length = C.size e ∧ C.zero e ≠ [] ∧ (∀ u ∈ new, u.cells.length = C.size e ∧ u.cells.all PV.flat = true) ∧ match va with
     | .sl _ [] true _ => new.length * (C.bytes e + 1) ≤ 70368744177664 ∧ k (appended C s dst e new no)
     | .sl z l true o' => z = C.size e ∧ (l.length + new.length) * (C.bytes e + 1) ≤ 70368744177664 ∧ new ≠ [] ∧ (∀ u ∈ l, u.cells.all PV.flat = true) ∧ k (newRow s dst e (C.size e) (l ++ new) (o' || no) (l.length + new.length))
     | .ref z id 0 n => match lookB id s.heap with
      | some (.row e' z' l o') => e' = e ∧ z' = C.size e ∧ z = z' ∧ (n + new.length) * (C.bytes e + 1) ≤ 70368744177664 ∧
        k ({ s.kill id with heap := updB id (.row e z (l.take n ++ new) (o' || no)) (killH id s.heap) }.put dst (.ref z id 0 (n + new.length)))
      | _ => False
     | _ => False
    | none => False
   | _ => False
  | _, _ => False
 | .call { callee := .value f, args, .. } => opd C s True f fun vf => opds C s True args.toList fun vs => match vf with
  | .fn (.func id) first caps => callWp (C.give id) S s dst id (first ++ vs ++ caps) k
  | _ => False
 | _ => False
def isQ : Op → Bool
 | .alloc _ | .box .. | .store .. | .buildSlice .. | .makeSlice .. => false
 | .call { callee := .builtin .append, .. } => false
 | .call { callee := .value _, .. } => false
 | .call { callee := .invoke .., .. } => false
 | _ => true
def isConv (C : Ctx) : Op → Bool
 | .convert src dst _ => match C.ty src, C.ty dst with
  | .slice _, _ => true
  | _, .slice _ => true
  | _, _ => false
 | _ => false
def isPlain (C : Ctx) (op : Op) : Bool := isQ op && !isConv C op
def PV.word : PV → Option (Bool × Bool)
 | .bool b => some (true, b)
 | .cond c (.bool b) => some (c, b)
 | _ => none
def opWp (C : Ctx) (S : Callee) (all : Array Oper) (o : Oper) (s : St) (k : St → Prop) : Prop :=
 match o.guard with
 | none => match isPlain C o.op with
  | true => qWp C s True o.op fun v => k (s.put o.dst v)
  | false => hWp C S s o.op o.dst k
 | some (j, want) => match (all[j]?).bind (·.dst) with
  | none => False
  | some t => match (s.get t).word with
   | some (c, b) => match isPlain C o.op with
    | true => qWp C s (c = true ∧ b = want) o.op fun v => k (s.put o.dst (.cond (c && b == want) v))
    | false => (c = true → b = want → hWp C S (s.put (some t) (.bool want)) o.op o.dst k) ∧ ((c = true → b = !want) → k (s.put o.dst (.cond false (.bool false))))
   | none => False
def opsWp (C : Ctx) (S : Callee) (all : Array Oper) : List Oper → St → (St → Prop) → Prop
 | [], s, k => k s
 | o :: r, s, k => opWp C S all o s fun s' => opsWp C S all r s' k
inductive Ex where
 | normal
 | exit (id : Nat)
 | ret
def Ex.thn (next : St → Prop) (Q : Ex → St → Prop) : Ex → St → Prop
 | .normal, s => next s
 | .exit i, s => Q (.exit i) s
 | .ret, s => Q .ret s
def Ex.blk (id : Nat) (Q : Ex → St → Prop) : Ex → St → Prop
 | .normal, s => Q .normal s
 | .exit i, s => if i = id then Q .normal s else Q (.exit i) s
 | .ret, s => Q .ret s
inductive Ghost where
 | slot (t e : Nat)
 | cell (id off e : Nat)
 | age (id : Nat)
 | dim (t : Nat)
def ghost (C : Ctx) (g : Ghost) (s : St) : Option St :=
 match g with
 | .slot t e => match s.get t with
  | .sl _ [] true _ => some ({ s with heap := (fresh s.heap, .row e (C.size e) [] false) :: s.heap }.put (some t) (.ref (C.size e) (fresh s.heap) 0 0))
  | _ => none
 | .cell id off e => match lookB id s.heap with
  | some (.box l) => match nth l off with
   | .sl _ [] true _ => some { s with heap := (fresh s.heap, .row e (C.size e) [] false) :: updB id (.box (l.set off (.ref (C.size e) (fresh s.heap) 0 0))) s.heap }
   | _ => none
  | _ => none
 | .age id => match lookB id s.heap with
  | some (.row e z l _) => some { s with heap := updB id (.row e z l true) s.heap }
  | _ => none
 | .dim t => match s.get t with
  | .sl z l _ _ => some (s.put (some t) (.sl z l false true))
  | _ => none
def ghosts (C : Ctx) : List Ghost → St → Option St
 | [], s => some s
 | g :: r, s => match ghost C g s with
  | some s' => ghosts C r s'
  | none => none
def St.le (s s' : St) : Prop :=
 s'.n = s.n ∧ (∀ p ∈ s'.slots, s.get p.1 = p.2) ∧ (∀ p ∈ s'.heap, lookB p.1 s.heap = some p.2) ∧
 (∀ p ∈ s'.slots, ∀ i ∈ p.2.labs, i ∈ keys s'.heap) ∧ (∀ p ∈ s'.heap, ∀ i ∈ p.2.labs, i ∈ keys s'.heap) ∧ s'.kb = s.kb ∧ ∀ i ∈ s.kb, i ∈ keys s'.heap
def meets (C : Ctx) (gs : List Ghost) (s s' : St) : Prop :=
 match ghosts C gs s with
 | some t => t.le s'
 | none => False
inductive PT where
 | done
 | q (i : Nat) (t : PT)
 | alt (i : Nat) (t r : PT)
 | stop
 | cut (m : Nat) (e : Array Bool) (t r : PT)
 | dag (nodes : List (Array Bool × Nat × List (Nat × Nat))) (t : PT)
def edgesWp (C : Ctx) (S : Callee) (all : Array Oper) (Inv : Nat → St → Prop) : List (Nat × Nat) → St → Prop
 | [], _ => True
 | (i, j) :: r, s => (opWp C S all (all.getD i default) s fun s' => ∃ gs s0, Inv j s0 ∧ meets C gs s' s0) ∧ edgesWp C S all Inv r s
def nodesWp (C : Ctx) (S : Callee) (all : Array Oper) (Inv : Nat → St → Prop) : Nat → List (Array Bool × Nat × List (Nat × Nat)) → Prop
 | _, [] => True
 | k, (_, _, es) :: r => (∀ s, Inv k s → edgesWp C S all Inv es s) ∧ nodesWp C S all Inv (k + 1) r
def treeWp (C : Ctx) (S : Callee) (all : Array Oper) : PT → St → (St → Prop) → Prop
 | .done, s, k => k s
 | .q i t, s, k => opWp C S all (all.getD i default) s fun s' => treeWp C S all t s' k
 | .alt i t r, s, k => (opWp C S all (all.getD i default) s fun s' => treeWp C S all t s' k) ∧ treeWp C S all r s k
 | .stop, _, _ => True
 | .cut _ _ t r, s, k => ∃ (α : Type) (shape : α → St) (I : α → Prop), treeWp C S all t s (fun s' => ∃ gs x, I x ∧ meets C gs s' (shape x)) ∧ ∀ x, I x → treeWp C S all r (shape x) k
 | .dag nodes t, s, k => ∃ (Inv : Nat → St → Prop), (∃ gs s0, Inv 0 s0 ∧ meets C gs s s0) ∧ nodesWp C S all Inv 0 nodes ∧ ∀ s, Inv (nodes.length - 1) s → treeWp C S all t s k
def isLoad : Op → Bool
 | .load .. => true
 | _ => false
def alts : PT → List Nat
 | .alt i _ r => i :: alts r
 | _ => []
def quiet (C : Ctx) (all : Array Oper) (e : Array Bool) (i : Nat) : Bool := (Region.ready .any all e).contains i && Region.free .any all e i && (match all[i]? with | some o => isPlain C o.op && !isLoad o.op | none => false)
def edgeOk (nodes : List (Array Bool × Nat × List (Nat × Nat))) (e : Array Bool) (m : Nat) (p : Nat × Nat) : Bool :=
 match nodes[p.2]? with
 | some (e', m', _) => e' == e.setIfInBounds p.1 true && Nat.beq (m' + 1) m
 | none => false
def nodeOk (C : Ctx) (all : Array Oper) (nodes : List (Array Bool × Nat × List (Nat × Nat))) (nd : Array Bool × Nat × List (Nat × Nat)) : Bool :=
 nd.2.2.all (edgeOk nodes nd.1 nd.2.1) && ((match nd.2.2 with | [(i, _)] => quiet C all nd.1 i | _ => false) || (!(Region.ready .any all nd.1).isEmpty && (Region.ready .any all nd.1).all fun j => nd.2.2.any fun p => Nat.beq p.1 j))
def planOk (C : Ctx) (all : Array Oper) : PT → Bool → (Nat → Array Bool → Bool) → Nat → Array Bool → Bool
 | .done, top, fin, n, listed => top && fin n listed
 | .q i t, top, fin, n, listed => match n with
  | n + 1 => top && ((Region.ready .any all listed).contains i && Region.free .any all listed i && (match all[i]? with | some o => isPlain C o.op && !isLoad o.op | none => false)) && planOk C all t true fin n (listed.setIfInBounds i true)
  | 0 => false
 | .alt i t r, top, fin, n, listed => match n with
  | n + 1 => (!top || (((Region.ready .any all listed).all fun j => (i :: alts r).contains j) && (!(Region.ready .any all listed).isEmpty))) && planOk C all t true fin n (listed.setIfInBounds i true) && planOk C all r false fin (n + 1) listed
  | 0 => false
 | .stop, top, _, _, _ => !top
 | .cut m e t r, top, fin, n, listed => top && planOk C all t true (fun m' l => Nat.beq m' m && l == e) n listed && planOk C all r true fin m e
 | .dag nodes t, top, fin, n, listed => top && (match nodes.head?, nodes.getLast? with
  | some (e, m, _), some (e', m', _) => e == listed && Nat.beq m n && nodes.dropLast.all (nodeOk C all nodes) && planOk C all t true fin m' e'
  | _, _ => false)
def planned (C : Ctx) (all : Array Oper) (t : PT) : Bool := Region.noSelect all && planOk C all t true (fun _ l => (Region.ready .any all l).isEmpty) all.size (Array.replicate all.size false)
def codeWp (C : Ctx) (S : Callee) : Code → (Ex → St → Prop) → St → Prop
 | .skip, Q, s => Q .normal s
 | .region _ ops false, Q, s => opsWp C S ops ops.toList s (Q .normal)
 | .region _ ops true, Q, s => ∃ t, planned C ops t = true ∧ treeWp C S ops t s (Q .normal)
 | .seq a b, Q, s => codeWp C S a (Ex.thn (codeWp C S b Q) Q) s
 | .cond c a b, Q, s => opd C s True c fun v => match v with
  | .bool v => (v = true → codeWp C S a Q s) ∧ (v = false → codeWp C S b Q s)
  | _ => False
 | .block id c, Q, s => codeWp C S c (Ex.blk id Q) s
 | .loop c, Q, s => ∃ (α : Type) (shape : α → St) (I : α → Prop) (μ : α → Nat), (∃ gs x, I x ∧ meets C gs s (shape x)) ∧
   ∀ x, I x → codeWp C S c (Ex.thn (fun s' => ∃ gs y, I y ∧ μ y < μ x ∧ meets C gs s' (shape y)) Q) (shape x)
 | .exit id, Q, s => Q (.exit id) s
 | .ret, Q, s => Q .ret s
 | _, _, _ => False
def resultP (C : Ctx) (s : St) : List ResultVar → Option (List PV)
 | [] => some []
 | .tmp t :: r => match s.get t, resultP C s r with
  | .cond _ _, _ => none
  | v, some vs => some (v :: vs)
  | _, none => none
 | .cell a t :: r => match s.get a, resultP C s r with
  | .ptr id off, some vs => match lookB id s.heap with
   | some (.box l) => if 0 < C.size t ∧ off + C.size t ≤ l.length then some (partP C t l off :: vs) else none
   | _ => none
  | _, _ => none
def single : List PV → PV
 | [v] => v
 | l => .tup l
def boxes : List (Nat × Blk) → List Nat
 | [] => []
 | (i, .box _) :: r => i :: boxes r
 | _ :: r => boxes r
def outL (n0 : Nat) (l : List Nat) (i : Nat) : Nat := if i < n0 then i else n0 + idx l i
def retWp (C : Ctx) (gv : Bool) (n0 : Nat) (keep : List Nat) (rs : List ResultVar) (Post : PV → List (Nat × Blk) → Prop) (s : St) : Prop :=
 match resultP C s rs with
 | some us =>
  let vs := us.map (through gv s.heap)
  let l := reached s.heap (keep ++ labsL vs)
  (closed s.heap l = true ∧ (keep ++ labsL vs).all (l.contains ·) = true ∧ (gv || (us.flatMap PV.cells).all fun u => !u.refIn l) = true) ∧
  Post (single (mapLL (outL n0 l) vs)) (l.map fun i => (outL n0 l i, (blkAt s.heap i).mapL (outL n0 l)))
 | none => False
def St.entry (n : Nat) (args : List PV) (h : List (Nat × Blk)) : St := { n, slots := (List.range args.length).zip args, heap := h, kb := boxes h }
def bodyQ (C : Ctx) (gv : Bool) (n0 : Nat) (keep : List Nat) (rs : List ResultVar) (Post : PV → List (Nat × Blk) → Prop) : Ex → St → Prop
 | .normal, s => s.kb = keep ∧ retWp C gv n0 keep rs Post s
 | .ret, s => s.kb = keep ∧ retWp C gv n0 keep rs Post s
 | .exit _, _ => False
end Go.Vc
namespace Go.Vc
open Go
abbrev Phi := Nat → Option (Option Nat × Nat)
structure RC where
 w : World
 Z : Nat → Prop
 B : Nat
 φ : Phi
def RC.Zc (R : RC) (o : Bool) (b : Nat) : Prop := R.Z b ∧ (o = true ∨ R.B ≤ b)
inductive Rep0 (w : World) (Z : Nat → Prop) : PV → Value → Prop
 | int (k : IntKind) (n : Int) : Rep0 w Z (.int k n) (.int k n)
 | bool (b : Bool) : Rep0 w Z (.bool b) (.bool b)
 | str (l : List UInt8) (s : ByteArray) (h : s.data.toList = l) : Rep0 w Z (.str l) (.string s)
 | raw (v : Value) : Rep0 w Z (.raw v) v
 | sl (sz : Nat) (l : List PV) (t o : Bool) (a : Option Addr) (n c : Nat) (cs : Nat → Nat → Value) (hn : n = l.length) (hc : l.length ≤ c) (ht : t = true → c = l.length)
   (hz : ∀ x ∈ l, x.cells.length = sz)
   (hm : ∀ j, j < l.length → ∃ ad : Addr, a = some ad ∧ Z ad.block ∧ ad.spot = none ∧ ∀ i, i < sz → w.cell? ⟨ad.block, ad.off + (j * sz + i), none⟩ = some (cs j i))
   (he : ∀ (j i : Nat) (x u : PV), l[j]? = some x → x.cells[i]? = some u → Rep0 w Z u (cs j i)) : Rep0 w Z (.sl sz l t o) (.slice a n c)
theorem Rep0.step {w w' : World} {Z Z' : Nat → Prop} {v : PV} {x : Value} (h : Rep0 w Z v x) (hZ : ∀ b, Z b → Z' b ∧ w'.heap[b]? = w.heap[b]?) : Rep0 w' Z' v x := by
 induction h with
 | int k n => exact .int k n
 | bool b => exact .bool b
 | str l s h => exact .str l s h
 | raw v => exact .raw v
 | sl sz l t o a n c cs hn hc ht hz hm he ih =>
  refine .sl sz l t o a n c cs hn hc ht hz (fun j hj => ?_) ih
  obtain ⟨ad, h1, h2, h3, h4⟩ := hm j hj
  exact ⟨ad, h1, (hZ _ h2).1, h3, fun i hi => by rw [← h4 i hi]; exact World.cell?_of_block (a := ⟨ad.block, _, none⟩) (hZ _ h2).2⟩
inductive Rep (R : RC) : PV → Value → Prop
 | int (k : IntKind) (n : Int) : Rep R (.int k n) (.int k n)
 | bool (b : Bool) : Rep R (.bool b) (.bool b)
 | str (l : List UInt8) (s : ByteArray) (h : s.data.toList = l) : Rep R (.str l) (.string s)
 | raw (v : Value) : Rep R (.raw v) v
 | fn (f : Fn) (first caps : List PV) (fv cv : List Value) (h1 : first.length = fv.length) (h2 : caps.length = cv.length)
   (h3 : ∀ (i : Nat) u x, first[i]? = some u → fv[i]? = some x → Rep R u x) (h4 : ∀ (i : Nat) u x, caps[i]? = some u → cv[i]? = some x → Rep R u x) :
   Rep R (.fn f first caps) (.func f ⟨fv⟩ ⟨cv⟩)
 | ptr (id off b m : Nat) (h : R.φ id = some (some b, m)) : Rep R (.ptr id off) (.pointer (some ⟨b, off, none⟩))
 | eptr (sz id j off b m : Nat) (h : R.φ id = some (some b, m)) : Rep R (.eptr sz id j off) (.pointer (some ⟨b, j * sz + off, none⟩))
 | ro (l : List PV) (off : Nat) (o : Bool) (b p : Nat) (cs : Nat → Value) (hb : R.Zc o b) (hm : ∀ i, i < l.length → R.w.cell? ⟨b, p + i, none⟩ = some (cs i))
   (he : ∀ (i : Nat) u, l[i]? = some u → Rep0 R.w (R.Zc o) u (cs i)) : Rep R (.ro l off o) (.pointer (some ⟨b, p + off, none⟩))
 | sl (sz : Nat) (l : List PV) (t o : Bool) (x : Value) (h : Rep0 R.w (R.Zc o) (.sl sz l t o) x) : Rep R (.sl sz l t o) x
 | ref (sz id lo n b c m : Nat) (h : R.φ id = some (some b, m)) (hn : n ≤ c) (hm : lo + n ≤ m)
   (hb : ∃ cs T, R.w.heap[b]? = some (.cells cs T (0, 0)) ∧ cs.size = (lo + c) * sz ∧ lo + c ≤ maxLen) : Rep R (.ref sz id lo n) (.slice (some ⟨b, lo * sz, none⟩) n c)
 | ref0 (sz id : Nat) (a : Option Addr) (h : R.φ id = some (none, 0)) : Rep R (.ref sz id 0 0) (.slice a 0 0)
 | agg (l : List PV) (cs : List Value) (h : l.length = cs.length) (h1 : ∀ (i : Nat) u x, l[i]? = some u → cs[i]? = some x → Rep R u x) : Rep R (.agg l) (.agg ⟨cs⟩)
 | tup (l : List PV) (cs : List Value) (h : l.length = cs.length) (h1 : ∀ (i : Nat) u x, l[i]? = some u → cs[i]? = some x → Rep R u x) : Rep R (.tup l) (.tuple ⟨cs⟩)
 | cond (c : Bool) (v : PV) (x : Value) (h : c = true → Rep R v x) (h2 : c = false → x = Go.undef) : Rep R (.cond c v) x
 | undef (x : Value) : Rep R .undef x
structure Later (R R' : RC) : Prop where
 B : R'.B = R.B
 Z : ∀ b, R.Z b → R'.Z b ∧ R'.w.heap[b]? = R.w.heap[b]?
 size : ∀ (b : Nat) (cs : Array Value) (T : TypeId), R.w.heap[b]? = some (.cells cs T (0, 0)) → ∃ cs' : Array Value, R'.w.heap[b]? = some (.cells cs' T (0, 0)) ∧ cs'.size = cs.size
theorem Later.refl (R : RC) : Later R R := ⟨rfl, fun _ h => ⟨h, rfl⟩, fun _ cs _ h => ⟨cs, h, rfl⟩⟩
theorem Later.Zc {R R' : RC} (h : Later R R') (o : Bool) : ∀ b, R.Zc o b → R'.Zc o b ∧ R'.w.heap[b]? = R.w.heap[b]? :=
 fun b hb => ⟨⟨(h.Z b hb.1).1, by rw [h.B]; exact hb.2⟩, (h.Z b hb.1).2⟩
theorem Zc_mono {R : RC} {o o' : Bool} (h : o = true → o' = true) : ∀ b, R.Zc o b → R.Zc o' b := fun _ hb => ⟨hb.1, hb.2.imp h id⟩
theorem killL_get (i : Nat) : ∀ (l : List PV) (k : Nat), (killL i l)[k]? = (l[k]?).map (PV.kill i)
 | [], k => by simp [killL]
 | v :: r, 0 => by simp [killL]
 | v :: r, k + 1 => by simp [killL, killL_get i r k]
theorem killL_len (i : Nat) : ∀ (l : List PV), (killL i l).length = l.length
 | [] => by simp [killL]
 | v :: r => by simp [killL, killL_len i r]
theorem Rep.step {R R' : RC} (hl : Later R R') (hφ : ∀ id x, R.φ id = some x → R'.φ id = some x) {v : PV} {x : Value} (h : Rep R v x) : Rep R' v x := by
 induction h with
 | int k n => exact .int k n
 | bool b => exact .bool b
 | str l s h => exact .str l s h
 | raw v => exact .raw v
 | fn f first caps fv cv h1 h2 h3 h4 ih3 ih4 => exact .fn f first caps fv cv h1 h2 ih3 ih4
 | ptr id off b m h => exact .ptr id off b m (hφ _ _ h)
 | eptr sz id j off b m h => exact .eptr sz id j off b m (hφ _ _ h)
 | ro l off o b p cs hb hm he =>
  exact .ro l off o b p cs (hl.Zc o b hb).1 (fun i hi => by rw [← hm i hi]; exact World.cell?_of_block (a := ⟨b, p + i, none⟩) (hl.Zc o b hb).2) (fun i u hu => (he i u hu).step (hl.Zc o))
 | sl sz l t o x h => exact .sl sz l t o x (h.step (hl.Zc o))
 | ref sz id lo n b c m h hn hm hb =>
  obtain ⟨cs, T, h1, h2, h3⟩ := hb
  obtain ⟨cs', h4, h5⟩ := hl.size b cs T h1
  exact .ref sz id lo n b c m (hφ _ _ h) hn hm ⟨cs', T, h4, h5.trans h2, h3⟩
 | ref0 sz id a h => exact .ref0 sz id a (hφ _ _ h)
 | agg l cs h h1 ih => exact .agg l cs h ih
 | tup l cs h h1 ih => exact .tup l cs h ih
 | cond c v x h h2 ih => exact .cond c v x ih h2
 | undef x => exact .undef x
theorem Rep.step_kill {R R' : RC} (hl : Later R R') (i : Nat) (hφ : ∀ id x, id ≠ i → R.φ id = some x → R'.φ id = some x) {v : PV} {x : Value} (h : Rep R v x) : Rep R' (v.kill i) x := by
 induction h with
 | int k n => simp only [PV.kill]; exact .int k n
 | bool b => simp only [PV.kill]; exact .bool b
 | str l s h => simp only [PV.kill]; exact .str l s h
 | raw v => simp only [PV.kill]; exact .raw v
 | fn f first caps fv cv h1 h2 h3 h4 ih3 ih4 =>
  simp only [PV.kill]
  refine .fn f _ _ fv cv (by rw [killL_len]; exact h1) (by rw [killL_len]; exact h2) (fun k u x hu hx => ?_) (fun k u x hu hx => ?_)
  ·rw [killL_get, Option.map_eq_some_iff] at hu
   obtain ⟨u', hu', rfl⟩ := hu
   exact ih3 k u' x hu' hx
  ·rw [killL_get, Option.map_eq_some_iff] at hu
   obtain ⟨u', hu', rfl⟩ := hu
   exact ih4 k u' x hu' hx
 | ptr id off b m h =>
  simp only [PV.kill]
  split
  ·exact .undef _
  ·exact .ptr id off b m (hφ _ _ ‹_› h)
 | eptr sz id j off b m h =>
  simp only [PV.kill]
  split
  ·exact .undef _
  ·exact .eptr sz id j off b m (hφ _ _ ‹_› h)
 | ro l off o b p cs hb hm he =>
  simp only [PV.kill]
  exact .ro l off o b p cs (hl.Zc o b hb).1 (fun i hi => by rw [← hm i hi]; exact World.cell?_of_block (a := ⟨b, p + i, none⟩) (hl.Zc o b hb).2) (fun i u hu => (he i u hu).step (hl.Zc o))
 | sl sz l t o x h => simp only [PV.kill]; exact .sl sz l t o x (h.step (hl.Zc o))
 | ref sz id lo n b c m h hn hm hb =>
  simp only [PV.kill]
  split
  ·exact .undef _
  ·obtain ⟨cs, T, h1, h2, h3⟩ := hb
   obtain ⟨cs', h4, h5⟩ := hl.size b cs T h1
   exact .ref sz id lo n b c m (hφ _ _ ‹_› h) hn hm ⟨cs', T, h4, h5.trans h2, h3⟩
 | ref0 sz id a h =>
  simp only [PV.kill]
  split
  ·exact .undef _
  ·exact .ref0 sz id a (hφ _ _ ‹_› h)
 | agg l cs h h1 ih =>
  simp only [PV.kill]
  refine .agg _ cs (by rw [killL_len]; exact h) fun k u x hu hx => ?_
  rw [killL_get, Option.map_eq_some_iff] at hu
  obtain ⟨u', hu', rfl⟩ := hu
  exact ih k u' x hu' hx
 | tup l cs h h1 ih =>
  simp only [PV.kill]
  refine .tup _ cs (by rw [killL_len]; exact h) fun k u x hu hx => ?_
  rw [killL_get, Option.map_eq_some_iff] at hu
  obtain ⟨u', hu', rfl⟩ := hu
  exact ih k u' x hu' hx
 | cond c v x h h2 ih => simp only [PV.kill]; exact .cond c _ x ih h2
 | undef x => simp only [PV.kill]; exact .undef x
theorem Rep0.up {R : RC} {o : Bool} {v : PV} {x : Value} (h : Rep0 R.w (R.Zc o) v x) : Rep R (v.retag o) x := by
 cases h with
 | int k n => exact .int k n
 | bool b => exact .bool b
 | str l s h => exact .str l s h
 | raw => exact .raw _
 | sl sz l t o' a n c cs hn hc ht hz hm he => exact .sl sz l t o _ (.sl sz l t o a n c cs hn hc ht hz hm he)
theorem Rep.down {R : RC} {v : PV} {x : Value} (h : Rep R v x) (hf : v.flat = true) : Rep0 R.w (R.Zc v.old) v x := by
 cases h <;> simp [PV.flat] at hf
 case int k n => exact .int k n
 case bool b => exact .bool b
 case str l s h => exact .str l s h
 case sl sz l t o h => exact h
theorem Rep0.one {w : World} {Z : Nat → Prop} {v : PV} {x : Value} (h : Rep0 w Z v x) (hf : v.flat = true) : x.oneCell' = true := by
 cases h <;> first | rfl | simp [PV.flat] at hf
theorem Rep.oneCell {R : RC} {v : PV} {x : Value} (h : Rep R v x) (ho : v.one = true) : x.oneCell' = true := by
 cases h <;> first | rfl | (simp [PV.one] at ho; done) | skip
 case raw => exact ho
 case sl h => cases h; rfl
theorem Rep.strip {R : RC} {c : Bool} {u : PV} {x : Value} (h : Rep R (.cond c u) x) (hc : c = true) : Rep R u x := by
 cases h with
 | cond _ _ _ h _ => exact h hc
theorem rep_cellOf (R : RC) (x : Value) : Rep R (cellOf x) x := by
 unfold cellOf
 split
 ·exact .int _ _
 ·exact .bool _
 ·exact .str _ _ rfl
 ·exact .sl _ _ _ _ _ (.sl _ _ _ _ _ _ _ (fun _ _ => default) rfl (Nat.le_refl _) (fun _ => rfl) (fun x hx => by cases hx) (fun j hj => by cases hj) (fun j i x u hx => by simp at hx))
 ·exact .raw _
theorem rep_const (R : RC) (x : Value) : Rep R (ofConst x) x := by
 unfold ofConst
 split
 ·rename_i cs
  obtain ⟨l⟩ := cs
  refine .agg _ l (by simp) fun i u x hu hx => ?_
  simp only [List.getElem?_map, hx, Option.map_some, Option.some.injEq] at hu
  subst hu
  exact rep_cellOf R x
 ·rename_i cs
  obtain ⟨l⟩ := cs
  refine .tup _ l (by simp) fun i u x hu hx => ?_
  simp only [List.getElem?_map, hx, Option.map_some, Option.some.injEq] at hu
  subst hu
  exact rep_cellOf R x
 ·exact .int _ _
 ·exact .bool _
 ·exact .str _ _ rfl
 ·exact .sl _ _ _ _ _ (.sl _ _ _ _ _ _ _ (fun _ _ => default) rfl (Nat.le_refl _) (fun _ => rfl) (fun x hx => by cases hx) (fun j hj => by cases hj) (fun j i x u hx => by simp at hx))
 ·exact .raw _
def RepB (R : RC) (own : Nat → Prop) (id : Nat) : Blk → Prop
 | .box l => ∃ (b : Nat) (cs : Array Value) (T : TypeId), (∃ m, R.φ id = some (some b, m)) ∧ ¬ R.Z b ∧ (own b ∨ R.B ≤ b) ∧ R.w.heap[b]? = some (.cells cs T (0, 0)) ∧ cs.size = l.length ∧
   ∀ (i : Nat) u, l[i]? = some u → ∃ x, cs[i]? = some x ∧ Rep R u x ∧ x.oneCell' = true
 | .row e sz l o => (R.φ id = some (none, 0) ∧ l = []) ∨ ∃ (b : Nat) (cs : Array Value) (cap : Nat), R.φ id = some (some b, l.length) ∧ ¬ R.Z b ∧ (own b ∨ R.B ≤ b) ∧ (o = true ∨ R.B ≤ b) ∧
   R.w.heap[b]? = some (.cells cs e (0, 0)) ∧ cs.size = cap * sz ∧ cap ≤ maxLen ∧ l.length ≤ cap ∧ 0 < sz ∧ (∀ x ∈ l, x.cells.length = sz) ∧
   ∀ (j i : Nat) (x u : PV), l[j]? = some x → x.cells[i]? = some u → ∃ y, cs[j * sz + i]? = some y ∧ Rep0 R.w (R.Zc o) u y ∧ y.oneCell' = true
 | .fro e sz l o => (R.φ id = some (none, 0) ∧ l = []) ∨ ∃ (b : Nat) (cs : Array Value) (cap : Nat), R.φ id = some (some b, l.length) ∧ R.Z b ∧ (o = true ∨ R.B ≤ b) ∧
   R.w.heap[b]? = some (.cells cs e (0, 0)) ∧ cs.size = cap * sz ∧ cap ≤ maxLen ∧ l.length ≤ cap ∧ 0 < sz ∧ (∀ x ∈ l, x.cells.length = sz) ∧
   ∀ (j i : Nat) (x u : PV), l[j]? = some x → x.cells[i]? = some u → ∃ y, cs[j * sz + i]? = some y ∧ Rep0 R.w (R.Zc o) u y ∧ y.oneCell' = true
structure Env where
 w0 : World
 own : Nat → Prop
 Z0 : Nat → Prop
 φ0 : Phi
 lt : ∀ b, own b → b < w0.heap.size
 zlt : ∀ b, Z0 b → b < w0.heap.size ∧ ¬ own b
def Glob (C : Ctx) (w : World) (Z : Nat → Prop) : Prop := ∀ g, C.glob g = .undef ∨ ∃ (l : List PV) (cs : Nat → Value), C.glob g = .ro l 0 true ∧ Z g ∧
 (∀ i, i < l.length → w.cell? ⟨g, i, none⟩ = some (cs i)) ∧ (∀ (i : Nat) u, l[i]? = some u → Rep0 w Z u (cs i)) ∧ ∃ (c : Array Value) (T : TypeId) (fr : Nat × Nat), w.heap[g]? = some (.cells c T fr) ∧ c.size = l.length
theorem Glob.step {C : Ctx} {w w' : World} {Z Z' : Nat → Prop} (h : Glob C w Z) (hZ : ∀ b, Z b → Z' b ∧ w'.heap[b]? = w.heap[b]?) : Glob C w' Z' := fun g => by
 rcases h g with h | ⟨l, cs, h1, h2, h3, h4, c, T, fr, h5, h6⟩
 ·exact .inl h
 ·exact .inr ⟨l, cs, h1, (hZ _ h2).1, fun i hi => by rw [← h3 i hi]; exact World.cell?_of_block (a := ⟨g, i, none⟩) (hZ _ h2).2, fun i u hu => (h4 i u hu).step hZ, c, T, fr, by rw [(hZ _ h2).2]; exact h5, h6⟩
structure HeapRep (R : RC) (own : Nat → Prop) (h : List (Nat × Blk)) : Prop where
 blk : ∀ id b, lookB id h = some b → RepB R own id b
 inj : ∀ (i j b m m' : Nat), ¬ R.Z b → R.φ i = some (some b, m) → R.φ j = some (some b, m') → i = j
 keys : ∀ id x, R.φ id = some x → (lookB id h).isSome = true
structure Frame0 (w0 : World) (own : Nat → Prop) (w : World) : Prop where
 os : w.os = w0.os
 tape : w.tape = w0.tape
 output : w.output = w0.output
 size : w0.heap.size ≤ w.heap.size
 block : ∀ b, b < w0.heap.size → ¬ own b → w.heap[b]? = w0.heap[b]?
 shape : ∀ (b : Nat) (cs : Array Value) (T : TypeId), w0.heap[b]? = some (.cells cs T (0, 0)) → ∃ cs' : Array Value, w.heap[b]? = some (.cells cs' T (0, 0)) ∧ cs'.size = cs.size
theorem Frame0.shaped {w0 w : World} {own : Nat → Prop} (h : Frame0 w0 own w) {R R' : RC} (hw : R.w = w) (hl : Later R R') (b : Nat) (cs : Array Value) (T : TypeId) (hb : w0.heap[b]? = some (.cells cs T (0, 0))) :
  ∃ cs' : Array Value, R'.w.heap[b]? = some (.cells cs' T (0, 0)) ∧ cs'.size = cs.size := by
 obtain ⟨cs1, h1, h2⟩ := h.shape b cs T hb
 subst hw
 obtain ⟨cs2, h3, h4⟩ := hl.size b cs1 T h1
 exact ⟨cs2, h3, h4.trans h2⟩
structure Rel (C : Ctx) (E : Env) (Z : Nat → Prop) (φ : Phi) (s : St) (a : Act) (w : World) : Prop where
 n : a.tmps.size = s.n
 slots : ∀ t, Rep ⟨w, Z, E.w0.heap.size, φ⟩ (s.get t) (a.tmps.getD t undef)
 heap : HeapRep ⟨w, Z, E.w0.heap.size, φ⟩ E.own s.heap
 zlt : ∀ b, Z b → b < w.heap.size
 zin : ∀ b, Z b → E.Z0 b ∨ E.own b ∨ E.w0.heap.size ≤ b
 z0 : ∀ b, E.Z0 b → Z b
 frame : Frame0 E.w0 E.own w
 glob : Glob C E.w0 E.Z0
 defers : a.defers = []
 fix : ∀ i ∈ s.kb, φ i = E.φ0 i ∧ ∃ l, lookB i s.heap = some (.box l)
def Holds (C : Ctx) (E : Env) (s : St) (a : Act) (w : World) : Prop := ∃ Z φ, Rel C E Z φ s a w
def ownOf (Z : Nat → Prop) (φ : Phi) (b : Nat) : Prop := (∃ i m, φ i = some (some b, m)) ∧ ¬ Z b
def Runs (P : Program) (f : Nat) (args : Array Value) (w : World) (Post : Value → World → Prop) : Prop :=
 ∀ (o : Oper) (a : Act) (next : Act → World → Prop) (Q : Exit → Act → World → Prop), (∀ v w', Post v w' → next (a.put o.dst v) w') → o.upon P a next Q ((callFunc f args).run P w)
def After (w : World) (Z : Nat → Prop) (φ : Phi) (h : List (Nat × Blk)) (Post : PV → List (Nat × Blk) → Prop) (v : Value) (w' : World) : Prop :=
 ∃ r h' φ' Z', Post r h' ∧ Rep ⟨w', Z', w.heap.size, φ'⟩ r v ∧ HeapRep ⟨w', Z', w.heap.size, φ'⟩ (ownOf Z φ) h' ∧ (∀ i, i ∈ boxes h → φ' i = φ i ∧ ∃ l, lookB i h' = some (.box l)) ∧ (∀ b, Z' b → b < w'.heap.size) ∧
  (∀ b, Z' b → Z b ∨ ownOf Z φ b ∨ w.heap.size ≤ b) ∧ (∀ b, Z b → Z' b) ∧ Frame0 w (ownOf Z φ) w'
structure Before (C : Ctx) (w : World) (Z : Nat → Prop) (φ : Phi) (args : List PV) (vs : List Value) (h : List (Nat × Blk)) : Prop where
 len : args.length = vs.length
 rep : ∀ (i : Nat) u x, args[i]? = some u → vs[i]? = some x → Rep ⟨w, Z, w.heap.size, φ⟩ u x
 heap : HeapRep ⟨w, Z, w.heap.size, φ⟩ (ownOf Z φ) h
 zlt : ∀ b, Z b → b < w.heap.size
 glob : Glob C w Z
structure Spec (C : Ctx) (f : Nat) (args : List PV) (h : List (Nat × Blk)) (Post : PV → List (Nat × Blk) → Prop) : Prop where
 run : ∀ (w : World) (Z : Nat → Prop) (φ : Phi) (vs : List Value), Before C w Z φ args vs h → Runs C.P f ⟨vs⟩ w (After w Z φ h Post)
def CSpec (C : Ctx) : Callee := fun f args h Post => ∀ (w : World) (Z : Nat → Prop) (φ : Phi) (vs : List Value), Before C w Z φ args vs h → Calls C.P f ⟨vs⟩ w fun e w' => ∃ v, e = .returned v ∧ After w Z φ h Post v w'
structure TyOk (C : Ctx) : Prop where
 und : ∀ t, match C.ty t with
  | .int k => C.P.underlying t = some (.int k)
  | .bool => C.P.underlying t = some .bool
  | .str => C.P.underlying t = some .string
  | .slice e => C.P.underlying t = some (.slice e)
  | .arr n e => C.P.underlying t = some (.array n e)
  | .ptr e => C.P.underlying t = some (.pointer e)
  | .func => ∃ x y z, C.P.underlying t = some (.func x y z)
  | .struct fs => ∃ F : Array Field, C.P.underlying t = some (.struct F) ∧ F.toList.map (fun f => (f.offset, f.type)) = fs ∧ ∀ p ∈ fs, C.size p.2 ≠ 0
  | .none => True
 info : ∀ t, C.size t ≠ 0 → ∃ i, C.P.info? t = some i ∧ i.size = C.size t ∧ i.bytes = C.bytes t ∧ (C.P.underlying t).isSome = true
 zero : ∀ t, C.zero t ≠ [] → ∃ i z, C.P.info? t = some i ∧ i.zero = some z ∧ z.cells.toList.map cellOf = C.zero t
 agg : ∀ t, C.size t ≠ 0 → (C.ty t).agg = false → ∀ d, C.P.underlying t = some d → (∀ F, d ≠ .struct F) ∧ (∀ n e, d ≠ .array n e)
 eqs : ∀ t, C.eqs t = true → ∃ F : Array Field, C.P.underlying t = some (.struct F) ∧ C.P.stoodInHeld t = false ∧ C.P.eqGuardType C.P.depth t = false ∧ F.size = C.size t ∧
  ∀ (i : Nat) f, F.toList[i]? = some f → f.name ≠ "_" ∧ f.offset = i ∧ C.size f.type = 1 ∧ ∃ k, C.ty f.type = .int k
end Go.Vc
namespace Go.Vc
open Go
theorem run_size {C : Ctx} (hT : TyOk C) {t : TypeId} (h : 0 < C.size t) (w : World) : (sizeOf t).run C.P w = .ok (C.size t) w := by
 obtain ⟨i, h1, h2, _⟩ := hT.info t (by omega)
 simp [Go.sizeOf, typeInfo, h1, h2]
theorem run_isAgg {C : Ctx} (hT : TyOk C) {t : TypeId} (h : 0 < C.size t) (w : World) : (isAgg t).run C.P w = .ok (C.ty t).agg w := by
 obtain ⟨i, h1, h2, _, h3⟩ := hT.info t (by omega)
 obtain ⟨d, hd⟩ := Option.isSome_iff_exists.1 h3
 cases ha : (C.ty t).agg with
 | true =>
  have hu := hT.und t
  cases hc : C.ty t <;> rw [hc] at hu ha <;> simp [TD.agg] at ha
  ·simp [isAgg, run_underlying hu]
  ·obtain ⟨F, hF, _⟩ := hu
   simp [isAgg, run_underlying hF]
 | false =>
  have hn := hT.agg t (by omega) ha d hd
  simp only [isAgg, Sem.run_bind, run_underlying hd, Result.andThen_ok]
  cases d <;> first | rfl | exact absurd rfl (hn.1 _) | exact absurd rfl (hn.2 _ _)
theorem run_part {C : Ctx} (hT : TyOk C) {R : RC} {t : TypeId} (hz : 0 < C.size t) {l : List PV} {cs : List Value} (hlen : l.length = cs.length) (hr : ∀ (i : Nat) u x, l[i]? = some u → cs[i]? = some x → Rep R u x) {off : Nat}
  (hoff : off + C.size t ≤ l.length) : ∃ x, Rep R (partP C t l off) x ∧ ∀ w, (part t ⟨cs⟩ off).run C.P w = .ok x w := by
 unfold partP
 cases ha : (C.ty t).agg with
 | true =>
  refine ⟨.agg ⟨(cs.drop off).take (C.size t)⟩, .agg _ _ (by simp; omega) (fun i u x hu hx => ?_), fun w => ?_⟩
  ·rw [List.getElem?_take] at hu hx
   split at hu
   ·rw [List.getElem?_drop] at hu
    rename_i hi
    rw [if_pos hi, List.getElem?_drop] at hx
    exact hr _ u x hu hx
   ·cases hu
  ·simp [part, run_isAgg hT hz, ha, run_size hT hz]
 | false =>
  have hlt : off < cs.length := by omega
  refine ⟨cs[off], hr off _ _ (by simp [nth, List.getD, show off < l.length by omega]) (List.getElem?_eq_getElem hlt), fun w => ?_⟩
  simp [part, run_isAgg hT hz, ha, hlt]
variable {C : Ctx} {E : Env} {Z : Nat → Prop} {φ : Phi} {s : St} {a : Act} {w : World}
theorem run_eqFields {C : Ctx} (hT : TyOk C) {R : RC} {l m : List PV} {cs cs' : List Value} (hc1 : l.length = cs.length) (hc2 : ∀ (i : Nat) u x, l[i]? = some u → cs[i]? = some x → Rep R u x)
  (hd1 : m.length = cs'.length) (hd2 : ∀ (i : Nat) u x, m[i]? = some u → cs'[i]? = some x → Rep R u x) (w : World) :
  ∀ (fs : List Field) (i : Nat) (r : Bool), (∀ (j : Nat) f, fs[j]? = some f → f.name ≠ "_" ∧ f.offset = i + j ∧ C.size f.type = 1 ∧ ∃ k, C.ty f.type = .int k) → i + fs.length = l.length → eqAll (l.drop i) (m.drop i) = some r →
   (Op.eqFields 9999 ⟨cs⟩ ⟨cs'⟩ fs).run C.P w = .ok r w
 | [], i, r, _, hl, hr => by
  have h1 : l.drop i = [] := List.drop_eq_nil_of_le (by simp at hl; omega)
  rw [h1] at hr
  cases hm : m.drop i with
  | nil => rw [hm] at hr; cases hr; simp [Op.eqFields]
  | cons _ _ => rw [hm] at hr; simp [eqAll] at hr
 | f :: fs, i, r, hf, hl, hr => by
  obtain ⟨hn, ho, hz, k, hk⟩ := hf 0 f rfl
  have hi : i < l.length := by simp at hl; omega
  rw [List.drop_eq_getElem_cons hi] at hr
  cases hm : m.drop i with
  | nil =>
   rw [hm] at hr
   generalize l[i] = u at hr
   cases u <;> simp [eqAll] at hr
  | cons v m' =>
   have hi2 : i < m.length := by
    by_cases hc : i < m.length
    ·exact hc
    ·rw [List.drop_eq_nil_of_le (by omega)] at hm; cases hm
   have hm2 := hm
   rw [List.drop_eq_getElem_cons hi2] at hm2
   obtain ⟨rfl, rfl⟩ := List.cons.inj hm2
   rw [hm] at hr
   generalize hu : l[i] = u at hr
   generalize hv : m[i] = v at hr
   have hfk : (C.ty f.type).agg = false := by rw [hk]; rfl
   have hp1 : partP C f.type l f.offset = u := by unfold partP nth; rw [hfk, ho, Nat.add_zero, List.getD_eq_getElem?_getD, List.getElem?_eq_getElem hi, hu]; rfl
   have hp2 : partP C f.type m f.offset = v := by unfold partP nth; rw [hfk, ho, Nat.add_zero, List.getD_eq_getElem?_getD, List.getElem?_eq_getElem hi2, hv]; rfl
   obtain ⟨x1, e1, e2⟩ := run_part hT (t := f.type) (off := f.offset) (by omega) hc1 hc2 (by omega)
   obtain ⟨y1, e3, e4⟩ := run_part hT (t := f.type) (off := f.offset) (by omega) hd1 hd2 (by omega)
   rw [hp1] at e1
   rw [hp2] at e3
   cases u <;> cases v <;> simp only [eqAll] at hr <;> try cases hr
   rename_i k1 a1 k2 b1
   split at hr
   ·rename_i hkk
    obtain rfl : k1 = k2 := of_decide_eq_true hkk
    split at hr
    ·rename_i b hb
     cases hr
     cases e1
     cases e3
     have hu2 := hT.und f.type
     rw [hk] at hu2
     have ih := run_eqFields hT hc1 hc2 hd1 hd2 w fs (i + 1) b (fun j f hj => by have := hf (j + 1) f hj; obtain ⟨q1, q2, q3⟩ := this; exact ⟨q1, by omega, q3⟩) (by simp at hl; omega) hb
     simp only [Op.eqFields]
     rw [if_pos hn]
     simp only [Sem.run_bind, e2, e4, Result.andThen_ok, run_equalIn_int w 9998 f.type k1 k a1 b1 hu2]
     cases hx : (a1 == b1)
     ·simp
     ·simp [ih]
    ·cases hr
   ·cases hr
theorem aggB_inv {op : BinOp} {n : Nat} {a b : PV} {K : PV → Prop} (h : aggB op n a b K) : ∃ l m r, a = .agg l ∧ b = .agg m ∧ l.length = n ∧ eqAll l m = some r ∧ ((op = .eql ∧ K (.bool r)) ∨ (op = .neq ∧ K (.bool !r))) := by
 unfold aggB at h
 split at h
 ·obtain ⟨h1, h2⟩ := h
  split at h2
  ·exact ⟨_, _, _, rfl, rfl, h1, by assumption, .inl ⟨rfl, h2⟩⟩
  ·exact ⟨_, _, _, rfl, rfl, h1, by assumption, .inr ⟨rfl, h2⟩⟩
  ·exact h2.elim
 ·exact h.elim
theorem Frame0.keeps {w : World} {E : Env} (h : Frame0 E.w0 E.own w) : ∀ b, E.Z0 b → w.heap[b]? = E.w0.heap[b]? := fun b hb => h.block b (E.zlt b hb).1 (E.zlt b hb).2
theorem Rel.globNow (h : Rel C E Z φ s a w) : Glob C w Z := h.glob.step fun b hb => ⟨h.z0 b hb, h.frame.keeps b hb⟩
theorem Rel.ev (h : Rel C E Z φ s a w) (x : Operand) : Rep ⟨w, Z, E.w0.heap.size, φ⟩ (ev C s x) (a.eval x) := by
 cases x with
 | tmp t => exact h.slots t
 | const v => exact rep_const _ v
 | global g =>
  show Rep _ (C.glob g) _
  rcases h.globNow g with hg | ⟨l, cs, h1, h2, h3, h4, _⟩
  ·rw [hg]; exact .undef _
  ·rw [h1]
   exact .ro l 0 true g 0 cs ⟨h2, .inl rfl⟩ (fun i hi => by rw [Nat.zero_add]; exact h3 i hi) (fun i u hu => (h4 i u hu).step fun b hb => ⟨⟨hb, .inl rfl⟩, rfl⟩)
 | func f => exact .fn _ _ _ [] [] rfl rfl (fun i u x hu => by simp at hu) (fun i u x hu => by simp at hu)
theorem Rel.opd (h : Rel C E Z φ s a w) {g : Prop} {x : Operand} {k : PV → Prop} (ho : opd C s g x k) : ∃ v, k v ∧ (g → Rep ⟨w, Z, E.w0.heap.size, φ⟩ v (a.eval x)) := by
 unfold Vc.opd at ho
 have he := h.ev x
 split at ho
 ·rename_i c v hc
  rw [hc] at he
  exact ⟨v, ho.2, fun hg => he.strip (ho.1 hg)⟩
 ·exact ⟨_, ho, fun _ => he⟩
theorem Rel.opds (h : Rel C E Z φ s a w) {g : Prop} : ∀ {xs : List Operand} {k : List PV → Prop}, opds C s g xs k →
  ∃ vs, k vs ∧ vs.length = xs.length ∧ (g → ∀ (i : Nat) v x, vs[i]? = some v → xs[i]? = some x → Rep ⟨w, Z, E.w0.heap.size, φ⟩ v (a.eval x))
 | [], k, ho => ⟨[], ho, rfl, fun _ i v x hv => by simp at hv⟩
 | x :: r, k, ho => by
  obtain ⟨v, h1, h2⟩ := h.opd ho
  obtain ⟨vs, h3, h4, h5⟩ := h.opds h1
  refine ⟨v :: vs, h3, by simp [h4], fun hg i u y hu hy => ?_⟩
  cases i with
  | zero => simp at hu hy; subst hu; subst hy; exact h2 hg
  | succ i => exact h5 hg i u y (by simpa using hu) (by simpa using hy)
def GivesDry (P : Program) (m : Sem Next) (w : World) (x : Value) (dry : Bool) : Prop := m.run P w = .ok (.value x) w ∧ (dry = true → ∀ w', m.run P w' = .ok (.value x) w')
section
variable {R : RC}
theorem Rep.int_inv {k n x} (h : Rep R (.int k n) x) : x = .int k n := by cases h; rfl
theorem Rep.bool_inv {b x} (h : Rep R (.bool b) x) : x = .bool b := by cases h; rfl
theorem Rep.str_inv {l x} (h : Rep R (.str l) x) : ∃ t : ByteArray, x = .string t ∧ t.data.toList = l := by cases h with | str l t h => exact ⟨t, rfl, h⟩
theorem Rep.agg_inv {l x} (h : Rep R (.agg l) x) : ∃ cs : List Value, x = .agg ⟨cs⟩ ∧ l.length = cs.length ∧ ∀ (i : Nat) u x, l[i]? = some u → cs[i]? = some x → Rep R u x := by
 cases h with | agg l cs h h1 => exact ⟨cs, rfl, h, h1⟩
theorem Rep.tup_inv {l x} (h : Rep R (.tup l) x) : ∃ cs : List Value, x = .tuple ⟨cs⟩ ∧ l.length = cs.length ∧ ∀ (i : Nat) u x, l[i]? = some u → cs[i]? = some x → Rep R u x := by
 cases h with | tup l cs h h1 => exact ⟨cs, rfl, h, h1⟩
end
variable (hT : TyOk C) (h : Rel C E Z φ s a w) {g : Prop} {K : PV → Prop} {o : Oper}
include h
theorem q_move {x : Operand} (ho : o.op = .move x ∨ o.op = .assign x) (hq : opd C s g x K) : ∃ v, K v ∧ (g → ∃ y, Rep ⟨w, Z, E.w0.heap.size, φ⟩ v y ∧ GivesDry C.P (execOp a.eval o) w y true) := by
 obtain ⟨v, hk, hr⟩ := h.opd hq
 refine ⟨v, hk, fun hg => ⟨_, hr hg, ?_⟩⟩
 rcases ho with ho | ho <;> simp [execOp, ho, GivesDry]
theorem q_pick {c x y : Operand} (ho : o.op = .pick c x y) (hq : qWp C s g (.pick c x y) K) : ∃ v, K v ∧ (g → ∃ y, Rep ⟨w, Z, E.w0.heap.size, φ⟩ v y ∧ GivesDry C.P (execOp a.eval o) w y true) := by
 simp only [qWp] at hq
 obtain ⟨vc, hq, hc⟩ := h.opd hq
 split at hq
 ·rename_i bc
  unfold pickB at hq
  obtain ⟨va, hq, ha⟩ := h.opd hq
  obtain ⟨vb, hq, hb⟩ := h.opd hq
  split at hq
  ·rename_i p q
   refine ⟨_, hq, fun hg => ⟨_, .bool _, ?_⟩⟩
   have hce := (hc hg).bool_inv
   cases bc with
   | true => have := (ha ⟨hg, rfl⟩).bool_inv; simp [execOp, ho, GivesDry, hce, this, asBool]
   | false => have := (hb ⟨hg, rfl⟩).bool_inv; simp [execOp, ho, GivesDry, hce, this, asBool]
  ·exact hq.elim
 ·exact hq.elim
theorem q_nil {x : Operand} (ho : o.op = .nilCheck x) (hq : qWp C s g (.nilCheck x) K) : ∃ v, K v ∧ (g → ∃ y, Rep ⟨w, Z, E.w0.heap.size, φ⟩ v y ∧ GivesDry C.P (execOp a.eval o) w y true) := by
 simp only [qWp] at hq
 obtain ⟨v, hq, hr⟩ := h.opd hq
 split at hq
 all_goals first | exact hq.elim | refine ⟨_, hq, fun hg => ⟨_, hr hg, ?_⟩⟩
 all_goals
  obtain ⟨y, hy⟩ : ∃ y, a.eval x = y := ⟨_, rfl⟩
  have hv := hr hg
  rw [hy] at hv ⊢
  cases hv
  simp [execOp, ho, GivesDry, hy]
section
include hT
theorem q_bin {op : BinOp} {t t' : TypeId} {x y : Operand} (ho : o.op = .binOp op t x y t') (hq : qWp C s g (.binOp op t x y t') K) : ∃ v, K v ∧ (g → ∃ y, Rep ⟨w, Z, E.w0.heap.size, φ⟩ v y ∧ GivesDry C.P (execOp a.eval o) w y true) := by
 simp only [qWp] at hq
 split at hq
 ·rename_i hn
  have hy : y = .const (.slice none 0 0) := by
   unfold isNilConst at hn
   split at hn
   ·rfl
   ·cases hn
  subst hy
  obtain ⟨va, hq, ha⟩ := h.opd hq
  have hd : ∀ d e p n c, C.ty t = .slice e → ∀ w, (Op.equalIn (d + 1) t (.slice p n c) (.slice none 0 0)).run C.P w = .ok p.isNone w := fun d e p n c he w => by
   have := hT.und t; rw [he] at this; cases p <;> simp [Op.equalIn, run_underlying this]
  have hc0 : a.eval (.const (.slice none 0 0)) = .slice none 0 0 := rfl
  have hb : ∀ (v : PV) (f : Prop), (∀ y1, Rep ⟨w, Z, E.w0.heap.size, φ⟩ v y1 → ∃ p n c, y1 = .slice p n c ∧ (f → p.isNone = false)) → (g → Rep ⟨w, Z, E.w0.heap.size, φ⟩ v (a.eval x)) →
    ∀ e, C.ty t = .slice e → ((op = .eql ∧ ∀ bb : Bool, (f → bb = false) → K (.bool bb)) ∨ (op = .neq ∧ ∀ bb : Bool, (f → bb = true) → K (.bool bb))) →
    ∃ v, K v ∧ (g → ∃ y, Rep ⟨w, Z, E.w0.heap.size, φ⟩ v y ∧ GivesDry C.P (execOp a.eval o) w y true) := by
   intro v f hf hv e he hk
   by_cases hg : g
   ·obtain ⟨p, n, c, hy, hp⟩ := hf _ (hv hg)
    rcases hk with ⟨rfl, hk⟩ | ⟨rfl, hk⟩
    ·refine ⟨_, hk p.isNone hp, fun _ => ⟨_, .bool _, ?_⟩⟩
     simp [execOp, ho, GivesDry, hy, hc0, binOp, eqGuard, Op.equal, Op.maxDepth, hd 9999 e p n c he]
    ·refine ⟨_, hk (!p.isNone) (fun h => by rw [hp h]; rfl), fun _ => ⟨_, .bool _, ?_⟩⟩
     simp [execOp, ho, GivesDry, hy, hc0, binOp, eqGuard, Op.equal, Op.maxDepth, hd 9999 e p n c he]
   ·rcases hk with ⟨_, hk⟩ | ⟨_, hk⟩
    ·exact ⟨_, hk false (fun _ => rfl), fun h => absurd h hg⟩
    ·exact ⟨_, hk true (fun _ => rfl), fun h => absurd h hg⟩
  have hs : ∀ z l t o' y1, Rep ⟨w, Z, E.w0.heap.size, φ⟩ (.sl z l t o') y1 → ∃ p n c, y1 = .slice p n c ∧ (l ≠ [] → p.isNone = false) := by
   intro z l t o' y1 hv
   cases hv with
   | sl _ _ _ _ _ h =>
    cases h with
    | sl _ _ _ _ p n c cs hn hc ht hz hm he =>
     refine ⟨p, n, c, rfl, fun hne => ?_⟩
     obtain ⟨ad, hp, _⟩ := hm 0 (List.length_pos_iff.mpr hne)
     rw [hp]; rfl
  have hr : ∀ z id lo n y1, Rep ⟨w, Z, E.w0.heap.size, φ⟩ (.ref z id lo n) y1 → ∃ p m c, y1 = .slice p m c ∧ (n ≠ 0 → p.isNone = false) := by
   intro z id lo n y1 hv
   cases hv with
   | ref => exact ⟨_, _, _, rfl, fun _ => rfl⟩
   | ref0 => exact ⟨_, _, _, rfl, fun h => absurd rfl h⟩
  unfold nilB at hq
  split at hq
  ·exact hb _ _ (hs _ _ _ _) ha _ (by assumption) (.inl ⟨rfl, hq⟩)
  ·exact hb _ _ (hs _ _ _ _) ha _ (by assumption) (.inr ⟨rfl, hq⟩)
  ·exact hb _ _ (hr _ _ _ _) ha _ (by assumption) (.inl ⟨rfl, hq⟩)
  ·exact hb _ _ (hr _ _ _ _) ha _ (by assumption) (.inr ⟨rfl, hq⟩)
  ·exact hq.elim
 obtain ⟨va, hq, ha⟩ := h.opd hq
 obtain ⟨vb, hq, hb⟩ := h.opd hq
 split at hq
 ·rename_i he
  obtain ⟨l, m, r, rfl, rfl, hl, hr, hq2⟩ := aggB_inv hq
  clear hq
  have key : g → ∃ xs ys, a.eval x = .agg xs ∧ a.eval y = .agg ys ∧ ∀ w, (eqGuard op t x y (.agg xs) (.agg ys)).run C.P w = .ok () w ∧ (Op.equalIn 10000 t (.agg xs) (.agg ys)).run C.P w = .ok r w := by
   intro hg
   obtain ⟨F, h1, h2, h3, h4, h5⟩ := hT.eqs t he
   have hx := ha hg
   have hy := hb hg
   generalize a.eval x = vx at hx
   generalize a.eval y = vy at hy
   cases hx with
   | agg _ cs hc1 hc2 =>
    cases hy with
    | agg _ cs' hd1 hd2 =>
     have hf : C.P.fieldsOf t = F := by unfold Program.fieldsOf; rw [h1]
     refine ⟨⟨cs⟩, ⟨cs'⟩, rfl, rfl, fun w => ⟨run_eqGuard_agg w op t x y _ _ h3, ?_⟩⟩
     rw [run_equalIn_agg w 9999 t _ _ (by rw [hf]; exact h1) h2, hf]
     exact run_eqFields hT hc1 hc2 hd1 hd2 w F.toList 0 r (fun j f hj => by have := h5 j f hj; simpa using this) (by rw [Array.length_toList, h4, hl, Nat.zero_add]) (by simpa using hr)
  rcases hq2 with ⟨rfl, hq3⟩ | ⟨rfl, hq3⟩
  ·refine ⟨_, hq3, fun hg => ⟨_, .bool _, ?_⟩⟩
   obtain ⟨xs, ys, k1, k2, k3⟩ := key hg
   have k5 : ∀ w, (binOp .eql t (.agg xs) (.agg ys)).run C.P w = .ok (.bool r) w := fun w => by rw [run_eql_struct (P := C.P) w t xs ys, (k3 w).2]; rfl
   simp [execOp, ho, GivesDry, k1, k2, (k3 _).1, k5]
  ·refine ⟨_, hq3, fun hg => ⟨_, .bool _, ?_⟩⟩
   obtain ⟨xs, ys, k1, k2, k3⟩ := key hg
   have k5 : ∀ w, (binOp .neq t (.agg xs) (.agg ys)).run C.P w = .ok (.bool (!r)) w := fun w => by rw [run_neq_struct (P := C.P) w t xs ys, (k3 w).2]; rfl
   simp [execOp, ho, GivesDry, k1, k2, (k3 _).1, k5]
 unfold binB at hq
 split at hq
 ·rename_i k m k' n _
  split at hq
  ·rename_i hs
   unfold shiftB at hq
   split at hq
   ·refine ⟨_, hq.2, fun hg => ⟨_, .int _ _, ?_⟩⟩
    have h1 := (ha hg).int_inv; have h2 := (hb hg).int_inv; have h3 := hq.1 hg
    have h4 : ¬ n < 0 := by omega
    simp [execOp, ho, GivesDry, h1, h2, binOp, Op.shift, h4, eqGuard]
   ·refine ⟨_, hq.2, fun hg => ⟨_, .int _ _, ?_⟩⟩
    have h1 := (ha hg).int_inv; have h2 := (hb hg).int_inv; have h3 := hq.1 hg
    have h4 : ¬ n < 0 := by omega
    simp [execOp, ho, GivesDry, h1, h2, binOp, Op.shift, h4, eqGuard]
   ·exact hq.elim
  ·obtain ⟨rfl, hq⟩ := hq
   unfold intB at hq
   split at hq
   all_goals first | exact hq.elim | skip
   case h_4 =>
    refine ⟨_, hq.2, fun hg => ⟨_, .int _ _, ?_⟩⟩
    have h1 := (ha hg).int_inv; have h2 := (hb hg).int_inv; have h3 := hq.1 hg
    simp [execOp, ho, GivesDry, h1, h2, binOp, Op.intDiv, h3, eqGuard]
   case h_5 =>
    refine ⟨_, hq.2, fun hg => ⟨_, .int _ _, ?_⟩⟩
    have h1 := (ha hg).int_inv; have h2 := (hb hg).int_inv; have h3 := hq.1 hg
    simp [execOp, ho, GivesDry, h1, h2, binOp, Op.intDiv, h3, eqGuard]
   all_goals
    refine ⟨_, hq, fun hg => ⟨_, by constructor, ?_⟩⟩
    have h1 := (ha hg).int_inv; have h2 := (hb hg).int_inv
    simp [execOp, ho, GivesDry, h1, h2, binOp, Op.intArith, Op.intBits, Op.intCmp, eqGuard, bitsI]
 ·rename_i p q _
  have hd : ∀ d, C.ty t = .bool → ∀ w, (Op.equalIn (d + 1) t (.bool p) (.bool q)).run C.P w = .ok (p == q) w := fun d e w => by
   have := hT.und t; rw [e] at this; simp [Op.equalIn, run_underlying this]
  split at hq
  all_goals first | exact hq.elim | exact ⟨_, hq.2, fun hg => (hq.1 hg).elim⟩ | skip
  all_goals
   have e : C.ty t = TD.bool := by assumption
   refine ⟨_, hq, fun hg => ⟨_, .bool _, ?_⟩⟩
   have h1 := (ha hg).bool_inv; have h2 := (hb hg).bool_inv
   have h3 := hd 9999 e
   simp [execOp, ho, GivesDry, h1, h2, binOp, eqGuard, Op.equal, Op.maxDepth, h3]
 ·rename_i p q _
  unfold strB at hq
  split at hq
  all_goals first | exact hq.elim | skip
  case h_1 =>
   refine ⟨_, hq.2, fun hg => ?_⟩
   obtain ⟨u, h1, h2⟩ := (ha hg).str_inv; obtain ⟨u', h3, h4⟩ := (hb hg).str_inv
   refine ⟨.string (u ++ u'), .str _ _ (by rw [← h2, ← h4]; simp), ?_⟩
   have hl := hq.1 hg
   rw [← h2, ← h4] at hl
   have hz : ¬ (9223372036854775807 < (u.size : Int) + (u'.size : Int)) := by
    have e1 : u.size = u.data.toList.length := by simp
    have e2 : u'.size = u'.data.toList.length := by simp
    omega
   simp [execOp, ho, GivesDry, h1, h3, binOp, Op.stringOp, eqGuard, hz]
  all_goals
   refine ⟨_, hq, fun hg => ⟨_, .bool _, ?_⟩⟩
   obtain ⟨u, h1, h2⟩ := (ha hg).str_inv; obtain ⟨u', h3, h4⟩ := (hb hg).str_inv
   simp [execOp, ho, GivesDry, h1, h3, binOp, Op.stringOp, eqGuard, Lib.toList_data, h2, h4]
 ·exact ⟨_, hq.2, fun hg => (hq.1 hg).elim⟩
end
theorem q_un {op : UnOp} {t : TypeId} {x : Operand} (ho : o.op = .unOp op t x) (hq : qWp C s g (.unOp op t x) K) : ∃ v, K v ∧ (g → ∃ y, Rep ⟨w, Z, E.w0.heap.size, φ⟩ v y ∧ GivesDry C.P (execOp a.eval o) w y true) := by
 simp only [qWp] at hq
 obtain ⟨va, hq, ha⟩ := h.opd hq
 unfold unB at hq
 split at hq
 ·refine ⟨_, hq, fun hg => ⟨_, .bool _, ?_⟩⟩
  simp [execOp, ho, GivesDry, (ha hg).bool_inv, Op.unary]
 ·refine ⟨_, hq, fun hg => ⟨_, .int _ _, ?_⟩⟩
  simp [execOp, ho, GivesDry, (ha hg).int_inv, Op.unary, Op.intArith]
 ·refine ⟨_, hq, fun hg => ⟨_, .int _ _, ?_⟩⟩
  simp [execOp, ho, GivesDry, (ha hg).int_inv, Op.unary, Op.intBits, bitsI]
 ·exact ⟨_, hq.2, fun hg => (hq.1 hg).elim⟩
section
include hT
theorem q_conv {src dst : TypeId} {x : Operand} (ho : o.op = .convert src dst x) (hq : qWp C s g (.convert src dst x) K) :
  ∃ v, K v ∧ (g → ∃ y, Rep ⟨w, Z, E.w0.heap.size, φ⟩ v y ∧ GivesDry C.P (execOp a.eval o) w y true) := by
 simp only [qWp] at hq
 obtain ⟨hz, hq⟩ := hq
 obtain ⟨va, hq, ha⟩ := h.opd hq
 obtain ⟨i, _, _, _, hs⟩ := hT.info src (by omega)
 obtain ⟨d, hd⟩ := Option.isSome_iff_exists.1 hs
 have hu := hT.und dst
 split at hq
 ·have he := ‹C.ty dst = TD.int _›
  rw [he] at hu
  refine ⟨_, hq, fun hg => ⟨_, .int _ _, ?_⟩⟩
  simp [execOp, ho, GivesDry, (ha hg).int_inv, convert, run_underlying hd, run_underlying hu, Conv.intToInt]
 ·have he := ‹C.ty dst = TD.str›
  rw [he] at hu
  refine ⟨_, hq, fun hg => ?_⟩
  obtain ⟨u, h1, h2⟩ := (ha hg).str_inv
  refine ⟨_, .str _ _ h2, ?_⟩
  simp [execOp, ho, GivesDry, h1, convert, run_underlying hd, run_underlying hu]
 ·exact hq.elim
end
theorem q_makeFunc {f : Fn} {first caps : Array Operand} (ho : o.op = .makeFunc f first caps) (hq : qWp C s g (.makeFunc f first caps) K) :
  ∃ v, K v ∧ (g → ∃ y, Rep ⟨w, Z, E.w0.heap.size, φ⟩ v y ∧ GivesDry C.P (execOp a.eval o) w y true) := by
 simp only [qWp] at hq
 obtain ⟨v1, hq, hl1, h1⟩ := h.opds hq
 obtain ⟨v2, hq, hl2, h2⟩ := h.opds hq
 refine ⟨_, hq, fun hg => ⟨_, .fn f v1 v2 (first.toList.map a.eval) (caps.toList.map a.eval) (by simpa using hl1) (by simpa using hl2) (fun i u x hu hx => ?_) (fun i u x hu hx => ?_), ?_⟩⟩
 ·rw [List.getElem?_map, Option.map_eq_some_iff] at hx
  obtain ⟨x', hx', rfl⟩ := hx
  exact h1 hg i u x' hu hx'
 ·rw [List.getElem?_map, Option.map_eq_some_iff] at hx
  obtain ⟨x', hx', rfl⟩ := hx
  exact h2 hg i u x' hu hx'
 ·obtain ⟨first⟩ := first
  obtain ⟨caps⟩ := caps
  simp [execOp, ho, GivesDry, Instr.makeFunc]
theorem q_extract {i : Nat} {x : Operand} (ho : o.op = .extract x i) (hq : qWp C s g (.extract x i) K) :
  ∃ v, K v ∧ (g → ∃ y, Rep ⟨w, Z, E.w0.heap.size, φ⟩ v y ∧ GivesDry C.P (execOp a.eval o) w y true) := by
 simp only [qWp] at hq
 obtain ⟨va, hq, ha⟩ := h.opd hq
 split at hq
 ·rename_i l _
  obtain ⟨hi, hq⟩ := hq
  refine ⟨_, hq, fun hg => ?_⟩
  obtain ⟨cs, h1, h2, h3⟩ := (ha hg).tup_inv
  refine ⟨cs[i]'(by omega), h3 i _ _ (by simp [nth, List.getD, hi]) (List.getElem?_eq_getElem _), ?_⟩
  simp [execOp, ho, GivesDry, h1, Instr.extract, List.getElem?_eq_getElem (show i < cs.length by omega)]
 ·exact hq.elim
theorem q_max {x y : Operand} {ts : Array TypeId} (ho : o.op = .call { callee := .builtin .max, args := #[x, y], argTypes := ts }) (hq : qWp C s g (.call { callee := .builtin .max, args := #[x, y], argTypes := ts }) K) :
  ∃ v, K v ∧ (g → ∃ y, Rep ⟨w, Z, E.w0.heap.size, φ⟩ v y ∧ GivesDry C.P (execOp a.eval o) w y true) := by
 simp only [qWp] at hq
 obtain ⟨va, hq, ha⟩ := h.opd hq
 obtain ⟨vb, hq, hb⟩ := h.opd hq
 split at hq
 ·refine ⟨_, hq, fun hg => ⟨_, .int _ _, ?_⟩⟩
  simp [execOp, ho, GivesDry, resolve, invoke, builtin, Builtin.max_, Builtin.max2, (ha hg).int_inv, (hb hg).int_inv]
 ·exact hq.elim
theorem q_min {x y : Operand} {ts : Array TypeId} (ho : o.op = .call { callee := .builtin .min, args := #[x, y], argTypes := ts }) (hq : qWp C s g (.call { callee := .builtin .min, args := #[x, y], argTypes := ts }) K) :
  ∃ v, K v ∧ (g → ∃ y, Rep ⟨w, Z, E.w0.heap.size, φ⟩ v y ∧ GivesDry C.P (execOp a.eval o) w y true) := by
 simp only [qWp] at hq
 obtain ⟨va, hq, ha⟩ := h.opd hq
 obtain ⟨vb, hq, hb⟩ := h.opd hq
 split at hq
 ·refine ⟨_, hq, fun hg => ⟨_, .int _ _, ?_⟩⟩
  simp [execOp, ho, GivesDry, resolve, invoke, builtin, Builtin.min_, Builtin.min2, (ha hg).int_inv, (hb hg).int_inv]
 ·exact hq.elim
section
include hT
theorem q_len {x : Operand} {t : TypeId} (ho : o.op = .call { callee := .builtin .len, args := #[x], argTypes := #[t] }) (hq : qWp C s g (.call { callee := .builtin .len, args := #[x], argTypes := #[t] }) K) :
  ∃ v, K v ∧ (g → ∃ y, Rep ⟨w, Z, E.w0.heap.size, φ⟩ v y ∧ GivesDry C.P (execOp a.eval o) w y true) := by
 simp only [qWp] at hq
 obtain ⟨va, hq, ha⟩ := h.opd hq
 have hu := hT.und t
 split at hq
 ·have he := ‹C.ty t = TD.str›
  rw [he] at hu
  refine ⟨_, hq, fun hg => ⟨_, .int _ _, ?_⟩⟩
  obtain ⟨u, h1, h2⟩ := (ha hg).str_inv
  simp [execOp, ho, GivesDry, resolve, invoke, builtin, Builtin.len_, h1, run_underlying hu, goInt, ← h2]
 ·have he := ‹C.ty t = TD.slice _›
  rw [he] at hu
  refine ⟨_, hq, fun hg => ⟨_, .int _ _, ?_⟩⟩
  have hv := ha hg
  obtain ⟨y, hy⟩ : ∃ y, a.eval x = y := ⟨_, rfl⟩
  rw [hy] at hv
  cases hv with
  | sl _ _ _ _ _ h =>
   cases h with
   | sl _ _ _ _ p n c cs hn hc ht hz hm he =>
    simp [execOp, ho, GivesDry, resolve, invoke, builtin, Builtin.len_, hy, run_underlying hu, goInt, hn]
 ·have he := ‹C.ty t = TD.slice _›
  rw [he] at hu
  refine ⟨_, hq, fun hg => ⟨_, .int _ _, ?_⟩⟩
  have hv := ha hg
  obtain ⟨y, hy⟩ : ∃ y, a.eval x = y := ⟨_, rfl⟩
  rw [hy] at hv
  cases hv with
  | ref => simp [execOp, ho, GivesDry, resolve, invoke, builtin, Builtin.len_, hy, run_underlying hu, goInt]
  | ref0 => simp [execOp, ho, GivesDry, resolve, invoke, builtin, Builtin.len_, hy, run_underlying hu, goInt]
 ·have he := ‹C.ty t = TD.arr _ _›
  rw [he] at hu
  refine ⟨_, hq, fun hg => ⟨_, .int _ _, ?_⟩⟩
  simp [execOp, ho, GivesDry, resolve, invoke, builtin, Builtin.len_, run_underlying hu, goInt]
 ·exact hq.elim
theorem q_fieldAddr {t : TypeId} {x : Operand} {f : Nat} (ho : o.op = .fieldAddr t x f) (hq : qWp C s g (.fieldAddr t x f) K) :
  ∃ v, K v ∧ (g → ∃ y, Rep ⟨w, Z, E.w0.heap.size, φ⟩ v y ∧ GivesDry C.P (execOp a.eval o) w y true) := by
 simp only [qWp] at hq
 obtain ⟨va, hq, ha⟩ := h.opd hq
 have hu := hT.und t
 split at hq
 ·have he := ‹C.ty t = TD.struct _›
  rw [he] at hu
  obtain ⟨F, hF, hfs, hne⟩ := hu
  split at hq
  ·rename_i off ty hf
   have hz : 0 < C.size ty := Nat.pos_of_ne_zero (hne _ (List.mem_of_getElem? hf))
   have hFf : ∃ fd, F[f]? = some fd ∧ fd.offset = off ∧ fd.type = ty := by
    rw [← hfs, List.getElem?_map, Option.map_eq_some_iff] at hf
    obtain ⟨fd, h1, h2⟩ := hf
    simp only [Prod.mk.injEq] at h2
    exact ⟨fd, by simpa using h1, h2.1, h2.2⟩
   obtain ⟨fd, hfd, rfl, rfl⟩ := hFf
   have run : ∀ ad w, (Instr.fieldAt t (.pointer (some ad)) f).run C.P w = .ok (.pointer (some (ad.add fd.offset))) w := by
    intro ad w
    simp [Instr.fieldAt, run_underlying hF, hfd, Instr.sureAddr, fieldPlace, run_size hT hz, Nat.ne_of_gt hz]
   split at hq
   ·rename_i i p
    refine ⟨_, hq, fun hg => ?_⟩
    have hv := ha hg
    obtain ⟨y, hy⟩ : ∃ y, a.eval x = y := ⟨_, rfl⟩
    rw [hy] at hv
    cases hv with
    | ptr _ _ b m hb =>
     refine ⟨_, .ptr i (p + fd.offset) b m hb, ?_⟩
     have := run ⟨b, p, none⟩
     simp only [Addr.add_lit] at this
     simp [execOp, ho, GivesDry, hy, this]
   ·rename_i z i j p
    refine ⟨_, hq, fun hg => ?_⟩
    have hv := ha hg
    obtain ⟨y, hy⟩ : ∃ y, a.eval x = y := ⟨_, rfl⟩
    rw [hy] at hv
    cases hv with
    | eptr _ _ _ _ b m hb =>
     refine ⟨_, .eptr z i j (p + fd.offset) b m hb, ?_⟩
     have := run ⟨b, j * z + p, none⟩
     simp only [Addr.add_lit, Nat.add_assoc] at this
     simp [execOp, ho, GivesDry, hy, this]
   ·rename_i l p oo
    refine ⟨_, hq, fun hg => ?_⟩
    have hv := ha hg
    obtain ⟨y, hy⟩ : ∃ y, a.eval x = y := ⟨_, rfl⟩
    rw [hy] at hv
    cases hv with
    | ro _ _ _ b q cs hb hm he =>
     refine ⟨_, .ro l (p + fd.offset) oo b q cs hb hm he, ?_⟩
     have := run ⟨b, q + p, none⟩
     simp only [Addr.add_lit, Nat.add_assoc] at this
     simp [execOp, ho, GivesDry, hy, this]
   ·exact hq.elim
  ·exact hq.elim
 ·exact hq.elim
theorem q_field {t : TypeId} {x : Operand} {f : Nat} (ho : o.op = .field t x f) (hq : qWp C s g (.field t x f) K) :
  ∃ v, K v ∧ (g → ∃ y, Rep ⟨w, Z, E.w0.heap.size, φ⟩ v y ∧ GivesDry C.P (execOp a.eval o) w y true) := by
 simp only [qWp] at hq
 obtain ⟨va, hq, ha⟩ := h.opd hq
 have hu := hT.und t
 split at hq
 ·have he := ‹C.ty t = TD.struct _›
  rw [he] at hu
  obtain ⟨F, hF, hfs, hne⟩ := hu
  split at hq
  ·rename_i off ty hf
   obtain ⟨hz, hoff, hq⟩ := hq
   have hFf : ∃ fd, F[f]? = some fd ∧ fd.offset = off ∧ fd.type = ty := by
    rw [← hfs, List.getElem?_map, Option.map_eq_some_iff] at hf
    obtain ⟨fd, h1, h2⟩ := hf
    simp only [Prod.mk.injEq] at h2
    exact ⟨fd, by simpa using h1, h2.1, h2.2⟩
   obtain ⟨fd, hfd, rfl, rfl⟩ := hFf
   refine ⟨_, hq, fun hg => ?_⟩
   obtain ⟨cs, h1, h2, h3⟩ := (ha hg).agg_inv
   obtain ⟨y, h4, h5⟩ := run_part hT hz h2 h3 hoff
   refine ⟨y, h4, ?_⟩
   simp [execOp, ho, GivesDry, h1, Instr.field, run_underlying hF, hfd, asAgg, h5]
  ·exact hq.elim
 ·exact hq.elim
end
end Go.Vc
