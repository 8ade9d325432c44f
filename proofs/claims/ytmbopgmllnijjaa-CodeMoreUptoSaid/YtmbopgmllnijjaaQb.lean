/- What is proved here: contracts of functions of the program: of each function what it hands back and what it leaves in memory. Conditions: those that each theorem names. -/
import Derived.Lib.Bytealg
import Derived.Test.YtmbopgmllnijjaaQa
set_option linter.unusedVariables false
set_option linter.unusedSimpArgs false
set_option linter.unusedSectionVars false
namespace Go.Vc
open Go Go.Proofs
set_option maxRecDepth 100000
/-! Which texts are types'. -/
theorem ixb_spec (s : List UInt8) (c : UInt8) (Post : PV → List (Nat × Blk) → Prop) (h : Post (.int .i64 (Lib.indexByte s c)) []) : Spec K 125 [.str s, .int .u8 c.toNat] [] Post := by
  refine ⟨fun w Z φ vs hbef o a next Q hn => ?_⟩
  obtain ⟨h1, h2, h3, h4, h5⟩ := hbef
  match vs, h1 with
  | [x0, x1], _ =>
    have e0 := h2 0 _ _ rfl rfl
    have e1 := (h2 1 _ _ rfl rfl).int_inv
    obtain ⟨u, rfl, hu⟩ := e0.str_inv
    subst e1
    rw [run_callFunc_extern (P := K.P) Try.func125 (by kernel_rfl) (by kernel_rfl) (by kernel_rfl) (e := Extern.BytealgIndexByte.indexByte) (by kernel_rfl)]
    rw [Lib.run_indexByteString, hu]
    have hc : (c.toNat : Int).toNat.toUInt8 = c := by
      rw [Int.toNat_natCast]
      exact UInt8.ofNat_toNat
    rw [hc]
    exact hn _ _ ⟨_, _, φ, Z, h, .int _ _, h3, fun i hi => (by cases hi), h4, fun b hb => .inl hb, fun b hb => hb, ⟨rfl, rfl, rfl, Nat.le_refl _, fun _ _ _ => rfl, fun b cs T hb => ⟨cs, hb, rfl⟩⟩⟩
theorem ixb2_spec (s : List UInt8) (c : UInt8) (Post : PV → List (Nat × Blk) → Prop) (h : Post (.int .i64 (Lib.indexByte s c)) []) : Spec K 121 [.str s, .int .u8 c.toNat] [] Post := by
  refine is121.specW K_ok K_mix false (by simp) (by simp [keys]) ?_
  (conv => whnf); repeat ((first | (refine And.intro ?_ ?_; focus exact Cl4) | refine Both.T (by exact rfl) ?_ | refine Both.F (by exact rfl) ?_ | refine Both.GT (by exact rfl) (by exact rfl) ?_ | refine Both.GF (by exact rfl) ?_ | refine Both.GN (by exact rfl) ?_); conv => whnf)
  refine ixb_spec s c _ ?_
  (conv => whnf); repeat ((first | (refine And.intro ?_ ?_; focus exact Cl4) | refine Both.T (by exact rfl) ?_ | refine Both.F (by exact rfl) ?_ | refine Both.GT (by exact rfl) (by exact rfl) ?_ | refine Both.GF (by exact rfl) ?_ | refine Both.GN (by exact rfl) ?_); conv => whnf)
  exact h
/-- Where a colon stands, or -1. -/
def colon (s : List UInt8) : Int := Lib.indexByte s 58
theorem index_spec (s : List UInt8) (Post : PV → List (Nat × Blk) → Prop) (h : Post (.int .i64 (colon s)) []) : Spec K 120 [.str s, .str [58]] [] Post := by
  refine is120.specW K_ok K_mix false (by simp) (by simp [keys]) ?_
  (conv => whnf); repeat ((first | (refine And.intro ?_ ?_; focus exact Cl4) | refine Both.T (by exact rfl) ?_ | refine Both.F (by exact rfl) ?_ | refine Both.GT (by exact rfl) (by exact rfl) ?_ | refine Both.GF (by exact rfl) ?_ | refine Both.GN (by exact rfl) ?_); conv => whnf)
  refine Both.mk (fun hc => ?_) (fun hc => ?_)
  · have hs : s = [58] := by have := hc; simp at this; exact this.symm
    subst hs
    (conv => whnf); repeat ((first | (refine And.intro ?_ ?_; focus exact Cl4) | refine Both.T (by exact rfl) ?_ | refine Both.F (by exact rfl) ?_ | refine Both.GT (by exact rfl) (by exact rfl) ?_ | refine Both.GF (by exact rfl) ?_ | refine Both.GN (by exact rfl) ?_); conv => whnf)
    exact h
  · (conv => whnf); repeat ((first | (refine And.intro ?_ ?_; focus exact Cl4) | refine Both.T (by exact rfl) ?_ | refine Both.F (by exact rfl) ?_ | refine Both.GT (by exact rfl) (by exact rfl) ?_ | refine Both.GF (by exact rfl) ?_ | refine Both.GN (by exact rfl) ?_); conv => whnf)
    refine ixb2_spec s 58 _ ?_
    (conv => whnf); repeat ((first | (refine And.intro ?_ ?_; focus exact Cl4) | refine Both.T (by exact rfl) ?_ | refine Both.F (by exact rfl) ?_ | refine Both.GT (by exact rfl) (by exact rfl) ?_ | refine Both.GF (by exact rfl) ?_ | refine Both.GN (by exact rfl) ?_); conv => whnf)
    exact h
theorem colon_le (s : List UInt8) : colon s < s.length := by
  unfold colon
  induction s with
  | nil => decide
  | cons b l ih =>
    unfold Lib.indexByte
    split
    · simp
    · split
      · simp only [List.length_cons]; omega
      · simp only [List.length_cons]; omega
/-- Ahead of the first colon, behind it, is there one? -/
def cutM (s : List UInt8) : List UInt8 × List UInt8 × Bool := if 0 ≤ colon s then (s.take (colon s).toNat, s.drop ((colon s).toNat + 1), true) else (s, [], false)
theorem cutI_spec (s : List UInt8) (hs : s.length ≤ 1000000000) (Post : PV → List (Nat × Blk) → Prop) (h : Post (.tup [.str (cutM s).1, .str (cutM s).2.1, .bool (cutM s).2.2]) []) : Spec K 119 [.str s, .str [58]] [] Post := by
  refine is119.specW K_ok K_mix false (by simp) (by simp [keys]) ?_
  have hl := colon_le s
  (conv => whnf); repeat ((first | (refine And.intro ?_ ?_; focus exact Cl4) | refine Both.T (by exact rfl) ?_ | refine Both.F (by exact rfl) ?_ | refine Both.GT (by exact rfl) (by exact rfl) ?_ | refine Both.GF (by exact rfl) ?_ | refine Both.GN (by exact rfl) ?_); conv => whnf)
  refine index_spec s _ ?_
  unfold cutM at h
  by_cases h0 : 0 ≤ colon s
  · rw [if_pos h0] at h
    (conv => whnf); repeat ((first | (refine And.intro ?_ ?_; focus exact Cl4) | refine Both.T (by exact rfl) ?_ | refine Both.F (by exact rfl) ?_ | refine Both.GT (by exact rfl) (by exact rfl) ?_ | refine Both.GF (by exact rfl) ?_ | refine Both.GN (by exact rfl) ?_); conv => whnf)
    rw [decide_eq_true h0]
    (conv => whnf); repeat ((first | (refine And.intro ?_ ?_; focus exact Cl4) | refine Both.T (by exact rfl) ?_ | refine Both.F (by exact rfl) ?_ | refine Both.GT (by exact rfl) (by exact rfl) ?_ | refine Both.GF (by exact rfl) ?_ | refine Both.GN (by exact rfl) ?_); conv => whnf)
    have hw : IntKind.i64.wrap (colon s + (([58] : List UInt8).length : Int)) = colon s + 1 := wrap64 (by omega) (by simp; omega)
    (conv => whnf); repeat' (first | ((first | (refine And.intro ?_ ?_; focus exact Cl4) | refine Both.T (by exact rfl) ?_ | refine Both.F (by exact rfl) ?_ | refine Both.GT (by exact rfl) (by exact rfl) ?_ | refine Both.GF (by exact rfl) ?_ | refine Both.GN (by exact rfl) ?_); conv => whnf) | (fail; conv => whnf) | ((refine Both.mk ?_ ?_ <;> fail_if_success (intro _)) <;> conv => whnf))
    rw [hw, List.drop_zero, List.take_length, show (colon s + 1).toNat = (colon s).toNat + 1 by omega]
    exact h
  · rw [if_neg h0] at h
    (conv => whnf); repeat ((first | (refine And.intro ?_ ?_; focus exact Cl4) | refine Both.T (by exact rfl) ?_ | refine Both.F (by exact rfl) ?_ | refine Both.GT (by exact rfl) (by exact rfl) ?_ | refine Both.GF (by exact rfl) ?_ | refine Both.GN (by exact rfl) ?_); conv => whnf)
    rw [decide_eq_false h0]
    (conv => whnf); repeat ((first | (refine And.intro ?_ ?_; focus exact Cl4) | refine Both.T (by exact rfl) ?_ | refine Both.F (by exact rfl) ?_ | refine Both.GT (by exact rfl) (by exact rfl) ?_ | refine Both.GF (by exact rfl) ?_ | refine Both.GN (by exact rfl) ?_); conv => whnf)
    exact h
theorem cut_spec (s : List UInt8) (hs : s.length ≤ 1000000000) (Post : PV → List (Nat × Blk) → Prop) (h : Post (.tup [.str (cutM s).1, .str (cutM s).2.1, .bool (cutM s).2.2]) []) : Spec K 118 [.str s, .str [58]] [] Post := by
  refine is118.specW K_ok K_mix false (by simp) (by simp [keys]) ?_
  (conv => whnf); repeat ((first | (refine And.intro ?_ ?_; focus exact Cl4) | refine Both.T (by exact rfl) ?_ | refine Both.F (by exact rfl) ?_ | refine Both.GT (by exact rfl) (by exact rfl) ?_ | refine Both.GF (by exact rfl) ?_ | refine Both.GN (by exact rfl) ?_); conv => whnf)
  refine cutI_spec s hs _ ?_
  (conv => whnf); repeat ((first | (refine And.intro ?_ ?_; focus exact Cl4) | refine Both.T (by exact rfl) ?_ | refine Both.F (by exact rfl) ?_ | refine Both.GT (by exact rfl) (by exact rfl) ?_ | refine Both.GF (by exact rfl) ?_ | refine Both.GN (by exact rfl) ?_); conv => whnf)
  exact h
theorem pref_eq (q s : List UInt8) : (bif decide ((q.length : Int) ≤ s.length) then List.drop 0 (List.take ((q.length : Int)).toNat s) == q else false) = q.isPrefixOf s := by
  rw [List.drop_zero, Int.toNat_natCast, Bool.eq_iff_iff, List.isPrefixOf_iff_prefix, List.prefix_iff_eq_take]
  by_cases h : q.length ≤ s.length
  · rw [decide_eq_true (show (q.length : Int) ≤ s.length by omega)]
    simp only [cond_true, beq_iff_eq]
    exact ⟨fun h => h.symm, fun h => h.symm⟩
  · rw [decide_eq_false (show ¬ (q.length : Int) ≤ s.length by omega)]
    simp only [cond_false, Bool.false_eq_true, false_iff]
    intro he
    have := congrArg List.length he
    rw [List.length_take] at this
    omega
theorem prefI_spec (s q : List UInt8) (hs : s.length ≤ 1000000000) (hq : q.length ≤ 1000000000) (Post : PV → List (Nat × Blk) → Prop) (h : Post (.bool (q.isPrefixOf s)) []) : Spec K 116 [.str s, .str q] [] Post := by
  refine is116.specW K_ok K_mix false (by simp) (by simp [keys]) ?_
  (conv => whnf); repeat ((first | (refine And.intro ?_ ?_; focus exact Cl4) | refine Both.T (by exact rfl) ?_ | refine Both.F (by exact rfl) ?_ | refine Both.GT (by exact rfl) (by exact rfl) ?_ | refine Both.GF (by exact rfl) ?_ | refine Both.GN (by exact rfl) ?_); conv => whnf)
  rw [pref_eq]
  exact h
theorem pref_spec (s q : List UInt8) (hs : s.length ≤ 1000000000) (hq : q.length ≤ 1000000000) (Post : PV → List (Nat × Blk) → Prop) (h : Post (.bool (q.isPrefixOf s)) []) : Spec K 112 [.str s, .str q] [] Post := by
  refine is112.specW K_ok K_mix false (by simp) (by simp [keys]) ?_
  (conv => whnf); repeat ((first | (refine And.intro ?_ ?_; focus exact Cl4) | refine Both.T (by exact rfl) ?_ | refine Both.F (by exact rfl) ?_ | refine Both.GT (by exact rfl) (by exact rfl) ?_ | refine Both.GF (by exact rfl) ?_ | refine Both.GN (by exact rfl) ?_); conv => whnf)
  refine prefI_spec s q hs hq _ ?_
  (conv => whnf); repeat ((first | (refine And.intro ?_ ?_; focus exact Cl4) | refine Both.T (by exact rfl) ?_ | refine Both.F (by exact rfl) ?_ | refine Both.GT (by exact rfl) (by exact rfl) ?_ | refine Both.GF (by exact rfl) ?_ | refine Both.GN (by exact rfl) ?_); conv => whnf)
  exact h
/-- A beginning is cut off. -/
def cutPre (q s : List UInt8) : List UInt8 × Bool := if q.isPrefixOf s then (s.drop q.length, true) else (s, false)
theorem cutPreI_spec (s q : List UInt8) (hs : s.length ≤ 1000000000) (hq : q.length ≤ 1000000000) (Post : PV → List (Nat × Blk) → Prop) (h : Post (.tup [.str (cutPre q s).1, .bool (cutPre q s).2]) []) : Spec K 117 [.str s, .str q] [] Post := by
  refine is117.specW K_ok K_mix false (by simp) (by simp [keys]) ?_
  (conv => whnf); repeat ((first | (refine And.intro ?_ ?_; focus exact Cl4) | refine Both.T (by exact rfl) ?_ | refine Both.F (by exact rfl) ?_ | refine Both.GT (by exact rfl) (by exact rfl) ?_ | refine Both.GF (by exact rfl) ?_ | refine Both.GN (by exact rfl) ?_); conv => whnf)
  refine prefI_spec s q hs hq _ ?_
  unfold cutPre at h
  cases hp : q.isPrefixOf s
  · rw [hp] at h
    (conv => whnf); repeat ((first | (refine And.intro ?_ ?_; focus exact Cl4) | refine Both.T (by exact rfl) ?_ | refine Both.F (by exact rfl) ?_ | refine Both.GT (by exact rfl) (by exact rfl) ?_ | refine Both.GF (by exact rfl) ?_ | refine Both.GN (by exact rfl) ?_); conv => whnf)
    exact h
  · rw [hp] at h
    have hl : q.length ≤ s.length := (List.isPrefixOf_iff_prefix.1 hp).length_le
    (conv => whnf); repeat ((first | (refine And.intro ?_ ?_; focus exact Cl4) | refine Both.T (by exact rfl) ?_ | refine Both.F (by exact rfl) ?_ | refine Both.GT (by exact rfl) (by exact rfl) ?_ | refine Both.GF (by exact rfl) ?_ | refine Both.GN (by exact rfl) ?_); conv => whnf)
    rw [List.take_length, Int.toNat_natCast]
    exact h
theorem cutPre_spec (s q : List UInt8) (hs : s.length ≤ 1000000000) (hq : q.length ≤ 1000000000) (Post : PV → List (Nat × Blk) → Prop) (h : Post (.tup [.str (cutPre q s).1, .bool (cutPre q s).2]) []) : Spec K 113 [.str s, .str q] [] Post := by
  refine is113.specW K_ok K_mix false (by simp) (by simp [keys]) ?_
  (conv => whnf); repeat ((first | (refine And.intro ?_ ?_; focus exact Cl4) | refine Both.T (by exact rfl) ?_ | refine Both.F (by exact rfl) ?_ | refine Both.GT (by exact rfl) (by exact rfl) ?_ | refine Both.GF (by exact rfl) ?_ | refine Both.GN (by exact rfl) ?_); conv => whnf)
  refine cutPreI_spec s q hs hq _ ?_
  (conv => whnf); repeat ((first | (refine And.intro ?_ ?_; focus exact Cl4) | refine Both.T (by exact rfl) ?_ | refine Both.F (by exact rfl) ?_ | refine Both.GT (by exact rfl) (by exact rfl) ?_ | refine Both.GF (by exact rfl) ?_ | refine Both.GN (by exact rfl) ?_); conv => whnf)
  exact h
/-- The kind that a word means. -/
def kindM (w : List UInt8) : Int :=
  if w = [110, 111, 110, 101] then 0 else if w = [105, 110, 116] then 1 else if w = [98, 111, 111, 108] then 2 else if w = [116, 101, 120, 116] then 3 else if w = [102, 117, 116, 117, 114, 101] then 6 else -1
theorem kind_spec (w : List UInt8) (Post : PV → List (Nat × Blk) → Prop) (h : Post (.int .i64 (kindM w)) []) : Spec K 115 [.str w] [] Post := by
  have key : ∀ u : Int, u = kindM w → Post (.int .i64 u) [] := fun u e => by rw [e]; exact h
  clear h
  refine is115.specW K_ok K_mix false (by simp) (by simp [keys]) ?_
  (conv => whnf); repeat' (first | ((first | (refine And.intro ?_ ?_; focus exact Cl4) | refine Both.T (by exact rfl) ?_ | refine Both.F (by exact rfl) ?_ | refine Both.GT (by exact rfl) (by exact rfl) ?_ | refine Both.GF (by exact rfl) ?_ | refine Both.GN (by exact rfl) ?_ | refine Both.T (by assumption) ?_ | refine Both.F (by assumption) ?_); conv => whnf) | (refine Both.mk (fun hb => ?_) (fun hb => ?_) <;> conv => whnf))
  all_goals (refine key _ ?_; unfold kindM; simp_all)
end Go.Vc
namespace Go.Vc
open Go Go.Proofs
set_option maxRecDepth 100000
/-! May a program be? What the code answers, as functions. -/
def Vz : V := .mk 0 0 [] [] []
def low (c : UInt8) : Bool := decide (97 ≤ c.toNat) && decide (c.toNat ≤ 122)
def wordM (t : List UInt8) : List UInt8 := t.takeWhile low
mutual
/-- A type is taken off a text: what is left, and is it one? -/
def readM : Nat → List UInt8 → List UInt8 × Bool
  | 0, _ => ([], false)
  | n + 1, t =>
    match t with
    | 91 :: r => match readM n r with
      | (93 :: l, ok) => (l, ok)
      | (l, _) => (l, false)
    | 123 :: 125 :: r => (r, true)
    | 123 :: r => recM n [] r
    | _ => (t.drop (wordM t).length, decide (0 ≤ kindM (wordM t)))
def recM : Nat → List (List UInt8) → List UInt8 → List UInt8 × Bool
  | 0, _, _ => ([], false)
  | n + 1, ns, t =>
    match readM n (cutM t).2.1 with
    | (l, ok) => match (cutM t).2.2 && ok, l with
      | true, 125 :: r => (r, rise [] (ns ++ [(cutM t).1]))
      | true, 44 :: r => recM n (ns ++ [(cutM t).1]) r
      | _, _ => ([], false)
end
def fitsT (t : List UInt8) : Bool := decide (t.length ≤ 64) && (readM (2 * t.length + 1) t).2 && (readM (2 * t.length + 1) t).1.isEmpty
def textM (p : PG) (n : Int) : List UInt8 × Bool := if 0 ≤ n then match p.consts[n.toNat]? with | some v => (v.s, v.k == 3) | none => ([], false) else ([], false)
def nameM (s : List UInt8) : Bool := mayV (.mk 5 0 [] [Vz] [s])
def namedM (p : PG) (n : Int) : Bool := (textM p n).2 && nameM (textM p n).1
def recordM (v : V) : Bool := v.l.all (fun x => x.k == 3) && (v.k == 4 && decide (v.l.length ≤ 8) && mayV (.mk 5 0 [] (List.replicate v.l.length Vz) (v.l.map V.s)))
/-- The first of a row, or -1. -/
def idxL {α : Type} (P : α → Bool) : List α → Int
  | [] => -1
  | f :: r => if P f = true then 0 else if idxL P r = -1 then -1 else idxL P r + 1
def findM (p : PG) (s : List UInt8) : Int := idxL (fun f => f.name == s) p.funcs
def inB (n : Int) (m : Nat) : Bool := decide (0 ≤ n) && decide (n < m)
def askM (p : PG) (x : IN) : Bool :=
  if x.a = 1 ∨ x.a = 3 then namedM p x.b
  else if x.a = 4 then (textM p x.b).2 && decide (0 ≤ findM p (textM p x.b).1) && (match p.funcs[(findM p (textM p x.b).1).toNat]? with | some f => f.args == 1 | none => false)
  else if x.a = 2 ∨ x.a = 5 ∨ x.a = 6 ∨ x.a = 7 ∨ x.a = 8 then x.b == 0
  else false
def operandM (p : PG) (f : FD) (x : IN) : Bool :=
  if x.op = 1 then inB x.a p.consts.length
  else if x.op = 2 ∨ x.op = 3 then decide (0 ≤ x.a) && decide (x.a < f.locals)
  else if x.op = 20 then decide (0 ≤ x.a) && decide (x.a ≤ 8)
  else if x.op = 21 then inB x.a p.consts.length && (match p.consts[x.a.toNat]? with | some v => recordM v | none => false)
  else if x.op = 22 then namedM p x.a
  else if x.op = 23 then (textM p x.a).2 && fitsT (textM p x.a).1
  else if x.op = 24 ∨ x.op = 25 ∨ x.op = 26 then inB x.a f.code.length
  else if x.op = 29 then inB x.a p.funcs.length
  else if x.op = 31 then askM p x
  else x.a == 0
def insM (p : PG) (f : FD) (x : IN) : Bool := decide (1 ≤ x.op) && decide (x.op ≤ 31) && (x.b == 0 || x.op == 31) && operandM p f x
def headM (p : PG) (f : FD) : Bool := (p.funcs.countP fun g => g.name == f.name) == 1 && nameM f.name && decide (0 ≤ f.args) && decide (f.args ≤ 8) && decide (f.args ≤ f.locals) && decide (f.locals ≤ 32) && decide (0 < f.code.length)
/-- What Check answers. -/
def chkM (p : PG) : Int :=
  if 16 < p.funcs.length ∨ 256 < p.consts.length ∨ (p.funcs.any fun f => decide (512 < f.code.length)) = true then 5
  else if p.funcs = [] ∨ (p.consts.any fun v => !mayV v) = true ∨ (p.funcs.any fun f => !headM p f) = true then 2
  else if (p.funcs.any fun f => f.code.any fun x => !insM p f x) = true then 150
  else 0
end Go.Vc
