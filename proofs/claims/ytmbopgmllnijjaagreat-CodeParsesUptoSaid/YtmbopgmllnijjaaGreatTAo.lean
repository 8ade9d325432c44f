/- What is proved here: contracts of functions of the program: of each function what it hands back and what it leaves in memory. Conditions: those that each theorem names. -/
import Derived.Test.YtmbopgmllnijjaaGreatRows
import Derived.Deep.Slices
import Derived.Lib.Bytealg
import Derived.Test.YtmbopgmllnijjaaGreatTAm
import Derived.Test.YtmbopgmllnijjaaGreatTAn
set_option linter.unusedVariables false
set_option linter.unusedSimpArgs false
set_option linter.unusedSectionVars false
namespace Go.Vc
open Go Go.Proofs
set_option maxRecDepth 100000
def INP (x : IN) : PV := .agg [.int .i64 x.op, .int .i64 x.a, .int .i64 x.b]
def FP (f : FD) (p : PV) : Prop := ∃ z t o, p = .agg [.str f.name, .int .i64 f.args, .int .i64 f.locals, .sl z (f.code.map INP) t o] ∧ (z = 3 ∨ f.code = [])
def FPs : List FD → List PV → Prop
 | [], l => l = []
 | f :: r, l => ∃ p q, l = p :: q ∧ FP f p ∧ FPs r q
theorem FPs_len : ∀ {l : List FD} {lp : List PV}, FPs l lp → lp.length = l.length
 | [], lp, h => by simp only [FPs] at h; subst h; rfl
 | v :: r, lp, h => by
  simp only [FPs] at h
  obtain ⟨p, q, rfl, _, h2⟩ := h
  simp [FPs_len h2]
theorem FPs_nth : ∀ {l : List FD} {lp : List PV}, FPs l lp → ∀ {i : Nat} (hi : i < l.length), FP l[i] (nth lp i)
 | v :: r, lp, h, 0, hi => by
  simp only [FPs] at h
  obtain ⟨p, q, rfl, h1, _⟩ := h
  exact h1
 | v :: r, lp, h, i + 1, hi => by
  simp only [FPs] at h
  obtain ⟨p, q, rfl, _, h2⟩ := h
  exact FPs_nth h2 (i := i) (by simpa using hi)
structure FB (f : FD) : Prop where
 name : f.name.length ≤ 1000000000
 args : i64 f.args
 locals : i64 f.locals
 code : f.code.length ≤ 1000000000
 ins : ∀ x ∈ f.code, i64 x.op ∧ i64 x.a ∧ i64 x.b
structure PGA (p : PG) (zf : Nat) (lf : List PV) (zc : Nat) (lc : List PV) : Prop where
 fs : FPs p.funcs lf
 cs : VPs p.consts lc
 zf : zf = 4 ∨ p.funcs = []
 zc : zc = 5 ∨ p.consts = []
 nf : p.funcs.length ≤ 1000000000
 nc : p.consts.length ≤ 1000000000
 fb : ∀ f ∈ p.funcs, FB f
 cb : ∀ v ∈ p.consts, i64 v.n ∧ bulkV v ≤ 1000000000
abbrev pgc (zf : Nat) (lf : List PV) (tf : Bool) (zc : Nat) (lc : List PV) (tc : Bool) : List PV := [.sl zf lf tf true, .sl zc lc tc true]
abbrev fdc (f : FD) (z : Nat) (t : Bool) : List PV := [.str f.name, .int .i64 f.args, .int .i64 f.locals, .sl z (f.code.map INP) t true]
theorem code_nth {c : List IN} {i : Nat} (h : i < c.length) : nth (c.map INP) i = INP c[i] := by
 unfold nth
 rw [List.getD_eq_getElem?_getD, List.getElem?_map, List.getElem?_eq_getElem h]; rfl
theorem FP.read {f : FD} {p : PV} (h : FP f p) : ∃ z t, .agg (p.cells.map (PV.retag true)) = PV.agg (fdc f z t) ∧ (z = 3 ∨ f.code = []) := by
 obtain ⟨z, t, o, rfl, hz⟩ := h
 exact ⟨z, t, rfl, hz⟩
end Go.Vc
namespace Go.Vc
open Go Go.Proofs Go.Deep Go.ChangeShapes
set_option maxRecDepth 100000
open Go.Proofs.YtmbopgmllnijjaaGreat (Rows.uptoBulk Rows.uptoBulkAll)
abbrev Zall (W : World) : Nat → Prop := fun b => b < W.heap.size
theorem cell_lt {W : World} {a : Addr} {v : Value} (h : W.cell? a = some v) : a.block < W.heap.size := by
 rcases Nat.lt_or_ge a.block W.heap.size with h1 | h1
 ·exact h1
 ·rw [World.cell?, Array.getElem?_eq_none h1] at h
  simp at h
theorem add0 (a : Addr) : a.add 0 = a := by unfold Addr.add; simp
theorem cells_at {W : World} {a : Addr} {n : Nat} {cs : List Value} (h : W.cells? 0 a n = some cs) :
  cs.length = n ∧ (0 < n → a.spot = none ∧ a.block < W.heap.size ∧ ∀ i, i < n → W.cell? ⟨a.block, a.off + i, none⟩ = cs[i]?) := by
 obtain ⟨_, hl, hc⟩ := World.cells?_some h
 refine ⟨hl, fun hn => ?_⟩
 have h0 := hc 0 hn
 rw [List.getElem?_eq_getElem (by omega), add0] at h0
 have hs := World.cell?_spot h0
 refine ⟨hs, cell_lt h0, fun i hi => ?_⟩
 have := hc i hi
 obtain ⟨b, o, s⟩ := a
 simp only at hs
 subst hs
 rwa [Go.WideShapes.add_plain] at this
theorem row_at {W : World} {a : Addr} {len c : Nat} {cs : Nat → List Value} (hc : 0 < c) (h : ∀ i, i < len → W.cells? 0 (a.add (i * c)) c = some (cs i)) :
  ∀ i, i < len → a.spot = none ∧ a.block < W.heap.size ∧ (cs i).length = c ∧ ∀ k, k < c → W.cell? ⟨a.block, a.off + (i * c + k), none⟩ = (cs i)[k]? := by
 intro i hi
 have h0 := cells_at (h 0 (by omega))
 rw [Nat.zero_mul, add0] at h0
 obtain ⟨hs, hb, _⟩ := h0.2 hc
 have hi' := cells_at (h i hi)
 obtain ⟨b, o, s⟩ := a
 simp only at hs
 subst hs
 rw [Go.WideShapes.add_plain] at hi'
 refine ⟨rfl, hb, hi'.1, fun k hk => ?_⟩
 rw [← (hi'.2 hc).2.2 k hk, Nat.add_assoc]
variable {H : Type} {enc : TypeId × Value → H} {W : World} {sp : Nat → Bool} {hd : Bool}
theorem open_sl {t e : TypeId} {fuel : Nat} {cs : List Value} {x : DataW H × List MemPlace} (ht : Tryz.prog.underlying t = some (.slice e)) (h : DataW.trod enc Tryz.prog W 0 sp hd fuel t cs = some x) :
  (cs = [.slice none 0 0] ∧ x = (.nil, [])) ∨
  ∃ (a : Addr) (len cap n : Nat) (D : Nat → DataW H) (R : List (DataW H)), n < fuel ∧ cs = [.slice (some a) len cap] ∧ len ≤ cap ∧ x.1 = .slice ((List.range len).map D) R ∧
   ∀ i, i < len → ∃ cs' pl, W.cells? 0 (a.add (i * Tryz.prog.cellsOf e)) (Tryz.prog.cellsOf e) = some cs' ∧ DataW.trod enc Tryz.prog W 0 sp hd n e cs' = some (D i, pl) := by
 rcases DataW.trod_slice ht h with h0 | ⟨a, len, cap, elems, rest, n, rfl, rfl, rfl, hb, hl, hm, hlen, hel, _, _⟩
 ·exact .inl h0
 ·refine .inr ⟨a, len, cap, n, fun i => (elems.getD i (.nil, [])).1, rest.map (·.1), by omega, rfl, hl, ?_, fun i hi => ?_⟩
  ·show DataW.slice (elems.map (·.1)) _ = _
   rw [map_by_index elems (.nil, []) (·.1), hlen]
  ·have key := hel i hi
   rw [List.getElem?_eq_getElem (by omega)] at key
   obtain ⟨cs', h1, h2⟩ := Option.bind_eq_some_iff.1 key
   refine ⟨cs', elems[i].2, h1, ?_⟩
   rw [h2]
   simp [List.getD, List.getElem?_eq_getElem (show i < elems.length by omega)]
theorem VP_mk {v : V} {lp : List PV} (h : VPs v.l lp) (hn : i64 v.n) : VP v (.agg (vc v 5 lp false 1 false)) := by
 cases v
 exact ⟨5, lp, false, true, 1, false, true, rfl, h, .inl rfl, .inl rfl, hn⟩
structure VR (W : World) (v : V) (lp : List PV) (cs : List Value) : Prop where
 l : VPs v.l lp
 n : i64 v.n
 len : cs.length = 5
 rep : ∀ (i : Nat) u c, (vc v 5 lp false 1 false)[i]? = some u → cs[i]? = some c → Rep0 W (Zall W) u c
end Go.Vc
namespace Go.Vc
open Go Go.Proofs
set_option maxRecDepth 100000
theorem ixb_spec (s : List UInt8) (c : UInt8) (Post : PV → List (Nat × Blk) → Prop) (h : Post (.int .i64 (Lib.indexByte s c)) []) : Spec K 151 [.str s, .int .u8 c.toNat] [] Post := by
 refine ⟨fun w Z φ vs hbef o a next Q hn => ?_⟩
 obtain ⟨h1, h2, h3, h4, h5⟩ := hbef
 match vs, h1 with
 | [x0, x1], _ =>
  have e0 := h2 0 _ _ rfl rfl
  have e1 := (h2 1 _ _ rfl rfl).int_inv
  obtain ⟨u, rfl, hu⟩ := e0.str_inv
  subst e1
  rw [run_callFunc_extern (P := K.P) Tryz.func151 (by kernel_rfl) (by kernel_rfl) (by kernel_rfl) (e := Extern.BytealgIndexByte.indexByte) (by kernel_rfl)]
  rw [Lib.run_indexByteString, hu]
  have hc : (c.toNat : Int).toNat.toUInt8 = c := by
   rw [Int.toNat_natCast]
   exact UInt8.ofNat_toNat
  rw [hc]
  exact hn _ _ ⟨_, _, φ, Z, h, .int _ _, h3, fun i hi => (by cases hi), h4, fun b hb => .inl hb, fun b hb => hb, ⟨rfl, rfl, rfl, Nat.le_refl _, fun _ _ _ => rfl, fun b cs T hb => ⟨cs, hb, rfl⟩⟩⟩
theorem ixb2_spec (s : List UInt8) (c : UInt8) (Post : PV → List (Nat × Blk) → Prop) (h : Post (.int .i64 (Lib.indexByte s c)) []) : Spec K 147 [.str s, .int .u8 c.toNat] [] Post := by
 refine is147.specW K_ok K_mix false (by simp) (by simp [keys]) ?_
 (conv => whnf); repeat ((first | (apply And.intro;· exact Cl4) | apply T1 | apply T2 | apply T3 | apply T4 | apply T6 | apply T5); conv => whnf)
 refine ixb_spec s c _ ?_
 (conv => whnf); repeat ((first | (apply And.intro;· exact Cl4) | apply T1 | apply T2 | apply T3 | apply T4 | apply T6 | apply T5); conv => whnf)
 exact h
def colon (s : List UInt8) : Int := Lib.indexByte s 58
theorem index_spec (s : List UInt8) (Post : PV → List (Nat × Blk) → Prop) (h : Post (.int .i64 (colon s)) []) : Spec K 146 [.str s, .str [58]] [] Post := by
 refine is146.specW K_ok K_mix false (by simp) (by simp [keys]) ?_
 (conv => whnf); repeat ((first | (apply And.intro;· exact Cl4) | apply T1 | apply T2 | apply T3 | apply T4 | apply T6 | apply T5); conv => whnf)
 refine Both.mk (fun hc => ?_) (fun hc => ?_)
 ·have hs : s = [58] := by have := hc; simp at this; exact this.symm
  subst hs
  (conv => whnf); repeat ((first | (apply And.intro;· exact Cl4) | apply T1 | apply T2 | apply T3 | apply T4 | apply T6 | apply T5); conv => whnf)
  exact h
 ·(conv => whnf); repeat ((first | (apply And.intro;· exact Cl4) | apply T1 | apply T2 | apply T3 | apply T4 | apply T6 | apply T5); conv => whnf)
  refine ixb2_spec s 58 _ ?_
  (conv => whnf); repeat ((first | (apply And.intro;· exact Cl4) | apply T1 | apply T2 | apply T3 | apply T4 | apply T6 | apply T5); conv => whnf)
  exact h
theorem colon_le (s : List UInt8) : colon s < s.length := by
 unfold colon
 induction s with
 | nil => decide
 | cons b l ih =>
  unfold Lib.indexByte
  split
  ·simp
  ·split
   ·simp only [List.length_cons]; omega
   ·simp only [List.length_cons]; omega
def cutM (s : List UInt8) : List UInt8 × List UInt8 × Bool := if 0 ≤ colon s then (s.take (colon s).toNat, s.drop ((colon s).toNat + 1), true) else (s, [], false)
theorem cutI_spec (s : List UInt8) (hs : s.length ≤ 1000000000) (Post : PV → List (Nat × Blk) → Prop) (h : Post (.tup [.str (cutM s).1, .str (cutM s).2.1, .bool (cutM s).2.2]) []) : Spec K 145 [.str s, .str [58]] [] Post := by
 refine is145.specW K_ok K_mix false (by simp) (by simp [keys]) ?_
 have hl := colon_le s
 (conv => whnf); repeat ((first | (apply And.intro;· exact Cl4) | apply T1 | apply T2 | apply T3 | apply T4 | apply T6 | apply T5); conv => whnf)
 refine index_spec s _ ?_
 unfold cutM at h
 by_cases h0 : 0 ≤ colon s
 ·rw [if_pos h0] at h
  (conv => whnf); repeat ((first | (apply And.intro;· exact Cl4) | apply T1 | apply T2 | apply T3 | apply T4 | apply T6 | apply T5); conv => whnf)
  rw [decide_eq_true h0]
  (conv => whnf); repeat ((first | (apply And.intro;· exact Cl4) | apply T1 | apply T2 | apply T3 | apply T4 | apply T6 | apply T5); conv => whnf)
  have hw : IntKind.i64.wrap (colon s + (([58] : List UInt8).length : Int)) = colon s + 1 := wrap64 (by omega) (by simp; omega)
  (conv => whnf); repeat' (first | ((first | (apply And.intro;· exact Cl4) | apply T1 | apply T2 | apply T3 | apply T4 | apply T6 | apply T5); conv => whnf) | (fail; conv => whnf) | ((refine Both.mk ?_ ?_ <;> fail_if_success (intro _)) <;> conv => whnf))
  rw [hw, List.drop_zero, List.take_length, show (colon s + 1).toNat = (colon s).toNat + 1 by omega]
  exact h
 ·rw [if_neg h0] at h
  (conv => whnf); repeat ((first | (apply And.intro;· exact Cl4) | apply T1 | apply T2 | apply T3 | apply T4 | apply T6 | apply T5); conv => whnf)
  rw [decide_eq_false h0]
  (conv => whnf); repeat ((first | (apply And.intro;· exact Cl4) | apply T1 | apply T2 | apply T3 | apply T4 | apply T6 | apply T5); conv => whnf)
  exact h
theorem cut_spec (s : List UInt8) (hs : s.length ≤ 1000000000) (Post : PV → List (Nat × Blk) → Prop) (h : Post (.tup [.str (cutM s).1, .str (cutM s).2.1, .bool (cutM s).2.2]) []) : Spec K 144 [.str s, .str [58]] [] Post := by
 refine is144.specW K_ok K_mix false (by simp) (by simp [keys]) ?_
 (conv => whnf); repeat ((first | (apply And.intro;· exact Cl4) | apply T1 | apply T2 | apply T3 | apply T4 | apply T6 | apply T5); conv => whnf)
 refine cutI_spec s hs _ ?_
 (conv => whnf); repeat ((first | (apply And.intro;· exact Cl4) | apply T1 | apply T2 | apply T3 | apply T4 | apply T6 | apply T5); conv => whnf)
 exact h
theorem pref_eq (q s : List UInt8) : (bif decide ((q.length : Int) ≤ s.length) then List.drop 0 (List.take ((q.length : Int)).toNat s) == q else false) = q.isPrefixOf s := by
 rw [List.drop_zero, Int.toNat_natCast, Bool.eq_iff_iff, List.isPrefixOf_iff_prefix, List.prefix_iff_eq_take]
 by_cases h : q.length ≤ s.length
 ·rw [decide_eq_true (show (q.length : Int) ≤ s.length by omega)]
  simp only [cond_true, beq_iff_eq]
  exact ⟨fun h => h.symm, fun h => h.symm⟩
 ·rw [decide_eq_false (show ¬ (q.length : Int) ≤ s.length by omega)]
  simp only [cond_false, Bool.false_eq_true, false_iff]
  intro he
  have := congrArg List.length he
  rw [List.length_take] at this
  omega
theorem prefI_spec (s q : List UInt8) (hs : s.length ≤ 1000000000) (hq : q.length ≤ 1000000000) (Post : PV → List (Nat × Blk) → Prop) (h : Post (.bool (q.isPrefixOf s)) []) : Spec K 142 [.str s, .str q] [] Post := by
 refine is142.specW K_ok K_mix false (by simp) (by simp [keys]) ?_
 (conv => whnf); repeat ((first | (apply And.intro;· exact Cl4) | apply T1 | apply T2 | apply T3 | apply T4 | apply T6 | apply T5); conv => whnf)
 rw [pref_eq]
 exact h
theorem pref_spec (s q : List UInt8) (hs : s.length ≤ 1000000000) (hq : q.length ≤ 1000000000) (Post : PV → List (Nat × Blk) → Prop) (h : Post (.bool (q.isPrefixOf s)) []) : Spec K 138 [.str s, .str q] [] Post := by
 refine is138.specW K_ok K_mix false (by simp) (by simp [keys]) ?_
 (conv => whnf); repeat ((first | (apply And.intro;· exact Cl4) | apply T1 | apply T2 | apply T3 | apply T4 | apply T6 | apply T5); conv => whnf)
 refine prefI_spec s q hs hq _ ?_
 (conv => whnf); repeat ((first | (apply And.intro;· exact Cl4) | apply T1 | apply T2 | apply T3 | apply T4 | apply T6 | apply T5); conv => whnf)
 exact h
def cutPre (q s : List UInt8) : List UInt8 × Bool := if q.isPrefixOf s then (s.drop q.length, true) else (s, false)
theorem cutPreI_spec (s q : List UInt8) (hs : s.length ≤ 1000000000) (hq : q.length ≤ 1000000000) (Post : PV → List (Nat × Blk) → Prop) (h : Post (.tup [.str (cutPre q s).1, .bool (cutPre q s).2]) []) : Spec K 143 [.str s, .str q] [] Post := by
 refine is143.specW K_ok K_mix false (by simp) (by simp [keys]) ?_
 (conv => whnf); repeat ((first | (apply And.intro;· exact Cl4) | apply T1 | apply T2 | apply T3 | apply T4 | apply T6 | apply T5); conv => whnf)
 refine prefI_spec s q hs hq _ ?_
 unfold cutPre at h
 cases hp : q.isPrefixOf s
 ·rw [hp] at h
  (conv => whnf); repeat ((first | (apply And.intro;· exact Cl4) | apply T1 | apply T2 | apply T3 | apply T4 | apply T6 | apply T5); conv => whnf)
  exact h
 ·rw [hp] at h
  have hl : q.length ≤ s.length := (List.isPrefixOf_iff_prefix.1 hp).length_le
  (conv => whnf); repeat ((first | (apply And.intro;· exact Cl4) | apply T1 | apply T2 | apply T3 | apply T4 | apply T6 | apply T5); conv => whnf)
  rw [List.take_length, Int.toNat_natCast]
  exact h
theorem cutPre_spec (s q : List UInt8) (hs : s.length ≤ 1000000000) (hq : q.length ≤ 1000000000) (Post : PV → List (Nat × Blk) → Prop) (h : Post (.tup [.str (cutPre q s).1, .bool (cutPre q s).2]) []) : Spec K 139 [.str s, .str q] [] Post := by
 refine is139.specW K_ok K_mix false (by simp) (by simp [keys]) ?_
 (conv => whnf); repeat ((first | (apply And.intro;· exact Cl4) | apply T1 | apply T2 | apply T3 | apply T4 | apply T6 | apply T5); conv => whnf)
 refine cutPreI_spec s q hs hq _ ?_
 (conv => whnf); repeat ((first | (apply And.intro;· exact Cl4) | apply T1 | apply T2 | apply T3 | apply T4 | apply T6 | apply T5); conv => whnf)
 exact h
def kindM (w : List UInt8) : Int :=
 if w = [110, 111, 110, 101] then 0 else if w = [105, 110, 116] then 1 else if w = [98, 111, 111, 108] then 2 else if w = [116, 101, 120, 116] then 3 else if w = [102, 117, 116, 117, 114, 101] then 6 else -1
theorem kind_spec (w : List UInt8) (Post : PV → List (Nat × Blk) → Prop) (h : Post (.int .i64 (kindM w)) []) : Spec K 141 [.str w] [] Post := by
 have key : ∀ u : Int, u = kindM w → Post (.int .i64 u) [] := fun u e => by rw [e]; exact h
 clear h
 refine is141.specW K_ok K_mix false (by simp) (by simp [keys]) ?_
 (conv => whnf); repeat' (first | ((first | (apply And.intro;· exact Cl4) | apply T1 | apply T2 | apply T3 | apply T4 | apply T6 | apply T5 | refine Both.T (by assumption) ?_ | refine Both.F (by assumption) ?_); conv => whnf) | (refine Both.mk (fun hb => ?_) (fun hb => ?_) <;> conv => whnf))
 all_goals (refine key _ ?_; unfold kindM; simp_all)
end Go.Vc
