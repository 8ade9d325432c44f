/- What is proved here: contracts of functions of the program: of each function what it hands back and what it leaves in memory. Conditions: those that each theorem names. -/
import Derived.Test.YtmbopgmllnijjaaGreatTAu
import Derived.Test.YtmbopgmllnijjaaGreatTBb
import Derived.Test.YtmbopgmllnijjaaGreatTAq
set_option linter.unusedVariables false
set_option linter.unusedSimpArgs false
set_option linter.unusedSectionVars false
namespace Go.Vc
open Go Go.Proofs
set_option maxRecDepth 100000
theorem nthC {p : PG} {zf zc : Nat} {lf lc : List PV} (hp : PGA p zf lf zc lc) (j : Nat) : (∃ v z1 lp t1 o1 z2 t2 o2, p.consts[j]? = some v ∧ nth lc j = .agg [.int .i64 v.k, .int .i64 v.n, .str v.s, .sl z1 lp t1 o1, .sl z2 (strs v.ns) t2 o2]) ∨ (p.consts[j]? = none ∧ nth lc j = .undef) := by
 by_cases hj : j < p.consts.length
 ·obtain ⟨y1, mp, u1, o1, y2, u2, o2, hq, _⟩ := (VPs_nth hp.cs hj).out
  exact .inl ⟨_, y1, mp, u1, o1, y2, u2, o2, List.getElem?_eq_getElem hj, hq⟩
 ·have := VPs_len hp.cs
  refine .inr ⟨List.getElem?_eq_none (by omega), ?_⟩
  unfold nth; rw [List.getD_eq_getElem?_getD, List.getElem?_eq_none (by omega)]; rfl
theorem nthF {p : PG} {zf zc : Nat} {lf lc : List PV} (hp : PGA p zf lf zc lc) (j : Nat) : (∃ f y u o, p.funcs[j]? = some f ∧ nth lf j = .agg [.str f.name, .int .i64 f.args, .int .i64 f.locals, .sl y (f.code.map INP) u o]) ∨ (p.funcs[j]? = none ∧ nth lf j = .undef) := by
 by_cases hj : j < p.funcs.length
 ·obtain ⟨y, u, o, hq, _⟩ := FPs_nth hp.fs hj
  exact .inl ⟨_, y, u, o, List.getElem?_eq_getElem hj, hq⟩
 ·have := FPs_len hp.fs
  refine .inr ⟨List.getElem?_eq_none (by omega), ?_⟩
  unfold nth; rw [List.getD_eq_getElem?_getD, List.getElem?_eq_none (by omega)]; rfl
def textR (p : PG) (n : Int) : List UInt8 × Bool := if (textM p n).2 = true then ((textM p n).1, true) else ([], false)
set_option maxHeartbeats 4000000 in
theorem textR_spec (p : PG) (n : Int) (zf : Nat) (lf : List PV) (tf : Bool) (zc : Nat) (lc : List PV) (tc : Bool) (hp : PGA p zf lf zc lc) (Post : PV → List (Nat × Blk) → Prop)
  (h : Post (.tup [.str (textR p n).1, .bool (textR p n).2]) []) : Spec K 105 [.agg (pgc zf lf tf zc lc tc), .int .i64 n] [] Post := by
 refine is105.specW K_ok K_mix false (by simp) (by simp [keys]) ?_
 have hc := VPs_len hp.cs
 have hz := zlc hp
 unfold textR textM at h
 (conv => whnf); repeat ((first | (apply And.intro;· exact Cl4) | apply T1 | apply T2 | apply T3 | apply T4 | apply T6 | apply T5); conv => whnf)
 rw [hc]
 by_cases h0 : 0 ≤ n
 ·rw [if_pos h0] at h
  rw [decide_eq_false (show ¬ n < 0 by omega)]
  (conv => whnf); repeat ((first | (apply And.intro;· exact Cl4) | apply T1 | apply T2 | apply T3 | apply T4 | apply T6 | apply T5); conv => whnf)
  by_cases h1 : n < p.consts.length
  ·have hlt : n.toNat < p.consts.length := by omega
   simp only [List.getElem?_eq_getElem hlt] at h
   obtain ⟨y1, mp, u1, o1, y2, u2, o2, hq, hv, g1, g2, g3⟩ := (VPs_nth hp.cs hlt).out
   rw [decide_eq_false (show ¬ (p.consts.length : Int) ≤ n by omega)]
   (conv => whnf); repeat ((first | (apply And.intro;· exact Cl4) | apply T1 | apply T2 | apply T3 | apply T4 | apply T6 | apply T5); conv => whnf)
   rw [hq]
   (conv => whnf); repeat ((first | (apply And.intro;· exact Cl4) | apply T1 | apply T2 | apply T3 | apply T4 | apply T6 | apply T5); conv => whnf)
   by_cases hk : p.consts[n.toNat].k = 3
   ·have h' : Post (.tup [.str p.consts[n.toNat].s, .bool true]) [] := by simpa [hk] using h
    rw [hk]
    (conv => whnf); repeat ((first | (apply And.intro;· exact Cl4) | apply T1 | apply T2 | apply T3 | apply T4 | apply T6 | apply T5); conv => whnf)
    rw [hq]
    (conv => whnf); repeat ((first | (apply And.intro;· exact Cl4) | apply T1 | apply T2 | apply T3 | apply T4 | apply T6 | apply T5); conv => whnf)
    exact h'
   ·have hk2 : (p.consts[n.toNat].k != 3) = true := by simpa using hk
    have hk3 : (p.consts[n.toNat].k == 3) = false := by simpa using hk
    rw [hk2]
    have h' : Post (.tup [.str [], .bool false]) [] := by simpa [hk3] using h
    (conv => whnf); repeat ((first | (apply And.intro;· exact Cl4) | apply T1 | apply T2 | apply T3 | apply T4 | apply T6 | apply T5); conv => whnf)
    exact h'
  ·rw [List.getElem?_eq_none (by omega)] at h
   rw [decide_eq_true (show (p.consts.length : Int) ≤ n by omega)]
   rcases nthC hp n.toNat with ⟨v, y1, mp, u1, o1, y2, u2, o2, _, hq⟩ | ⟨_, hq⟩
   all_goals (
    (conv => whnf); repeat ((first | (apply And.intro;· exact Cl4) | apply T1 | apply T2 | apply T3 | apply T4 | apply T6 | apply T5); conv => whnf)
    rw [hq]
    (conv => whnf); repeat ((first | (apply And.intro;· exact Cl4) | apply T1 | apply T2 | apply T3 | apply T4 | apply T6 | apply T5); conv => whnf)
    exact h)
 ·rw [if_neg h0] at h
  rw [decide_eq_true (show n < 0 by omega)]
  rcases nthC hp n.toNat with ⟨v, y1, mp, u1, o1, y2, u2, o2, _, hq⟩ | ⟨_, hq⟩
  all_goals (
   (conv => whnf); repeat ((first | (apply And.intro;· exact Cl4) | apply T1 | apply T2 | apply T3 | apply T4 | apply T6 | apply T5); conv => whnf)
   rw [hq]
   (conv => whnf); repeat ((first | (apply And.intro;· exact Cl4) | apply T1 | apply T2 | apply T3 | apply T4 | apply T6 | apply T5); conv => whnf)
   exact h)
set_option maxHeartbeats 4000000 in
theorem names13_spec (ns : List (List UInt8)) (z : Nat) (t : Bool) (hz : z = 1 ∨ ns = []) (hl : ns.length ≤ 1000000000000) (Post : PV → List (Nat × Blk) → Prop) (h : Post (.bool (rise [] ns && decide (ns.length ≤ 8))) []) : Spec K 123 [.sl z (strs ns) t true] [] Post := by
 refine is123.specW K_ok K_mix false (by simp) (by simp [keys]) ?_
 have hz2 : z = 1 ∨ strs ns = [] := hz.imp (fun h => h) fun h => by rw [h]; rfl
 (conv => whnf); repeat ((apply And.intro;· exact Cl2); conv => whnf)
 refine ⟨Nat, fun i => ⟨35, [(3, .int .i64 i), (2, .bool false), (0, .sl z (strs ns) t true)], [], []⟩, fun i => i ≤ ns.length ∧ rise [] ns = (if i = 0 then rise [] ns else rise (ns.getD (i - 1) []) (ns.drop i)), fun i => ns.length - i,
  ⟨[], 0, ⟨Nat.zero_le _, rfl⟩, ?_⟩, fun i hI => ?_⟩
 ·simp [meets, ghosts, St.le, St.get, look, keys, PV.labs, labsL]
 ·obtain ⟨hi, hin⟩ := hI
  conv => (arg 5; dsimp only)
  (conv => whnf); repeat ((apply And.intro;· exact Cl2); conv => whnf)
  rw [strs_len]
  refine ⟨fun h1 => ?_, fun h1 => ?_⟩
  ·have hix : i < ns.length := by have := of_decide_eq_true h1; omega
   have hdr : ns.drop i = ns[i] :: ns.drop (i + 1) := List.drop_eq_getElem_cons hix
   have hg : ns.getD (i + 1 - 1) [] = ns[i] := by rw [List.getD_eq_getElem?_getD, Nat.add_sub_cancel, List.getElem?_eq_getElem hix]; rfl
   (conv => whnf); repeat ((apply And.intro;· exact Cl2); conv => whnf)
   refine ⟨fun _ => ⟨by omega, by rw [strs_len]; omega⟩, ?_⟩
   (conv => whnf); repeat ((apply And.intro;· exact Cl2); conv => whnf)
   rw [Int.toNat_natCast, nth_strs hix]
   (conv => whnf); repeat ((apply And.intro;· exact Cl2); conv => whnf)
   refine nameV_spec ns[i] _ ?_
   rcases i with _ | j
   ·have hr := rise_head ns[0] (ns.drop 1)
    rw [← hdr, List.drop_zero] at hr
    have e0 : (IntKind.i64.wrap (((0 : Nat) : Int) - 1)).toNat = 0 := rfl
    cases hnm : isName ns[0] with
    | true =>
     (conv => whnf); repeat ((apply And.intro;· exact Cl2); conv => whnf)
     rw [e0, Int.toNat_natCast, nth_strs hix]
     refine ⟨?_, ?_⟩ <;> (
      (conv => whnf); repeat ((apply And.intro;· exact Cl2); conv => whnf)
      refine ⟨fun h2 => (by cases h2), fun _ => ?_⟩
      (conv => whnf); repeat ((apply And.intro;· exact Cl2); conv => whnf)
      refine ⟨[], 1, ⟨hix, ?_⟩, by show ns.length - 1 < ns.length - 0; omega, ?_⟩
      ·rw [hr, hnm, if_neg (by omega), hg]; rfl
      ·simp [meets, ghosts, St.le, St.get, look, keys, PV.labs, labsL]
       rfl)
    | false =>
     (conv => whnf); repeat ((apply And.intro;· exact Cl2); conv => whnf)
     rw [e0, Int.toNat_natCast, nth_strs hix]
     rw [hr, hnm] at h
     refine ⟨?_, ?_⟩ <;> (
      (conv => whnf); repeat ((apply And.intro;· exact Cl2); conv => whnf)
      refine ⟨fun _ => ?_, fun h2 => (by cases h2)⟩
      (conv => whnf); repeat ((apply And.intro;· exact Cl2); conv => whnf)
      exact h)
   ·have e0 : (IntKind.i64.wrap (((j + 1 : Nat) : Int) - 1)).toNat = j := by rw [wrap64 (by omega) (by omega)]; omega
    have hj : j < ns.length := by omega
    have hg' : ns.getD (j + 1 - 1) [] = ns[j] := by rw [List.getD_eq_getElem?_getD, Nat.add_sub_cancel, List.getElem?_eq_getElem hj]; rfl
    rw [if_neg (by omega), hg', hdr, rise] at hin
    cases hnm : isName ns[j + 1] with
    | true =>
     (conv => whnf); repeat ((apply And.intro;· exact Cl2); conv => whnf)
     refine ⟨fun _ => ⟨by omega, by rw [strs_len]; omega⟩, ?_⟩
     (conv => whnf); repeat ((apply And.intro;· exact Cl2); conv => whnf)
     refine ⟨fun _ => ⟨by rw [wrap64 (by omega) (by omega)]; omega, by rw [strs_len, wrap64 (by omega) (by omega)]; omega⟩, ?_⟩
     (conv => whnf); repeat ((apply And.intro;· exact Cl2); conv => whnf)
     rw [e0, Int.toNat_natCast, nth_strs hix, nth_strs hj]
     rw [show decide (0 < ((j + 1 : Nat) : Int)) = true from decide_eq_true (by omega)]
     refine ⟨?_, ?_⟩ <;> (
      (conv => whnf); repeat ((apply And.intro;· exact Cl2); conv => whnf)
      refine ⟨fun h2 => ?_, fun h2 => ?_⟩
      ·have h2' : (Op.bytesLess ns[j + 1] ns[j] || ns[j + 1] == ns[j]) = true := h2
       (conv => whnf); repeat ((apply And.intro;· exact Cl2); conv => whnf)
       rw [hin, h2'] at h
       exact h
      ·have h2' : (Op.bytesLess ns[j + 1] ns[j] || ns[j + 1] == ns[j]) = false := h2
       (conv => whnf); repeat ((apply And.intro;· exact Cl2); conv => whnf)
       rw [wrap64 (by omega) (by omega)]
       refine ⟨[], j + 1 + 1, ⟨hix, ?_⟩, by show ns.length - (j + 1 + 1) < ns.length - (j + 1); omega, ?_⟩
       ·rw [hin, h2', hnm, if_neg (by omega), hg]; rfl
       ·simp [meets, ghosts, St.le, St.get, look, keys, PV.labs, labsL])
    | false =>
     (conv => whnf); repeat ((apply And.intro;· exact Cl2); conv => whnf)
     rw [e0, Int.toNat_natCast, nth_strs hix, nth_strs hj]
     have hf : rise [] ns = false := by rw [hin, hnm]; simp
     rw [hf] at h
     refine ⟨?_, ?_⟩ <;> (
      (conv => whnf); repeat ((apply And.intro;· exact Cl2); conv => whnf)
      refine ⟨fun _ => ?_, fun h2 => (by cases h2)⟩
      (conv => whnf); repeat ((apply And.intro;· exact Cl2); conv => whnf)
      exact h)
  ·have hix : i = ns.length := by have := of_decide_eq_false h1; omega
   (conv => whnf); repeat ((apply And.intro;· exact Cl2); conv => whnf)
   have : rise [] ns = true := by
    cases ns with
    | nil => rfl
    | cons a r => rw [hin, if_neg (by rw [hix]; simp), hix, List.drop_length]; rfl
   rw [this, Bool.true_and] at h
   rw [strs_len, show decide ((ns.length : Int) ≤ 8) = decide (ns.length ≤ 8) from decide_eq_decide.2 (by omega)]
   exact h
set_option maxHeartbeats 4000000 in
theorem findR_spec (p : PG) (s : List UInt8) (zf : Nat) (lf : List PV) (tf : Bool) (zc : Nat) (lc : List PV) (tc : Bool) (hp : PGA p zf lf zc lc) (Post : PV → List (Nat × Blk) → Prop)
  (h : Post (.tup [.int .i64 (if 0 > findM p s then 0 else findM p s), .bool (decide (0 ≤ findM p s))]) []) : Spec K 42 [.agg (pgc zf lf tf zc lc tc), .str s] [] Post := by
 refine is42.specW K_ok K_mix false (by simp) (by simp [keys]) ?_
 have hf := FPs_len hp.fs
 have hz := zlf hp
 have hnf := hp.nf
 unfold findM at h
 (conv => whnf); repeat ((first | (apply And.intro;· exact Cl4) | apply T1 | apply T2 | apply T3 | apply T4 | apply T6 | apply T5); conv => whnf)
 refine ⟨Nat, fun i => ⟨23, [(6, .int .i64 i), (5, .bool false), (4, .int .i64 0), (2, .ptr 0 0), (1, .str s)], [(0, .box (pgc zf lf tf zc lc tc))], []⟩, fun i => i ≤ p.funcs.length ∧ idxL (fun f => f.name == s) p.funcs = sh i (idxL (fun f => f.name == s) (p.funcs.drop i)), fun i => p.funcs.length - i, ⟨[], 0, ⟨Nat.zero_le _, sh_zero.symm⟩, ?_⟩, fun i hI => ?_⟩
 ·simp [meets, ghosts, St.le, St.get, look, keys, PV.labs, labsL, lookB, Blk.labs]
 ·obtain ⟨hi, hin⟩ := hI
  conv => (arg 5; dsimp only)
  (conv => whnf); repeat ((first | (apply And.intro;· exact Cl4) | apply T1 | apply T2 | apply T3 | apply T4 | apply T6 | apply T5); conv => whnf)
  rw [hf]
  by_cases hix : i < p.funcs.length
  ·rw [decide_eq_true (show (i : Int) < (p.funcs.length : Int) by omega)]
   (conv => whnf); repeat ((first | (apply And.intro;· exact Cl4) | apply T1 | apply T2 | apply T3 | apply T4 | apply T6 | apply T5); conv => whnf)
   obtain ⟨y, u, o, hq, hy⟩ := FPs_nth hp.fs hix
   rw [Int.toNat_natCast, hq]
   (conv => whnf); repeat ((first | (apply And.intro;· exact Cl4) | apply T1 | apply T2 | apply T3 | apply T4 | apply T6 | apply T5); conv => whnf)
   cases hp : (fun f : FD => f.name == s) p.funcs[i]
   ·refine Both.F hp ?_
    (conv => whnf); repeat ((first | (apply And.intro;· exact Cl4) | apply T1 | apply T2 | apply T3 | apply T4 | apply T6 | apply T5); conv => whnf)
    rw [wrap64 (n := (i : Int) + 1) (by omega) (by omega)]
    refine ⟨[], i + 1, ⟨hix, by rw [hin]; exact sh_step hix hp⟩, by show p.funcs.length - (i + 1) < p.funcs.length - i; omega, ?_⟩
    simp [meets, ghosts, St.le, St.get, look, keys, PV.labs, labsL, lookB, Blk.labs]
   ·refine Both.T hp ?_
    (conv => whnf); repeat ((first | (apply And.intro;· exact Cl4) | apply T1 | apply T2 | apply T3 | apply T4 | apply T6 | apply T5); conv => whnf)
    rw [hin, sh_hit hix hp, if_neg (by omega), decide_eq_true (by omega)] at h
    exact h
  ·obtain rfl : i = p.funcs.length := by omega
   rw [decide_eq_false (show ¬ (p.funcs.length : Int) < (p.funcs.length : Int) by omega)]
   (conv => whnf); repeat ((first | (apply And.intro;· exact Cl4) | apply T1 | apply T2 | apply T3 | apply T4 | apply T6 | apply T5); conv => whnf)
   rw [hin, sh_end] at h
   exact h
set_option maxHeartbeats 8000000 in
theorem namesR_spec (p : PG) (n : Int) (zf : Nat) (lf : List PV) (tf : Bool) (zc : Nat) (lc : List PV) (tc : Bool) (hp : PGA p zf lf zc lc) (Post : PV → List (Nat × Blk) → Prop)
  (h : ∀ z l t o, Post (.tup [.sl z l t o, .bool (namesR p n)]) []) : Spec K 106 [.agg (pgc zf lf tf zc lc tc), .int .i64 n] [] Post := by
 refine is106.specW K_ok K_mix false (by simp) (by simp [keys]) ?_
 have hc := VPs_len hp.cs
 have hz := zlc hp
 have hk5 : K.size 9 = 1 := rfl
 unfold namesR inB at h
 (conv => whnf); repeat ((first | (apply And.intro;· exact Cl4) | apply T1 | apply T2 | apply T3 | apply T4 | apply T6 | apply T5); conv => whnf)
 rw [hc]
 by_cases h0 : 0 ≤ n
 rotate_left
 ·rw [decide_eq_false h0] at h
  rw [decide_eq_true (show n < 0 by omega)]
  rcases nthC hp n.toNat with ⟨v, y1, mp, u1, o1, y2, u2, o2, _, hq⟩ | ⟨_, hq⟩
  all_goals (
   (conv => whnf); repeat ((first | (apply And.intro;· exact Cl4) | apply T1 | apply T2 | apply T3 | apply T4 | apply T6 | apply T5); conv => whnf)
   rw [hq]
   (conv => whnf); repeat ((first | (apply And.intro;· exact Cl4) | apply T1 | apply T2 | apply T3 | apply T4 | apply T6 | apply T5); conv => whnf)
   exact h _ _ _ _)
 rw [decide_eq_true h0] at h
 rw [decide_eq_false (show ¬ n < 0 by omega)]
 (conv => whnf); repeat ((first | (apply And.intro;· exact Cl4) | apply T1 | apply T2 | apply T3 | apply T4 | apply T6 | apply T5); conv => whnf)
 by_cases h1 : n < p.consts.length
 rotate_left
 ·rw [decide_eq_false h1] at h
  rw [decide_eq_true (show (p.consts.length : Int) ≤ n by omega)]
  rcases nthC hp n.toNat with ⟨v, y1, mp, u1, o1, y2, u2, o2, _, hq⟩ | ⟨_, hq⟩
  all_goals (
   (conv => whnf); repeat ((first | (apply And.intro;· exact Cl4) | apply T1 | apply T2 | apply T3 | apply T4 | apply T6 | apply T5); conv => whnf)
   rw [hq]
   (conv => whnf); repeat ((first | (apply And.intro;· exact Cl4) | apply T1 | apply T2 | apply T3 | apply T4 | apply T6 | apply T5); conv => whnf)
   exact h _ _ _ _)
 have hlt : n.toNat < p.consts.length := by omega
 rw [List.getElem?_eq_getElem hlt, decide_eq_true h1] at h
 obtain ⟨y1, mp, u1, o1, y2, u2, o2, hq, hv, g1, g2, g3⟩ := (VPs_nth hp.cs hlt).out
 rw [decide_eq_false (show ¬ (p.consts.length : Int) ≤ n by omega)]
 (conv => whnf); repeat ((first | (apply And.intro;· exact Cl4) | apply T1 | apply T2 | apply T3 | apply T4 | apply T6 | apply T5); conv => whnf)
 rw [hq]
 (conv => whnf); repeat ((first | (apply And.intro;· exact Cl4) | apply T1 | apply T2 | apply T3 | apply T4 | apply T6 | apply T5); conv => whnf)
 obtain ⟨hb1, hb2⟩ := hp.cb _ (List.getElem_mem hlt)
 generalize p.consts[n.toNat] = v at h hq hv g1 g2 g3 hb1 hb2
 have hm := VPs_len hv
 have hbl : bulkVs v.l ≤ 1000000000 := by obtain ⟨k, m, s, l, ns⟩ := v; simp only [bulkV] at hb2; show bulkVs l ≤ _; omega
 have hll := len_sizeVs v.l
 have hsb := sizes_bulk v.l
 have hz1 : y1 = 5 ∨ mp = [] := g1.imp id fun h => by rw [h] at hm; exact List.length_eq_zero_iff.1 hm
 unfold recordR at h
 by_cases hk : v.k = 4
 rotate_left
 ·have hk2 : (v.k != 4) = true := by simpa using hk
  have hk3 : (v.k == 4) = false := by simpa using hk
  rw [hk2]
  simp only [hk3] at h
  (conv => whnf); repeat ((first | (apply And.intro;· exact Cl4) | apply T1 | apply T2 | apply T3 | apply T4 | apply T6 | apply T5); conv => whnf)
  exact h _ _ _ _
 have hk3 : (v.k == 4) = true := by simpa using hk
 simp only [hk3, Bool.true_and] at h
 rw [show (v.k != 4) = false by simpa using hk]
 (conv => whnf); repeat ((first | (apply And.intro;· exact Cl4) | apply T1 | apply T2 | apply T3 | apply T4 | apply T6 | apply T5); conv => whnf)
 rw [hq]
 (conv => whnf); repeat ((first | (apply And.intro;· exact Cl4) | apply T1 | apply T2 | apply T3 | apply T4 | apply T6 | apply T5); conv => whnf)
 refine ⟨Nat, fun i => ⟨56, [(8, .int .i64 i), (7, .sl y1 mp u1 true), (6, .ref 1 1 0 i), (5, .bool false), (4, .sl 0 [] true false), (2, .ptr 0 0)],
  [(0, .box (pgc zf lf tf zc lc tc)), (1, .row 9 1 (strs ((v.l.take i).map V.s)) false)], []⟩,
  fun i => i ≤ v.l.length ∧ (v.l.take i).all (fun x => x.k == 3) = true, fun i => v.l.length - i, ⟨[.slot 6 9], 0, ⟨Nat.zero_le _, rfl⟩, ?_⟩, fun i hI => ?_⟩
 ·simp [meets, ghosts, ghost, St.le, St.get, St.put, look, keys, PV.labs, labsL, lookB, updB, Blk.labs, fresh, nth, strs, hk5]
 ·obtain ⟨hi, hin⟩ := hI
  conv => (arg 5; dsimp only)
  (conv => whnf); repeat ((first | (apply And.intro;· exact Cl4) | apply T1 | apply T2 | apply T3 | apply T4 | apply T6 | apply T5); conv => whnf)
  rw [hm]
  by_cases hix : i < v.l.length
  ·have hilp : i < mp.length := by omega
   rw [decide_eq_true (show (i : Int) < (v.l.length : Int) by omega)]
   (conv => whnf); repeat ((first | (apply And.intro;· exact Cl4) | apply T1 | apply T2 | apply T3 | apply T4 | apply T6 | apply T5); conv => whnf)
   obtain ⟨x1, xp, w1, r1, x2, w2, r2, hqi, hvi, _, _, _⟩ := (VPs_nth hv hix).out
   rw [Int.toNat_natCast, hqi]
   (conv => whnf); repeat ((first | (apply And.intro;· exact Cl4) | apply T1 | apply T2 | apply T3 | apply T4 | apply T6 | apply T5); conv => whnf)
   by_cases hk : v.l[i].k = 3
   ·rw [hk]
    (conv => whnf); repeat ((first | (apply And.intro;· exact Cl4) | apply T1 | apply T2 | apply T3 | apply T4 | apply T6 | apply T5); conv => whnf)
    rw [Int.toNat_natCast, hqi]
    (conv => whnf); repeat ((first | (apply And.intro;· exact Cl4) | apply T1 | apply T2 | apply T3 | apply T4 | apply T6 | apply T5); conv => whnf)
    refine ⟨by show (i + 1) * 17 ≤ _; omega, ?_⟩
    (conv => whnf); repeat ((first | (apply And.intro;· exact Cl4) | apply T1 | apply T2 | apply T3 | apply T4 | apply T6 | apply T5); conv => whnf)
    rw [wrap64 (n := (i : Int) + 1) (by omega) (by omega)]
    have hrow : List.take i (strs (List.map V.s (List.take i v.l))) ++ List.take 1 (List.drop 0 [PV.str v.l[i].s]) = strs (List.map V.s (List.take (i + 1) v.l)) := by
     rw [List.take_of_length_le (by rw [strs_len, List.length_map, List.length_take]; omega), List.take_succ_eq_append_getElem hix, List.map_append, strs_app]; rfl
    rw [hrow]
    refine ⟨[], i + 1, ⟨hix, by rw [List.take_succ_eq_append_getElem hix, List.all_append, hin]; simp [hk]⟩, by show v.l.length - (i + 1) < v.l.length - i; omega, ?_⟩
    simp [meets, ghosts, St.le, St.get, look, keys, PV.labs, labsL, lookB, Blk.labs]
   ·have hk2 : (v.l[i].k != 3) = true := by simpa using hk
    rw [hk2]
    (conv => whnf); repeat ((first | (apply And.intro;· exact Cl4) | apply T1 | apply T2 | apply T3 | apply T4 | apply T6 | apply T5); conv => whnf)
    have : v.l.all (fun x => x.k == 3) = false := by
     rw [List.all_eq_false]
     exact ⟨v.l[i], List.getElem_mem hix, by simpa using hk⟩
    rw [this] at h
    exact h _ _ _ _
  ·obtain rfl : i = v.l.length := by omega
   rw [decide_eq_false (show ¬ (v.l.length : Int) < (v.l.length : Int) by omega)]
   (conv => whnf); repeat ((first | (apply And.intro;· exact Cl4) | apply T1 | apply T2 | apply T3 | apply T4 | apply T6 | apply T5); conv => whnf)
   rw [List.take_length] at hin ⊢
   rw [hin, Bool.true_and] at h
   have htk : List.take v.l.length (List.drop 0 (strs (List.map V.s v.l))) = strs (List.map V.s v.l) := by rw [List.drop_zero, List.take_of_length_le (by rw [strs_len, List.length_map]; exact Nat.le_refl _)]
   rw [htk]
   refine names13_spec (v.l.map V.s) _ _ (.inl rfl) (by rw [List.length_map]; omega) _ ?_
   (conv => whnf); repeat ((first | (apply And.intro;· exact Cl4) | apply T1 | apply T2 | apply T3 | apply T4 | apply T6 | apply T5); conv => whnf)
   rw [List.length_map]
   exact h _ _ _ _
end Go.Vc
namespace Go.Vc
open Go Go.Proofs
set_option maxRecDepth 100000
def FitsR : Prop := ∀ s : List UInt8, s.length ≤ 1000000000 → ∀ Post : PV → List (Nat × Blk) → Prop, Post (.bool (fitsT s)) [] → Spec K 107 [.str s] [] Post
set_option maxHeartbeats 8000000 in
theorem askR_spec (p : PG) (x : IN) (zf : Nat) (lf : List PV) (tf : Bool) (zc : Nat) (lc : List PV) (tc : Bool) (hp : PGA p zf lf zc lc) (Post : PV → List (Nat × Blk) → Prop)
  (h : Post (.bool (askR p x)) []) : Spec K 76 [.agg (pgc zf lf tf zc lc tc), INP x] [] Post := by
 obtain ⟨op, a, b⟩ := x
 show Spec K 76 [.agg (pgc zf lf tf zc lc tc), .agg [.int .i64 op, .int .i64 a, .int .i64 b]] [] Post
 refine is76.specW K_ok K_mix false (by simp) (by simp [keys]) ?_
 have hf := FPs_len hp.fs
 have hzf := zlf hp
 unfold askR nmdR at h
 simp only at h
 (conv => whnf); repeat ((first | (apply And.intro;· exact Cl4) | apply T1 | apply T2 | apply T3 | apply T4 | apply T6 | apply T5); conv => whnf)
 refine textR_spec p b zf lf tf zc lc tc hp _ ?_
 have hl := textM_len hp b
 unfold textR
 generalize textM p b = y at h hl
 obtain ⟨s, is⟩ := y
 simp only at h hl
 have hs : (if is = true then (s, true) else (([] : List UInt8), false)) = (if is = true then s else [], is) := by cases is <;> rfl
 rw [hs]
 (conv => whnf); repeat ((first | (apply And.intro;· exact Cl4) | apply T1 | apply T2 | apply T3 | apply T4 | apply T6 | apply T5); conv => whnf)
 by_cases h1 : a = 1 ∨ a = 3
 ·rw [if_pos h1] at h
  rcases h1 with h1 | h1
  all_goals (
   rw [h1]
   (conv => whnf); repeat ((first | (apply And.intro;· exact Cl4) | apply T1 | apply T2 | apply T3 | apply T4 | apply T6 | apply T5); conv => whnf)
   cases is
   ·(conv => whnf); repeat ((first | (apply And.intro;· exact Cl4) | apply T1 | apply T2 | apply T3 | apply T4 | apply T6 | apply T5); conv => whnf)
    exact h
   ·(conv => whnf); repeat ((first | (apply And.intro;· exact Cl4) | apply T1 | apply T2 | apply T3 | apply T4 | apply T6 | apply T5); conv => whnf)
    refine nameV_spec s _ ?_
    (conv => whnf); repeat ((first | (apply And.intro;· exact Cl4) | apply T1 | apply T2 | apply T3 | apply T4 | apply T6 | apply T5); conv => whnf)
    exact h)
 rw [if_neg h1] at h
 rw [show (a == 1) = false by simpa using (by omega : ¬ a = 1)]
 (conv => whnf); repeat ((first | (apply And.intro;· exact Cl4) | apply T1 | apply T2 | apply T3 | apply T4 | apply T6 | apply T5); conv => whnf)
 rw [show (a == 3) = false by simpa using (by omega : ¬ a = 3)]
 (conv => whnf); repeat ((first | (apply And.intro;· exact Cl4) | apply T1 | apply T2 | apply T3 | apply T4 | apply T6 | apply T5); conv => whnf)
 by_cases h4 : a = 4
 ·rw [if_pos h4] at h
  rw [h4]
  (conv => whnf); repeat ((first | (apply And.intro;· exact Cl4) | apply T1 | apply T2 | apply T3 | apply T4 | apply T6 | apply T5); conv => whnf)
  refine findR_spec p (if is = true then s else []) zf lf tf zc lc tc hp _ ?_
  cases is
  ·generalize findM p (if false = true then s else []) = k
   rcases nthF hp (if 0 > k then 0 else k).toNat with ⟨f, y, u, o, _, hq⟩ | ⟨_, hq⟩
   all_goals (
    (conv => whnf); repeat ((first | (apply And.intro;· exact Cl4) | apply T1 | apply T2 | apply T3 | apply T4 | apply T6 | apply T5); conv => whnf)
    rw [hq]
    (conv => whnf); repeat ((first | (apply And.intro;· exact Cl4) | apply T1 | apply T2 | apply T3 | apply T4 | apply T6 | apply T5); conv => whnf)
    exact h)
  ·rw [if_pos rfl]
   have hlt := findM_lt p s
   have hge : -1 ≤ findM p s := (idxL_ge _ _).1
   generalize findM p s = k at h hlt hge
   by_cases hk : 0 ≤ k
   ·have hkl : k.toNat < p.funcs.length := by omega
    rw [if_neg (show ¬ 0 > k by omega), decide_eq_true hk] at *
    obtain ⟨y, u, o, hq, hy⟩ := FPs_nth hp.fs hkl
    rw [List.getElem?_eq_getElem hkl] at h
    (conv => whnf); repeat ((first | (apply And.intro;· exact Cl4) | apply T1 | apply T2 | apply T3 | apply T4 | apply T6 | apply T5); conv => whnf)
    rw [hq]
    (conv => whnf); repeat ((first | (apply And.intro;· exact Cl4) | apply T1 | apply T2 | apply T3 | apply T4 | apply T6 | apply T5); conv => whnf)
    exact h
   ·have hk0 : decide (0 ≤ k) = false := decide_eq_false hk
    rw [if_pos (show 0 > k by omega)]
    rw [hk0] at h ⊢
    rcases nthF hp (0 : Int).toNat with ⟨f, y, u, o, _, hq⟩ | ⟨_, hq⟩
    all_goals (
     (conv => whnf); repeat ((first | (apply And.intro;· exact Cl4) | apply T1 | apply T2 | apply T3 | apply T4 | apply T6 | apply T5); conv => whnf)
     rw [hq]
     (conv => whnf); repeat ((first | (apply And.intro;· exact Cl4) | apply T1 | apply T2 | apply T3 | apply T4 | apply T6 | apply T5); conv => whnf)
     exact h)
 rw [if_neg h4] at h
 rw [show (a == 4) = false by simpa using (by omega : ¬ a = 4)]
 (conv => whnf); repeat ((first | (apply And.intro;· exact Cl4) | apply T1 | apply T2 | apply T3 | apply T4 | apply T6 | apply T5); conv => whnf)
 have key : ∀ bb : Bool, bb = (decide (1 ≤ a) && decide (a ≤ 8) && b == 0) → Post (.bool bb) [] := fun bb e => by rw [e]; exact h
 refine key _ ?_
 cases decide (1 ≤ a) <;> cases decide (a ≤ 8) <;> rfl
set_option maxHeartbeats 16000000 in
theorem operandR_spec (hR : FitsR) (p : PG) (f : FD) (x : IN) (zf : Nat) (lf : List PV) (tf : Bool) (zc : Nat) (lc : List PV) (tc : Bool) (z : Nat) (t : Bool) (hp : PGA p zf lf zc lc) (Post : PV → List (Nat × Blk) → Prop)
  (h : Post (.bool (operandR p f x)) []) : Spec K 77 [.agg (pgc zf lf tf zc lc tc), .agg (fdc f z t), INP x] [] Post := by
 obtain ⟨op, a, b⟩ := x
 show Spec K 77 [.agg (pgc zf lf tf zc lc tc), .agg (fdc f z t), .agg [.int .i64 op, .int .i64 a, .int .i64 b]] [] Post
 refine is77.specW K_ok K_mix false (by simp) (by simp [keys]) ?_
 have hf := FPs_len hp.fs
 have hc := VPs_len hp.cs
 have hz := zlc hp
 have hzf := zlf hp
 have hl := textM_len hp a
 unfold operandR nmdR at h
 simp only at h
 (conv => whnf); repeat ((first | (apply And.intro;· exact Cl4) | apply T1 | apply T2 | apply T3 | apply T4 | apply T6 | apply T5); conv => whnf)
 by_cases hc0 : op = 1
 ·rw [if_pos hc0] at h
  rw [hc0]
  (conv => whnf); repeat ((first | (apply And.intro;· exact Cl4) | apply T1 | apply T2 | apply T3 | apply T4 | apply T6 | apply T5); conv => whnf)
  rw [inB_eq _ _ _ hc]
  exact h
 rw [if_neg hc0] at h
 rw [show (op == 1) = false by simpa using (by omega : ¬ op = 1)]
 (conv => whnf); repeat ((first | (apply And.intro;· exact Cl4) | apply T1 | apply T2 | apply T3 | apply T4 | apply T6 | apply T5); conv => whnf)
 by_cases hc1 : op = 2 ∨ op = 3
 ·rw [if_pos hc1] at h
  rcases hc1 with hc1 | hc1
  all_goals (
   rw [hc1]
   (conv => whnf); repeat ((first | (apply And.intro;· exact Cl4) | apply T1 | apply T2 | apply T3 | apply T4 | apply T6 | apply T5); conv => whnf)
   have e : (bif decide (0 ≤ a) then decide (a < f.locals) else false) = (decide (0 ≤ a) && decide (a < f.locals)) := by cases decide (0 ≤ a) <;> rfl
   rw [e]
   exact h)
 rw [if_neg hc1] at h
 rw [show (op == 2) = false by simpa using (by omega : ¬ op = 2)]
 (conv => whnf); repeat ((first | (apply And.intro;· exact Cl4) | apply T1 | apply T2 | apply T3 | apply T4 | apply T6 | apply T5); conv => whnf)
 rw [show (op == 3) = false by simpa using (by omega : ¬ op = 3)]
 (conv => whnf); repeat ((first | (apply And.intro;· exact Cl4) | apply T1 | apply T2 | apply T3 | apply T4 | apply T6 | apply T5); conv => whnf)
 by_cases hc2 : op = 20
 ·rw [if_pos hc2] at h
  rw [hc2]
  (conv => whnf); repeat ((first | (apply And.intro;· exact Cl4) | apply T1 | apply T2 | apply T3 | apply T4 | apply T6 | apply T5); conv => whnf)
  have e : (bif decide (0 ≤ a) then decide (a ≤ 8) else false) = (decide (0 ≤ a) && decide (a ≤ 8)) := by cases decide (0 ≤ a) <;> rfl
  rw [e]
  exact h
 rw [if_neg hc2] at h
 rw [show (op == 20) = false by simpa using (by omega : ¬ op = 20)]
 (conv => whnf); repeat ((first | (apply And.intro;· exact Cl4) | apply T1 | apply T2 | apply T3 | apply T4 | apply T6 | apply T5); conv => whnf)
 by_cases hc3 : op = 21
 ·rw [if_pos hc3] at h
  rw [hc3]
  (conv => whnf); repeat ((first | (apply And.intro;· exact Cl4) | apply T1 | apply T2 | apply T3 | apply T4 | apply T6 | apply T5); conv => whnf)
  refine namesR_spec p a zf lf tf zc lc tc hp _ fun _ _ u o => ?_
  cases u <;> cases o
  all_goals (
   (conv => whnf); repeat ((first | (apply And.intro;· exact Cl4) | apply T1 | apply T2 | apply T3 | apply T4 | apply T6 | apply T5); conv => whnf)
   exact h)
 rw [if_neg hc3] at h
 rw [show (op == 21) = false by simpa using (by omega : ¬ op = 21)]
 (conv => whnf); repeat ((first | (apply And.intro;· exact Cl4) | apply T1 | apply T2 | apply T3 | apply T4 | apply T6 | apply T5); conv => whnf)
 by_cases hc4 : op = 22
 ·rw [if_pos hc4] at h
  rw [hc4]
  (conv => whnf); repeat ((first | (apply And.intro;· exact Cl4) | apply T1 | apply T2 | apply T3 | apply T4 | apply T6 | apply T5); conv => whnf)
  refine textR_spec p a zf lf tf zc lc tc hp _ ?_
  unfold textR
  generalize textM p a = y at h hl
  obtain ⟨s, is⟩ := y
  simp only at h hl
  have hs : (if is = true then (s, true) else (([] : List UInt8), false)) = (if is = true then s else [], is) := by cases is <;> rfl
  rw [hs]
  cases is
  ·(conv => whnf); repeat ((first | (apply And.intro;· exact Cl4) | apply T1 | apply T2 | apply T3 | apply T4 | apply T6 | apply T5); conv => whnf)
   exact h
  ·(conv => whnf); repeat ((first | (apply And.intro;· exact Cl4) | apply T1 | apply T2 | apply T3 | apply T4 | apply T6 | apply T5); conv => whnf)
   refine nameV_spec s _ ?_
   (conv => whnf); repeat ((first | (apply And.intro;· exact Cl4) | apply T1 | apply T2 | apply T3 | apply T4 | apply T6 | apply T5); conv => whnf)
   exact h
 rw [if_neg hc4] at h
 rw [show (op == 22) = false by simpa using (by omega : ¬ op = 22)]
 (conv => whnf); repeat ((first | (apply And.intro;· exact Cl4) | apply T1 | apply T2 | apply T3 | apply T4 | apply T6 | apply T5); conv => whnf)
 by_cases hc5 : op = 23
 ·rw [if_pos hc5] at h
  rw [hc5]
  (conv => whnf); repeat ((first | (apply And.intro;· exact Cl4) | apply T1 | apply T2 | apply T3 | apply T4 | apply T6 | apply T5); conv => whnf)
  refine textR_spec p a zf lf tf zc lc tc hp _ ?_
  unfold textR
  generalize textM p a = y at h hl
  obtain ⟨s, is⟩ := y
  simp only at h hl
  have hs : (if is = true then (s, true) else (([] : List UInt8), false)) = (if is = true then s else [], is) := by cases is <;> rfl
  rw [hs]
  cases is
  ·(conv => whnf); repeat ((first | (apply And.intro;· exact Cl4) | apply T1 | apply T2 | apply T3 | apply T4 | apply T6 | apply T5); conv => whnf)
   exact h
  ·(conv => whnf); repeat ((first | (apply And.intro;· exact Cl4) | apply T1 | apply T2 | apply T3 | apply T4 | apply T6 | apply T5); conv => whnf)
   refine hR s hl _ ?_
   (conv => whnf); repeat ((first | (apply And.intro;· exact Cl4) | apply T1 | apply T2 | apply T3 | apply T4 | apply T6 | apply T5); conv => whnf)
   exact h
 rw [if_neg hc5] at h
 rw [show (op == 23) = false by simpa using (by omega : ¬ op = 23)]
 (conv => whnf); repeat ((first | (apply And.intro;· exact Cl4) | apply T1 | apply T2 | apply T3 | apply T4 | apply T6 | apply T5); conv => whnf)
 by_cases hc6 : op = 24 ∨ op = 25 ∨ op = 26
 ·rw [if_pos hc6] at h
  rcases hc6 with hc6 | hc6 | hc6
  all_goals (
   rw [hc6]
   (conv => whnf); repeat ((first | (apply And.intro;· exact Cl4) | apply T1 | apply T2 | apply T3 | apply T4 | apply T6 | apply T5); conv => whnf)
   rw [inB_eq _ _ _ (List.length_map _)]
   exact h)
 rw [if_neg hc6] at h
 rw [show (op == 24) = false by simpa using (by omega : ¬ op = 24)]
 (conv => whnf); repeat ((first | (apply And.intro;· exact Cl4) | apply T1 | apply T2 | apply T3 | apply T4 | apply T6 | apply T5); conv => whnf)
 rw [show (op == 25) = false by simpa using (by omega : ¬ op = 25)]
 (conv => whnf); repeat ((first | (apply And.intro;· exact Cl4) | apply T1 | apply T2 | apply T3 | apply T4 | apply T6 | apply T5); conv => whnf)
 rw [show (op == 26) = false by simpa using (by omega : ¬ op = 26)]
 (conv => whnf); repeat ((first | (apply And.intro;· exact Cl4) | apply T1 | apply T2 | apply T3 | apply T4 | apply T6 | apply T5); conv => whnf)
 by_cases hc7 : op = 29
 ·rw [if_pos hc7] at h
  rw [hc7]
  (conv => whnf); repeat ((first | (apply And.intro;· exact Cl4) | apply T1 | apply T2 | apply T3 | apply T4 | apply T6 | apply T5); conv => whnf)
  rw [inB_eq _ _ _ hf]
  exact h
 rw [if_neg hc7] at h
 rw [show (op == 29) = false by simpa using (by omega : ¬ op = 29)]
 (conv => whnf); repeat ((first | (apply And.intro;· exact Cl4) | apply T1 | apply T2 | apply T3 | apply T4 | apply T6 | apply T5); conv => whnf)
 exact h
set_option maxHeartbeats 8000000 in
theorem mayR_spec (hR : FitsR) (p : PG) (f : FD) (x : IN) (zf : Nat) (lf : List PV) (tf : Bool) (zc : Nat) (lc : List PV) (tc : Bool) (z : Nat) (t : Bool) (hp : PGA p zf lf zc lc) (Post : PV → List (Nat × Blk) → Prop)
  (h : Post (.bool (insR p f x)) []) : Spec K 44 [.agg (pgc zf lf tf zc lc tc), .agg (fdc f z t), INP x] [] Post := by
 obtain ⟨op, a, b⟩ := x
 show Spec K 44 [.agg (pgc zf lf tf zc lc tc), .agg (fdc f z t), .agg [.int .i64 op, .int .i64 a, .int .i64 b]] [] Post
 refine is44.specW K_ok K_mix false (by simp) (by simp [keys]) ?_
 unfold insR at h
 simp only at h
 (conv => whnf); repeat ((first | (apply And.intro;· exact Cl4) | apply T1 | apply T2 | apply T3 | apply T4 | apply T6 | apply T5); conv => whnf)
 by_cases h1 : 1 ≤ op
 rotate_left
 ·rw [decide_eq_false h1] at h
  rw [decide_eq_true (show op < 1 by omega)]
  (conv => whnf); repeat ((first | (apply And.intro;· exact Cl4) | apply T1 | apply T2 | apply T3 | apply T4 | apply T6 | apply T5); conv => whnf)
  exact h
 rw [decide_eq_true h1] at h
 rw [decide_eq_false (show ¬ op < 1 by omega)]
 (conv => whnf); repeat ((first | (apply And.intro;· exact Cl4) | apply T1 | apply T2 | apply T3 | apply T4 | apply T6 | apply T5); conv => whnf)
 by_cases h2 : op ≤ 31
 rotate_left
 ·rw [decide_eq_false h2] at h
  rw [decide_eq_true (show 31 < op by omega)]
  (conv => whnf); repeat ((first | (apply And.intro;· exact Cl4) | apply T1 | apply T2 | apply T3 | apply T4 | apply T6 | apply T5); conv => whnf)
  exact h
 rw [decide_eq_true h2] at h
 rw [decide_eq_false (show ¬ 31 < op by omega)]
 (conv => whnf); repeat ((first | (apply And.intro;· exact Cl4) | apply T1 | apply T2 | apply T3 | apply T4 | apply T6 | apply T5); conv => whnf)
 by_cases h3 : op = 31
 ·rw [if_pos h3] at h
  rw [h3]
  (conv => whnf); repeat ((first | (apply And.intro;· exact Cl4) | apply T1 | apply T2 | apply T3 | apply T4 | apply T6 | apply T5); conv => whnf)
  refine askR_spec p ⟨31, a, b⟩ zf lf tf zc lc tc hp _ ?_
  (conv => whnf); repeat ((first | (apply And.intro;· exact Cl4) | apply T1 | apply T2 | apply T3 | apply T4 | apply T6 | apply T5); conv => whnf)
  rw [h3] at h
  exact h
 rw [if_neg h3] at h
 rw [show (op == 31) = false by simpa using (by omega : ¬ op = 31)]
 (conv => whnf); repeat ((first | (apply And.intro;· exact Cl4) | apply T1 | apply T2 | apply T3 | apply T4 | apply T6 | apply T5); conv => whnf)
 cases hb : b == 0
 ·rw [hb] at h
  (conv => whnf); repeat ((first | (apply And.intro;· exact Cl4) | apply T1 | apply T2 | apply T3 | apply T4 | apply T6 | apply T5); conv => whnf)
  exact h
 ·rw [hb] at h
  (conv => whnf); repeat ((first | (apply And.intro;· exact Cl4) | apply T1 | apply T2 | apply T3 | apply T4 | apply T6 | apply T5); conv => whnf)
  refine operandR_spec hR p f ⟨op, a, b⟩ zf lf tf zc lc tc z t hp _ ?_
  (conv => whnf); repeat ((first | (apply And.intro;· exact Cl4) | apply T1 | apply T2 | apply T3 | apply T4 | apply T6 | apply T5); conv => whnf)
  exact h
theorem headR_spec (f : FD) (z : Nat) (t : Bool) (Post : PV → List (Nat × Blk) → Prop)
  (h : Post (.bool (headR f)) []) : Spec K 43 [.agg (fdc f z t)] [] Post := by
 refine is43.specW K_ok K_mix false (by simp) (by simp [keys]) ?_
 have key : ∀ b : Bool, b = headR f → Post (.bool b) [] := fun b e => by rw [e]; exact h
 clear h
 (conv => whnf); repeat ((first | (apply And.intro;· exact Cl4) | apply T1 | apply T2 | apply T3 | apply T4 | apply T6 | apply T5); conv => whnf)
 refine nameV_spec f.name _ ?_
 (conv => whnf); repeat ((first | (apply And.intro;· exact Cl4) | apply T1 | apply T2 | apply T3 | apply T4 | apply T6 | apply T5); conv => whnf)
 refine key _ ?_
 unfold headR
 rw [List.length_map, show decide (1 ≤ (f.code.length : Int)) = decide (1 ≤ f.code.length) from decide_eq_decide.2 (by omega)]
 cases isName f.name <;> cases decide (0 ≤ f.args) <;> cases decide (f.args ≤ 8) <;> cases decide (f.args ≤ f.locals) <;> cases decide (f.locals ≤ 32) <;> rfl
end Go.Vc
namespace Go.Vc
open Go Go.Proofs
set_option maxRecDepth 100000
theorem colon_idx (s : List UInt8) : colon s = idxL (fun b => b == 58) s := by
 unfold colon
 induction s with
 | nil => rfl
 | cons a r ih =>
  unfold Lib.indexByte idxL
  rw [ih]
  cases a == 58
  ·cases h : (idxL (fun b => b == 58) r == -1)
   ·have : ¬ idxL (fun b => b == 58) r = -1 := by simpa using h
    simp [this]
   ·have : idxL (fun b => b == 58) r = -1 := by simpa using h
    simp [this]
  ·rfl
def fieldR (t : List UInt8) : List UInt8 × Int × Bool := if (cutM t).2.2 = true then ((cutM t).1, (cutM t).1.length + 1, isName (cutM t).1) else ([], 0, false)
theorem cutM_at {t : List UInt8} {i : Nat} (h : colon t = i) (hi : i < t.length) : cutM t = (t.take i, t.drop (i + 1), true) := by
 unfold cutM; rw [h, if_pos (by omega)]; rfl
theorem cutM_no {t : List UInt8} (h : colon t = -1) : cutM t = (t, [], false) := by
 unfold cutM; rw [h]; rfl
theorem u8_eq (c : UInt8) (n : Nat) (hn : n < 256) : ((c.toNat : Int) == (n : Int)) = (c == UInt8.ofNat n) := by
 rw [Bool.eq_iff_iff, beq_iff_eq, beq_iff_eq]
 constructor
 ·intro h
  apply UInt8.toNat.inj
  show c.toNat = n % 256
  omega
 ·intro h
  subst h
  show ((n % 256 : Nat) : Int) = n
  omega
set_option maxHeartbeats 4000000 in
theorem fieldR_spec (t : List UInt8) (ht : t.length ≤ 1000000000) (Post : PV → List (Nat × Blk) → Prop) (h : Post (.tup [.str (fieldR t).1, .int .i64 (fieldR t).2.1, .bool (fieldR t).2.2]) []) : Spec K 137 [.str t] [] Post := by
 refine is137.specW K_ok K_mix false (by simp) (by simp [keys]) ?_
 (conv => whnf); repeat ((first | (apply And.intro;· exact Cl4) | apply T1 | apply T2 | apply T3 | apply T4 | apply T6 | apply T5); conv => whnf)
 refine ⟨Nat, fun i => ⟨25, [(5, .int .i64 i), (4, .bool false), (3, .int .i64 0), (2, .str []), (0, .str t)], [], []⟩, fun i => i ≤ t.length ∧ colon t = sh i (idxL (fun b => b == 58) (t.drop i)), fun i => t.length - i, ⟨[], 0, ⟨Nat.zero_le _, by rw [colon_idx]; exact sh_zero.symm⟩, ?_⟩, fun i hI => ?_⟩
 ·simp [meets, ghosts, St.le, St.get, look, keys, PV.labs, labsL, lookB, Blk.labs]
 ·obtain ⟨hi, hin⟩ := hI
  conv => (arg 5; dsimp only)
  (conv => whnf); repeat ((first | (apply And.intro;· exact Cl4) | apply T1 | apply T2 | apply T3 | apply T4 | apply T6 | apply T5); conv => whnf)
  by_cases hix : i < t.length
  ·rw [decide_eq_true (show (i : Int) < (t.length : Int) by omega)]
   (conv => whnf); repeat ((first | (apply And.intro;· exact Cl4) | apply T1 | apply T2 | apply T3 | apply T4 | apply T6 | apply T5); conv => whnf)
   have hg : t.getD i 0 = t[i] := by rw [List.getD_eq_getElem?_getD, List.getElem?_eq_getElem hix]; rfl
   rw [Int.toNat_natCast, hg]
   cases hp : t[i] == 58
   ·rw [show ((t[i].toNat : Int) == 58) = false by rw [← hp]; exact u8_eq t[i] 58 (by omega)]
    (conv => whnf); repeat ((first | (apply And.intro;· exact Cl4) | apply T1 | apply T2 | apply T3 | apply T4 | apply T6 | apply T5); conv => whnf)
    rw [wrap64 (n := (i : Int) + 1) (by omega) (by omega)]
    refine ⟨[], i + 1, ⟨hix, by rw [hin]; exact sh_step (P := fun b => b == 58) hix hp⟩, by show t.length - (i + 1) < t.length - i; omega, ?_⟩
    simp [meets, ghosts, St.le, St.get, look, keys, PV.labs, labsL, lookB, Blk.labs]
   ·rw [show ((t[i].toNat : Int) == 58) = true by rw [← hp]; exact u8_eq t[i] 58 (by omega)]
    rw [sh_hit (P := fun b => b == 58) hix hp] at hin
    have hcm := cutM_at hin hix
    unfold fieldR at h
    rw [hcm] at h
    simp only [if_true, List.length_take, Nat.min_eq_left hi] at h
    (conv => whnf); repeat ((first | (apply And.intro;· exact Cl4) | apply T1 | apply T2 | apply T3 | apply T4 | apply T6 | apply T5); conv => whnf)
    (conv => whnf); repeat' (first | ((first | (apply And.intro;· exact Cl4) | apply T1 | apply T2 | apply T3 | apply T4 | apply T6 | apply T5); conv => whnf) | (refine nameV_spec _ _ ?_; conv => whnf) | ((refine Both.mk ?_ ?_ <;> fail_if_success (intro _)) <;> conv => whnf))
    rw [List.drop_zero, Int.toNat_natCast, wrap64 (n := (i : Int) + 1) (by omega) (by omega)]
    exact h
  ·obtain rfl : i = t.length := by omega
   rw [decide_eq_false (show ¬ (t.length : Int) < (t.length : Int) by omega)]
   (conv => whnf); repeat ((first | (apply And.intro;· exact Cl4) | apply T1 | apply T2 | apply T3 | apply T4 | apply T6 | apply T5); conv => whnf)
   rw [sh_end] at hin
   unfold fieldR at h
   rw [cutM_no hin] at h
   exact h
end Go.Vc
namespace Go.Vc
open Go Go.Proofs
set_option maxRecDepth 100000
def plen (t : List UInt8) (o : Option (List UInt8)) : Int := match o with | none => 0 | some l => (t.length : Int) - l.length
theorem part_suf : ∀ n, (∀ t l, partM n t = some l → ∃ w, w ≠ [] ∧ t = w ++ l) ∧ (∀ last t l, recPM n last t = some l → ∃ w, w ≠ [] ∧ t = w ++ l)
 | 0 => ⟨fun t l h => by simp [partM] at h, fun last t l h => by simp [recPM] at h⟩
 | n + 1 => by
  obtain ⟨ihr, ihc⟩ := part_suf n
  refine ⟨fun t l h => ?_, fun last t l h => ?_⟩
  ·unfold partM at h
   split at h
   ·rename_i l' e
    obtain ⟨w, hw, rfl⟩ := preW_some e
    refine ⟨w, ?_, by rw [Option.some.inj h]⟩
    simp only [wordsR, List.mem_cons, List.not_mem_nil, or_false] at hw
    rcases hw with rfl | rfl | rfl | rfl | rfl <;> simp
   ·split at h
    ·rename_i r _
     split at h
     ·rename_i l' e
      obtain ⟨w, _, hw⟩ := ihr _ _ e
      exact ⟨91 :: w ++ [93], by simp, by rw [hw, ← Option.some.inj h]; simp⟩
     ·exact absurd h (by simp)
    ·rename_i r _
     exact ⟨[123, 125], by simp, by rw [← Option.some.inj h]; rfl⟩
    ·rename_i r _ _
     obtain ⟨w, _, hw⟩ := ihc _ _ _ h
     exact ⟨123 :: w, by simp, by rw [hw]; rfl⟩
    ·exact absurd h (by simp)
  ·unfold recPM at h
   split at h
   ·rename_i hc
    simp only [Bool.and_eq_true] at hc
    have hcut : ∃ w, w ≠ [] ∧ t = w ++ (cutM t).2.1 := by
     have h2 := hc.1.1
     unfold cutM at h2 ⊢
     by_cases h0 : 0 ≤ colon t
     ·rw [if_pos h0]
      have := colon_le t
      refine ⟨t.take ((colon t).toNat + 1), ?_, (List.take_append_drop _ _).symm⟩
      intro he
      have := congrArg List.length he
      simp only [List.length_take, List.length_nil] at this
      omega
     ·rw [if_neg h0] at h2; exact absurd h2 (by simp)
    obtain ⟨w0, hw0, ht⟩ := hcut
    split at h
    ·rename_i l' e
     obtain ⟨w, _, hw⟩ := ihr _ _ e
     exact ⟨w0 ++ w ++ [125], by simp, by rw [ht, hw, ← Option.some.inj h]; simp⟩
    ·rename_i r e
     obtain ⟨w, _, hw⟩ := ihr _ _ e
     obtain ⟨w2, _, hw2⟩ := ihc _ _ _ h
     exact ⟨w0 ++ w ++ 44 :: w2, by simp, by rw [ht, hw, hw2]; simp⟩
    ·exact absurd h (by simp)
   ·exact absurd h (by simp)
def PartC (n : Nat) : Prop := ∀ t : List UInt8, 2 * t.length + 1 ≤ n → t.length ≤ 1000000 → ∀ Post : PV → List (Nat × Blk) → Prop, Post (.int .i64 (plen t (partM n t))) [] → Spec K 124 [.str t] [] Post
def RecPC (n : Nat) : Prop := ∀ r : List UInt8, r ≠ [] → 2 * r.length ≤ n → r.length ≤ 1000000 → ∀ Post : PV → List (Nat × Blk) → Prop, Post (.int .i64 (if r.head? = some 125 then 2 else plen (123 :: r) (recPM n [] r))) [] → Spec K 135 [.str (123 :: r)] [] Post
theorem part_nil : ∀ n, partM n [] = none
 | 0 => rfl
 | n + 1 => by
  unfold partM
  rw [show preW [] wordsR = none by decide]
theorem recP_nil : ∀ n last, recPM n last [] = none
 | 0, _ => rfl
 | n + 1, last => by
  unfold recPM
  rw [if_neg]
  rw [cutM_no (by rfl)]
  simp
theorem part_91 (m : Nat) (r : List UInt8) : partM (m + 1) (91 :: r) = (match partM m r with | some (93 :: l) => some l | _ => none) := by
 conv => lhs; unfold partM
 rw [preW_head (by decide)]
 simp
 rfl
theorem part_123 (m : Nat) (r : List UInt8) : partM (m + 1) (123 :: r) = (if r.head? = some 125 then some (r.drop 1) else recPM m [] r) := by
 conv => lhs; unfold partM
 rw [preW_head (by decide)]
 dsimp only
 split
 ·rename_i he; exact absurd (List.cons.inj he).1 (by decide)
 ·rename_i r' he
  rw [(List.cons.inj he).2]; rfl
 ·rename_i r' hne he
  rw [(List.cons.inj he).2]
  split
  ·rename_i hh
   cases r' with
   | nil => cases hh
   | cons a q => exact absurd (by rw [Option.some.inj hh]) (hne q)
  ·rfl
 ·rename_i h3; exact absurd rfl (h3 r)
theorem part_other {m : Nat} {c : UInt8} {r : List UInt8} (hp : preW (c :: r) wordsR = none) (h1 : c ≠ 91) (h2 : c ≠ 123) : partM (m + 1) (c :: r) = none := by
 unfold partM
 rw [hp]
 dsimp only
 split
 ·rename_i he; exact absurd (List.cons.inj he).1 h1
 ·rename_i he; exact absurd (List.cons.inj he).1 h2
 ·rename_i he; exact absurd (List.cons.inj he).1 h2
 ·rfl
theorem part_short {m : Nat} {t : List UInt8} (hp : preW t wordsR = none) (h : t.length ≤ 1) : partM (m + 1) t = none := by
 match t, h with
 | [], _ => exact part_nil _
 | [c], _ =>
  by_cases h1 : c = 91
  ·subst h1; rw [part_91, part_nil]
  by_cases h2 : c = 123
  ·subst h2; rw [part_123, recP_nil]; rfl
  exact part_other hp h1 h2
theorem preW_step {t : List UInt8} {i : Nat} (hi : i < wordsR.length) (h : t.take (wordsR[i]).length ≠ wordsR[i]) : preW t (wordsR.drop i) = preW t (wordsR.drop (i + 1)) := by
 rw [List.drop_eq_getElem_cons hi]; conv => lhs; unfold preW
 rw [if_neg h]
theorem preW_hit {t : List UInt8} {i : Nat} (hi : i < wordsR.length) (h : t.take (wordsR[i]).length = wordsR[i]) : preW t (wordsR.drop i) = some (t.drop (wordsR[i]).length) := by
 rw [List.drop_eq_getElem_cons hi]; conv => lhs; unfold preW
 rw [if_pos h]
set_option maxHeartbeats 8000000 in
theorem part_step (m : Nat) (hP : PartC m) (hR : RecPC m) : PartC (m + 1) := by
 intro t hm ht Post h
 refine is124.specW K_ok K_mix false (by simp) (by simp [keys]) ?_
 (conv => whnf); repeat ((first | (apply And.intro;· exact Cl4) | apply T1 | apply T2 | apply T3 | apply T4 | apply T6 | apply T5); conv => whnf)
 refine ⟨Nat, fun i => ⟨79, [(4, .int .i64 i), (3, .ref 1 0 0 5), (2, .int .i64 0), (0, .str t)], [(0, .row 9 1 (strs wordsR) false)], []⟩, fun i => i ≤ 5 ∧ preW t wordsR = preW t (wordsR.drop i), fun i => 5 - i, ⟨[], 0, ⟨Nat.zero_le _, rfl⟩, ?_⟩, fun i hI => ?_⟩
 ·simp [meets, ghosts, St.le, St.get, look, keys, PV.labs, labsL, lookB, Blk.labs]
  rfl
 ·obtain ⟨hi, hin⟩ := hI
  conv => (arg 5; dsimp only)
  (conv => whnf); repeat ((first | (apply And.intro;· exact Cl4) | apply T1 | apply T2 | apply T3 | apply T4 | apply T6 | apply T5); conv => whnf)
  by_cases hix : i < 5
  ·rw [decide_eq_true (show (i : Int) < ((5 : Nat) : Int) by omega)]
   have hiw : i < wordsR.length := hix
   have hsl : (strs wordsR).length = 5 := rfl
   have hq : nth (strs wordsR) (0 + Int.toNat (i : Int)) = .str wordsR[i] := by rw [Nat.zero_add, Int.toNat_natCast, nth_strs hiw]
   have hwl : wordsR[i].length ≤ 6 := (by decide : ∀ w ∈ wordsR, w.length ≤ 6) _ (List.getElem_mem hiw)
   generalize hw : wordsR[i] = w at hq hwl
   by_cases hle : w.length ≤ t.length
   ·have hd : decide ((w.length : Int) ≤ (t.length : Int)) = true := decide_eq_true (by omega)
    (conv => whnf); repeat ((first | (apply And.intro;· exact Cl4) | apply T1 | apply T2 | apply T3 | apply T4 | apply T6 | apply T5); conv => whnf)
    (conv => whnf); repeat' (first | ((first | (apply And.intro;· exact Cl4) | apply T1 | apply T2 | apply T3 | apply T4 | apply T6 | apply T5); conv => whnf) | (rw [hq]; conv => whnf) | (rw [hd]; conv => whnf) | ((refine Both.mk ?_ ?_ <;> fail_if_success (intro _)) <;> conv => whnf))
    all_goals (
     by_cases he : t.take w.length = w
     ·refine Both.T (by rw [List.drop_zero, Int.toNat_natCast, he]; exact beq_self_eq_true w) ?_
      (conv => whnf); repeat ((first | (apply And.intro;· exact Cl4) | apply T1 | apply T2 | apply T3 | apply T4 | apply T6 | apply T5); conv => whnf)
      rw [hq]
      (conv => whnf); repeat ((first | (apply And.intro;· exact Cl4) | apply T1 | apply T2 | apply T3 | apply T4 | apply T6 | apply T5); conv => whnf)
      have hpw := preW_hit hiw (by rw [hw]; exact he)
      rw [← hin, hw] at hpw
      have hpm : plen t (partM (m + 1) t) = w.length := by
       unfold partM
       rw [hpw]
       simp only [plen, List.length_drop]
       omega
      rw [hpm] at h
      exact h
     ·refine Both.F (by rw [List.drop_zero, Int.toNat_natCast]; exact beq_false_of_ne he) ?_
      (conv => whnf); repeat ((first | (apply And.intro;· exact Cl4) | apply T1 | apply T2 | apply T3 | apply T4 | apply T6 | apply T5); conv => whnf)
      rw [wrap64 (n := (i : Int) + 1) (by omega) (by omega)]
      refine ⟨[], i + 1, ⟨hix, by rw [hin]; exact preW_step hiw (by rw [hw]; exact he)⟩, by show 5 - (i + 1) < 5 - i; omega, ?_⟩
      simp [meets, ghosts, St.le, St.get, look, keys, PV.labs, labsL, lookB, Blk.labs])
   ·have hd : decide ((w.length : Int) ≤ (t.length : Int)) = false := decide_eq_false (by omega)
    have he : t.take w.length ≠ w := fun he => by have := congrArg List.length he; rw [List.length_take] at this; omega
    (conv => whnf); repeat ((first | (apply And.intro;· exact Cl4) | apply T1 | apply T2 | apply T3 | apply T4 | apply T6 | apply T5); conv => whnf)
    (conv => whnf); repeat' (first | ((first | (apply And.intro;· exact Cl4) | apply T1 | apply T2 | apply T3 | apply T4 | apply T6 | apply T5); conv => whnf) | (rw [hq]; conv => whnf) | (rw [hd]; conv => whnf) | ((refine Both.mk ?_ ?_ <;> fail_if_success (intro _)) <;> conv => whnf))
    all_goals (
     (conv => whnf); repeat ((first | (apply And.intro;· exact Cl4) | apply T1 | apply T2 | apply T3 | apply T4 | apply T6 | apply T5); conv => whnf)
     rw [wrap64 (n := (i : Int) + 1) (by omega) (by omega)]
     refine ⟨[], i + 1, ⟨hix, by rw [hin]; exact preW_step hiw (by rw [hw]; exact he)⟩, by show 5 - (i + 1) < 5 - i; omega, ?_⟩
     simp [meets, ghosts, St.le, St.get, look, keys, PV.labs, labsL, lookB, Blk.labs])
  ·obtain rfl : i = 5 := by omega
   rw [decide_eq_false (show ¬ ((5 : Nat) : Int) < ((5 : Nat) : Int) by omega)]
   have hpre : preW t wordsR = none := hin
   clear hin hi hix
   (conv => whnf); repeat ((first | (apply And.intro;· exact Cl4) | apply T1 | apply T2 | apply T3 | apply T4 | apply T6 | apply T5); conv => whnf)
   by_cases hl : 1 < t.length
   rotate_left
   ·rw [part_short hpre (by omega)] at h
    rw [decide_eq_false (show ¬ 1 < (t.length : Int) by omega)]
    (conv => whnf); repeat ((first | (apply And.intro;· exact Cl4) | apply T1 | apply T2 | apply T3 | apply T4 | apply T6 | apply T5); conv => whnf)
    rw [decide_eq_false (show ¬ 1 < (t.length : Int) by omega)]
    (conv => whnf); repeat ((first | (apply And.intro;· exact Cl4) | apply T1 | apply T2 | apply T3 | apply T4 | apply T6 | apply T5); conv => whnf)
    exact h
   rw [decide_eq_true (show 1 < (t.length : Int) by omega)]
   (conv => whnf); repeat ((first | (apply And.intro;· exact Cl4) | apply T1 | apply T2 | apply T3 | apply T4 | apply T6 | apply T5); conv => whnf)
   obtain ⟨c, r, rfl⟩ : ∃ c r, t = c :: r := by cases t with | nil => simp at hl | cons c r => exact ⟨c, r, rfl⟩
   have hrl : r ≠ [] := fun e => by subst e; simp at hl
   have h0 : (List.getD (c :: r) (Int.toNat 0) 0) = c := rfl
   rw [h0]
   simp only [List.length_cons] at hm ht
   by_cases h91 : c = 91
   ·subst h91
    refine Both.T (by rfl) ?_
    (conv => whnf); repeat ((first | (apply And.intro;· exact Cl4) | apply T1 | apply T2 | apply T3 | apply T4 | apply T6 | apply T5); conv => whnf)
    have hdr : List.drop (Int.toNat 1) (List.take (91 :: r).length (91 :: r)) = r := by rw [List.take_length]; rfl
    rw [hdr]
    refine hP r (by omega) (by omega) _ ?_
    rw [part_91] at h
    cases hpm : partM m r with
    | none =>
     rw [hpm] at h
     rw [show plen r none = 0 from rfl]
     (conv => whnf); repeat ((first | (apply And.intro;· exact Cl4) | apply T1 | apply T2 | apply T3 | apply T4 | apply T6 | apply T5); conv => whnf)
     exact h
    | some l =>
     obtain ⟨w, hw0, rfl⟩ := (part_suf m).1 _ _ hpm
     have hk : plen (w ++ l) (some l) = w.length := by simp only [plen, List.length_append]; omega
     have hwl : 0 < w.length := Nat.pos_of_ne_zero fun e => hw0 (List.length_eq_zero_iff.1 e)
     simp only [List.length_append] at hm ht
     rw [hpm] at h
     rw [hk]
     clear hk hpm hdr
     (conv => whnf); repeat ((first | (apply And.intro;· exact Cl4) | apply T1 | apply T2 | apply T3 | apply T4 | apply T6 | apply T5); conv => whnf)
     rw [decide_eq_true (show 0 < (w.length : Int) by omega)]
     (conv => whnf); repeat ((first | (apply And.intro;· exact Cl4) | apply T1 | apply T2 | apply T3 | apply T4 | apply T6 | apply T5); conv => whnf)
     rw [wrap64 (n := 1 + (w.length : Int)) (by omega) (by omega)]
     cases l with
     | nil =>
      rw [decide_eq_false (show ¬ 1 + (w.length : Int) < ((91 :: (w ++ [])).length : Int) by rw [List.append_nil, List.length_cons]; omega)]
      (conv => whnf); repeat ((first | (apply And.intro;· exact Cl4) | apply T1 | apply T2 | apply T3 | apply T4 | apply T6 | apply T5); conv => whnf)
      exact h
     | cons d l' =>
      simp only [List.length_cons] at hm ht
      have hlen : (91 :: (w ++ d :: l')).length = w.length + l'.length + 2 := by simp only [List.length_cons, List.length_append]; omega
      rw [decide_eq_true (show 1 + (w.length : Int) < ((91 :: (w ++ d :: l')).length : Int) by rw [List.length_cons, List.length_append, List.length_cons]; omega)]
      (conv => whnf); repeat ((first | (apply And.intro;· exact Cl4) | apply T1 | apply T2 | apply T3 | apply T4 | apply T6 | apply T5); conv => whnf)
      have hgd : List.getD (91 :: (w ++ d :: l')) (1 + (w.length : Int)).toNat 0 = d := by
       rw [show (1 + (w.length : Int)).toNat = w.length + 1 by omega, List.getD_cons_succ, List.getD_eq_getElem?_getD, List.getElem?_append_right (Nat.le_refl _), Nat.sub_self]; rfl
      rw [hgd]
      by_cases h93 : d = 93
      ·subst h93
       refine Both.T (by rfl) ?_
       (conv => whnf); repeat ((first | (apply And.intro;· exact Cl4) | apply T1 | apply T2 | apply T3 | apply T4 | apply T6 | apply T5); conv => whnf)
       rw [wrap64 (n := (w.length : Int) + 2) (by omega) (by omega)]
       have hk : plen (91 :: (w ++ 93 :: l')) (some l') = w.length + 2 := by simp only [plen, List.length_append, List.length_cons]; omega
       rw [← hk]
       exact h
      ·have n93 : ((d.toNat : Int) == 93) = false := by rw [show ((93 : Int)) = ((93 : Nat) : Int) from rfl, u8_eq d 93 (by omega)]; exact beq_false_of_ne h93
       rw [n93]
       (conv => whnf); repeat ((first | (apply And.intro;· exact Cl4) | apply T1 | apply T2 | apply T3 | apply T4 | apply T6 | apply T5); conv => whnf)
       split at h
       ·rename_i he; exact absurd (List.cons.inj (Option.some.inj he)).1 h93
       ·exact h
   have n91 : ((c.toNat : Int) == 91) = false := by rw [show ((91 : Int)) = ((91 : Nat) : Int) from rfl, u8_eq c 91 (by omega)]; exact beq_false_of_ne h91
   rw [n91]
   (conv => whnf); repeat ((first | (apply And.intro;· exact Cl4) | apply T1 | apply T2 | apply T3 | apply T4 | apply T6 | apply T5); conv => whnf)
   rw [decide_eq_true (show 1 < ((c :: r).length : Int) by omega)]
   (conv => whnf); repeat ((first | (apply And.intro;· exact Cl4) | apply T1 | apply T2 | apply T3 | apply T4 | apply T6 | apply T5); conv => whnf)
   rw [h0]
   by_cases h123 : c = 123
   ·subst h123
    refine Both.T (by rfl) ?_
    (conv => whnf); repeat ((first | (apply And.intro;· exact Cl4) | apply T1 | apply T2 | apply T3 | apply T4 | apply T6 | apply T5); conv => whnf)
    refine hR r hrl (by omega) (by omega) _ ?_
    (conv => whnf); repeat ((first | (apply And.intro;· exact Cl4) | apply T1 | apply T2 | apply T3 | apply T4 | apply T6 | apply T5); conv => whnf)
    rw [part_123] at h
    split at h
    ·rename_i hh
     rw [if_pos hh]
     have : plen (123 :: r) (some (List.drop 1 r)) = 2 := by
      have : r.length ≠ 0 := fun e => hrl (List.length_eq_zero_iff.1 e)
      simp only [plen, List.length_drop, List.length_cons]; omega
     rw [this] at h
     exact h
    ·rename_i hh
     rw [if_neg hh]
     exact h
   have n123 : ((c.toNat : Int) == 123) = false := by rw [show ((123 : Int)) = ((123 : Nat) : Int) from rfl, u8_eq c 123 (by omega)]; exact beq_false_of_ne h123
   rw [n123]
   (conv => whnf); repeat ((first | (apply And.intro;· exact Cl4) | apply T1 | apply T2 | apply T3 | apply T4 | apply T6 | apply T5); conv => whnf)
   rw [part_other hpre h91 h123] at h
   exact h
end Go.Vc
namespace Go.Vc
open Go Go.Proofs
set_option maxRecDepth 100000
theorem cut_eq {u : List UInt8} (h : (cutM u).2.2 = true) : u = (cutM u).1 ++ 58 :: (cutM u).2.1 := by
 unfold cutM at h ⊢
 by_cases h0 : 0 ≤ colon u
 ·rw [if_pos h0]
  have he : idxL (fun b => b == 58) u = ((colon u).toNat : Nat) := by rw [← colon_idx]; omega
  obtain ⟨hi, h2⟩ := idx_hit he
  have h3 : u[(colon u).toNat] = 58 := by simpa using h2
  show u = List.take _ u ++ 58 :: List.drop _ u
  rw [← h3, ← List.drop_eq_getElem_cons hi, List.take_append_drop]
 ·rw [if_neg h0] at h; exact absurd h (by simp)
theorem recP_eq (n : Nat) (last t : List UInt8) : recPM (n + 1) last t = if ((cutM t).2.2 && isName (cutM t).1 && !(Op.bytesLess (cutM t).1 last || (cutM t).1 == last)) = true then
   (match partM n (cutM t).2.1 with
   | some (125 :: l) => some l
   | some (44 :: r) => recPM n (cutM t).1 r
   | _ => none)
  else none := by
 conv => lhs; unfold recPM
 rfl
set_option maxHeartbeats 16000000 in
theorem recP_step (n : Nat) (hP : ∀ m, m < n → PartC m) : RecPC n := by
 intro r hr hn hl Post h
 refine is135.specW K_ok K_mix false (by simp) (by simp [keys]) ?_
 obtain ⟨a, r', rfl⟩ : ∃ a r', r = a :: r' := by cases r with | nil => exact absurd rfl hr | cons c r => exact ⟨c, r, rfl⟩
 have hlt : (123 :: a :: r').length = r'.length + 2 := rfl
 simp only [List.length_cons] at hn hl
 (conv => whnf); repeat ((first | (apply And.intro;· exact Cl4) | apply T1 | apply T2 | apply T3 | apply T4 | apply T6 | apply T5); conv => whnf)
 have h0 : (List.getD (123 :: a :: r') (Int.toNat 1) 0) = a := rfl
 rw [h0]
 by_cases h125 : a = 125
 ·subst h125
  refine Both.T (by rfl) ?_
  (conv => whnf); repeat ((first | (apply And.intro;· exact Cl4) | apply T1 | apply T2 | apply T3 | apply T4 | apply T6 | apply T5); conv => whnf)
  exact h
 have n125 : ((a.toNat : Int) == 125) = false := by rw [show ((125 : Int)) = ((125 : Nat) : Int) from rfl, u8_eq a 125 (by omega)]; exact beq_false_of_ne h125
 rw [n125]
 rw [if_neg (by intro e; exact h125 (Option.some.inj e))] at h
 (conv => whnf); repeat ((first | (apply And.intro;· exact Cl4) | apply T1 | apply T2 | apply T3 | apply T4 | apply T6 | apply T5); conv => whnf)
 refine ⟨Nat × List UInt8 × List UInt8 × List UInt8, fun x => ⟨64, [(4, .int .i64 x.2.2.1.length), (3, .str x.2.1), (2, .int .i64 0), (0, .str (123 :: a :: r'))], [], []⟩,
  fun x => x.1 ≤ n ∧ 2 * x.2.2.2.length ≤ x.1 ∧ Post (.int .i64 (plen (123 :: a :: r') (recPM x.1 x.2.1 x.2.2.2))) [] ∧ 123 :: a :: r' = x.2.2.1 ++ x.2.2.2, fun x => x.2.2.2.length, ⟨[], (n, [], [123], a :: r'), ⟨Nat.le_refl _, by show 2 * (a :: r').length ≤ n; simp only [List.length_cons]; omega, h, rfl⟩, ?_⟩, fun x hI => ?_⟩
 ·simp [meets, ghosts, St.le, St.get, look, keys, PV.labs, labsL, lookB, Blk.labs]
 ·obtain ⟨m, last, w, u⟩ := x
  clear h
  obtain ⟨hmn, hmu, h, ht⟩ := hI
  simp only at hmn hmu h ht
  rw [ht] at h
  have htl : (w ++ u).length ≤ 1000001 := by rw [← ht]; simp only [List.length_cons]; omega
  rw [List.length_append] at htl
  conv => (arg 5; dsimp only)
  rw [ht]
  (conv => whnf); repeat ((first | (apply And.intro;· exact Cl4) | apply T1 | apply T2 | apply T3 | apply T4 | apply T6 | apply T5); conv => whnf)
  cases hu : u with
  | nil =>
   have hd : decide ((w.length : Int) < ((w ++ u).length : Int)) = false := decide_eq_false (by rw [List.length_append, hu, List.length_nil]; omega)
   rw [← hu, hd]
   (conv => whnf); repeat ((first | (apply And.intro;· exact Cl4) | apply T1 | apply T2 | apply T3 | apply T4 | apply T6 | apply T5); conv => whnf)
   rw [hu, recP_nil] at h
   exact h
  | cons b u' =>
   rw [← hu]
   have hul : 0 < u.length := by rw [hu]; simp
   have hd : decide ((w.length : Int) < ((w ++ u).length : Int)) = true := decide_eq_true (by rw [List.length_append]; omega)
   rw [hd]
   obtain ⟨m', rfl⟩ : ∃ m', m = m' + 1 := ⟨m - 1, by omega⟩
   rw [recP_eq] at h
   have hlen : (w ++ u).length = w.length + u.length := List.length_append
   have hdr : List.drop (w.length : Int).toNat (List.take (w ++ u).length (w ++ u)) = u := by rw [List.take_length, Int.toNat_natCast, List.drop_left]
   (conv => whnf); repeat ((first | (apply And.intro;· exact Cl4) | apply T1 | apply T2 | apply T3 | apply T4 | apply T6 | apply T5); conv => whnf)
   rw [hdr]
   refine fieldR_spec u (by omega) _ ?_
   unfold fieldR
   cases hc : (cutM u).2.2
   ·rw [if_neg (by simp)]
    rw [if_neg (by rw [hc]; simp)] at h
    (conv => whnf); repeat ((first | (apply And.intro;· exact Cl4) | apply T1 | apply T2 | apply T3 | apply T4 | apply T6 | apply T5); conv => whnf)
    exact h
   ·rw [if_pos rfl]
    rw [hc] at h
    have hcu := cut_eq hc
    generalize (cutM u).1 = nm at h hcu
    generalize (cutM u).2.1 = rest at h hcu
    cases hnm : isName nm
    ·rw [if_neg (by rw [hnm]; simp)] at h
     (conv => whnf); repeat ((first | (apply And.intro;· exact Cl4) | apply T1 | apply T2 | apply T3 | apply T4 | apply T6 | apply T5); conv => whnf)
     exact h
    (conv => whnf); repeat ((first | (apply And.intro;· exact Cl4) | apply T1 | apply T2 | apply T3 | apply T4 | apply T6 | apply T5); conv => whnf)
    rw [hnm, Bool.true_and, Bool.true_and] at h
    cases hle : (Op.bytesLess nm last || nm == last)
    rotate_left
    ·rw [if_neg (by rw [hle]; simp)] at h
     refine Both.T (by rfl) ?_
     (conv => whnf); repeat ((first | (apply And.intro;· exact Cl4) | apply T1 | apply T2 | apply T3 | apply T4 | apply T6 | apply T5); conv => whnf)
     exact h
    rw [if_pos (by rw [hle]; rfl)] at h
    refine Both.F (by rfl) ?_
    (conv => whnf); repeat ((first | (apply And.intro;· exact Cl4) | apply T1 | apply T2 | apply T3 | apply T4 | apply T6 | apply T5); conv => whnf)
    have hul2 : u.length = nm.length + rest.length + 1 := by rw [hcu, List.length_append, List.length_cons]; omega
    rw [wrap64 (n := (w.length : Int) + ((nm.length : Int) + 1)) (by omega) (by omega)]
    obtain ⟨W, hW, hWl⟩ : ∃ W : List UInt8, w ++ u = W ++ rest ∧ W.length = w.length + nm.length + 1 := ⟨w ++ nm ++ [58], by rw [hcu]; simp, by simp only [List.length_append, List.length_singleton]⟩
    rw [show (w.length : Int) + ((nm.length : Int) + 1) = (W.length : Int) by omega]
    rw [hW] at h ht hlen ⊢
    have hdr2 : List.drop (W.length : Int).toNat (List.take (W ++ rest).length (W ++ rest)) = rest := by rw [List.take_length, Int.toNat_natCast, List.drop_left]
    (conv => whnf); repeat ((first | (apply And.intro;· exact Cl4) | apply T1 | apply T2 | apply T3 | apply T4 | apply T6 | apply T5); conv => whnf)
    rw [hdr2]
    refine hP m' (by omega) rest (by omega) (by omega) _ ?_
    cases hpm : partM m' rest with
    | none =>
     rw [hpm] at h
     rw [show plen rest none = 0 from rfl]
     (conv => whnf); repeat ((first | (apply And.intro;· exact Cl4) | apply T1 | apply T2 | apply T3 | apply T4 | apply T6 | apply T5); conv => whnf)
     exact h
    | some l =>
    obtain ⟨v, hv0, rfl⟩ := (part_suf m').1 _ _ hpm
    have hk : plen (v ++ l) (some l) = v.length := by simp only [plen, List.length_append]; omega
    have hvl : 0 < v.length := Nat.pos_of_ne_zero fun e => hv0 (List.length_eq_zero_iff.1 e)
    rw [hpm] at h
    rw [hk]
    simp only [List.length_append] at hlen hul2
    (conv => whnf); repeat ((first | (apply And.intro;· exact Cl4) | apply T1 | apply T2 | apply T3 | apply T4 | apply T6 | apply T5); conv => whnf)
    rw [show ((v.length : Int) == 0) = false by simp; omega, wrap64 (n := (W.length : Int) + (v.length : Int)) (by omega) (by omega)]
    have hlen2 : (W ++ (v ++ l)).length = W.length + v.length + l.length := by simp only [List.length_append]; omega
    cases l with
    | nil =>
     have hd3 : decide (((W ++ (v ++ ([] : List UInt8))).length : Int) ≤ (W.length : Int) + (v.length : Int)) = true := decide_eq_true (by rw [hlen2, List.length_nil]; omega)
     rw [hd3]
     (conv => whnf); repeat ((first | (apply And.intro;· exact Cl4) | apply T1 | apply T2 | apply T3 | apply T4 | apply T6 | apply T5); conv => whnf)
     exact h
    | cons d l' =>
    rw [List.length_cons] at hlen2
    have hd3 : decide (((W ++ (v ++ d :: l')).length : Int) ≤ (W.length : Int) + (v.length : Int)) = false := decide_eq_false (by rw [hlen2]; omega)
    rw [hd3]
    (conv => whnf); repeat ((first | (apply And.intro;· exact Cl4) | apply T1 | apply T2 | apply T3 | apply T4 | apply T6 | apply T5); conv => whnf)
    have hgd : List.getD (W ++ (v ++ d :: l')) ((W.length : Int) + (v.length : Int)).toNat 0 = d := by
     rw [show ((W.length : Int) + (v.length : Int)).toNat = (W ++ v).length by rw [List.length_append]; omega, ← List.append_assoc, List.getD_eq_getElem?_getD, List.getElem?_append_right (Nat.le_refl _), Nat.sub_self]; rfl
    rw [wrap64 (n := (W.length : Int) + (v.length : Int)) (by omega) (by omega)]
    (conv => whnf); repeat ((first | (apply And.intro;· exact Cl4) | apply T1 | apply T2 | apply T3 | apply T4 | apply T6 | apply T5); conv => whnf)
    rw [hgd]
    by_cases h1 : d = 125
    ·subst h1
     refine Both.T (by rfl) ?_
     (conv => whnf); repeat ((first | (apply And.intro;· exact Cl4) | apply T1 | apply T2 | apply T3 | apply T4 | apply T6 | apply T5); conv => whnf)
     rw [wrap64 (n := (W.length : Int) + (v.length : Int) + 1) (by omega) (by omega)]
     have hk : plen (W ++ (v ++ 125 :: l')) (some l') = (W.length : Int) + (v.length : Int) + 1 := by simp only [plen, hlen2]; omega
     rw [← hk]
     exact h
    rw [show ((d.toNat : Int) == 125) = false by rw [show ((125 : Int)) = ((125 : Nat) : Int) from rfl, u8_eq d 125 (by omega)]; exact beq_false_of_ne h1]
    (conv => whnf); repeat ((first | (apply And.intro;· exact Cl4) | apply T1 | apply T2 | apply T3 | apply T4 | apply T6 | apply T5); conv => whnf)
    rw [hgd]
    by_cases h2 : d = 44
    rotate_left
    ·rw [show ((d.toNat : Int) != 44) = true by
      have : ((d.toNat : Int) == 44) = false := by rw [show ((44 : Int)) = ((44 : Nat) : Int) from rfl, u8_eq d 44 (by omega)]; exact beq_false_of_ne h2
      unfold bne; rw [this]; rfl]
     (conv => whnf); repeat ((first | (apply And.intro;· exact Cl4) | apply T1 | apply T2 | apply T3 | apply T4 | apply T6 | apply T5); conv => whnf)
     split at h
     ·rename_i he; exact absurd (List.cons.inj (Option.some.inj he)).1 h1
     ·rename_i he; exact absurd (List.cons.inj (Option.some.inj he)).1 h2
     ·exact h
    subst h2
    refine Both.F (by rfl) ?_
    (conv => whnf); repeat ((first | (apply And.intro;· exact Cl4) | apply T1 | apply T2 | apply T3 | apply T4 | apply T6 | apply T5); conv => whnf)
    rw [wrap64 (n := (W.length : Int) + (v.length : Int) + 1) (by omega) (by omega)]
    refine ⟨[], (m', nm, W ++ v ++ [44], l'), ⟨by show m' ≤ n; omega, by show 2 * l'.length ≤ m'; simp only [List.length_cons] at hul2; omega, by exact h, by show W ++ (v ++ 44 :: l') = W ++ v ++ [44] ++ l'; simp⟩, by show l'.length < u.length; simp only [List.length_cons] at hul2; omega, ?_⟩
    simp [meets, ghosts, St.le, St.get, look, keys, PV.labs, labsL, lookB, Blk.labs]
    omega
theorem part_upto : ∀ n m, m ≤ n → PartC m ∧ RecPC m
 | 0, m, h => by
  obtain rfl : m = 0 := by omega
  exact ⟨fun t h => absurd h (by omega), fun r hr h => absurd h (by have : r.length ≠ 0 := fun e => hr (List.length_eq_zero_iff.1 e); omega)⟩
 | n + 1, m, h => by
  have ih := part_upto n
  by_cases hm : m ≤ n
  ·exact ih m hm
  ·obtain rfl : m = n + 1 := by omega
   exact ⟨part_step n (ih n (Nat.le_refl _)).1 (ih n (Nat.le_refl _)).2, recP_step (n + 1) fun k hk => (ih k (by omega)).1⟩
theorem fitsR_spec : FitsR := by
 intro s hs Post h
 refine is107.specW K_ok K_mix false (by simp) (by simp [keys]) ?_
 rw [fits_part] at h
 (conv => whnf); repeat ((first | (apply And.intro;· exact Cl4) | apply T1 | apply T2 | apply T3 | apply T4 | apply T6 | apply T5); conv => whnf)
 cases hsn : s with
 | nil =>
  subst hsn
  rw [part_nil] at h
  (conv => whnf); repeat ((first | (apply And.intro;· exact Cl4) | apply T1 | apply T2 | apply T3 | apply T4 | apply T6 | apply T5); conv => whnf)
  exact h
 | cons c r =>
 have hl : 0 < s.length := by rw [hsn]; simp
 rw [← hsn]
 rw [decide_eq_true (show 0 < (s.length : Int) by omega)]
 (conv => whnf); repeat ((first | (apply And.intro;· exact Cl4) | apply T1 | apply T2 | apply T3 | apply T4 | apply T6 | apply T5); conv => whnf)
 by_cases h64 : s.length ≤ 64
 rotate_left
 ·rw [decide_eq_false h64] at h
  rw [decide_eq_false (show ¬ (s.length : Int) ≤ 64 by omega)]
  (conv => whnf); repeat ((first | (apply And.intro;· exact Cl4) | apply T1 | apply T2 | apply T3 | apply T4 | apply T6 | apply T5); conv => whnf)
  exact h
 rw [decide_eq_true h64, Bool.true_and] at h
 rw [decide_eq_true (show (s.length : Int) ≤ 64 by omega)]
 (conv => whnf); repeat ((first | (apply And.intro;· exact Cl4) | apply T1 | apply T2 | apply T3 | apply T4 | apply T6 | apply T5); conv => whnf)
 refine (part_upto _ (2 * s.length + 1) (Nat.le_refl _)).1 s (Nat.le_refl _) (by omega) _ ?_
 have hk : (plen s (partM (2 * s.length + 1) s) == (s.length : Int)) = (partM (2 * s.length + 1) s == some []) := by
  cases hp : partM (2 * s.length + 1) s with
  | none =>
   rw [Bool.eq_iff_iff, beq_iff_eq]
   simp only [plen]
   constructor
   ·intro h; omega
   ·intro h; cases h
  | some l =>
   obtain ⟨w, _, hw⟩ := (part_suf _).1 _ _ hp
   have := congrArg List.length hw
   rw [List.length_append] at this
   rw [Bool.eq_iff_iff, beq_iff_eq, beq_iff_eq]
   simp only [plen]
   constructor
   ·intro h
    have : l.length = 0 := by omega
    rw [List.length_eq_zero_iff.1 this]
   ·intro h
    rw [Option.some.inj h]; simp
 rw [← hk] at h
 (conv => whnf); repeat ((first | (apply And.intro;· exact Cl4) | apply T1 | apply T2 | apply T3 | apply T4 | apply T6 | apply T5); conv => whnf)
 exact h
end Go.Vc
