/- What is proved here: contracts of functions of the program: of each function what it hands back and what it leaves in memory. Conditions: those that each theorem names. -/
import Derived.Test.YtmbopgmllnijjaaGreatTBk
import Derived.Test.YtmbopgmllnijjaaGreatTBi
import Derived.Test.YtmbopgmllnijjaaGreatTBh
import Derived.Test.YtmbopgmllnijjaaGreatTAr
import Derived.Test.YtmbopgmllnijjaaGreatTAu
set_option linter.unusedVariables false
set_option linter.unusedSimpArgs false
set_option linter.unusedSectionVars false
namespace Go.Vc
open Go Go.Proofs
set_option maxRecDepth 100000
theorem copyB_own (a : List UInt8) (z : Nat) (t : Bool) (ha : a.length ≤ 1000000000) (Post : PV → List (Nat × Blk) → Prop) (h : Post (.ref 1 0 0 a.length) [(0, .row 5 1 (bs a) true)]) : Spec K 22 [.sl z (bs a) t true] [] Post := by
 refine is22.specW K_ok K_mix true (by simp) (by simp [keys]) ?_
 (conv => whnf); repeat ((apply And.intro;· exact Cl1); conv => whnf)
 refine ⟨by rw [bs_len]; show a.length * 2 ≤ _; omega, ?_⟩
 (conv => whnf); repeat ((apply And.intro;· exact Cl1); conv => whnf)
 rw [bs_len]
 exact h
theorem PGAz : PGA ⟨[], []⟩ 0 [] 0 [] := ⟨rfl, rfl, .inr rfl, .inr rfl, by show (0 : Nat) ≤ _; omega, by show (0 : Nat) ≤ _; omega, fun f hf => (by cases hf), fun v hv => (by cases hv)⟩
theorem bs_set (c : List UInt8) (i : Nat) (x : UInt8) : (bs c).set i (.int .u8 x.toNat) = bs (c.set i x) := by
 unfold bs
 rw [List.map_set]
set_option maxHeartbeats 32000000 in
theorem parses_law (hF : FitsC) (hW : WorksD) (hS : SameC) (b : List UInt8) (z : Nat) (t : Bool) (hz : z = 1 ∨ b = []) (hb : b.length ≤ 2000000) : CSpec K 7 [.sl z (bs b) t true] [] LawPost := by
 refine is7.cspecC [35] K_ok K_mix false (by simp) (by simp [keys]) ?_
 have hz2 : z = 1 ∨ bs b = [] := hz.imp id fun h => by rw [h]; rfl
 (conv => whnf); repeat ((first | (apply And.intro;· exact Cl4) | apply T1 | apply T2 | apply T3 | apply T4 | apply T6 | apply T5); conv => whnf)
 refine copyB_own b z t (by omega) _ ?_
 have htk : List.take b.length (List.drop 0 (bs b)) = bs b := by rw [List.drop_zero, tkb]
 (conv => whnf); repeat ((first | (apply And.intro;· exact Cl4) | apply T1 | apply T2 | apply T3 | apply T4 | apply T6 | apply T5); conv => whnf)
 rw [htk]
 refine parse_specN hF b 1 _ (.inl rfl) (by omega) _ (fun e he hne => ?_) (fun p lf lc z1 z2 hpr hp => ?_)
 ·(conv => whnf); repeat ((first | (apply And.intro;· exact Cl4) | apply T1 | apply T2 | apply T3 | apply T4 | apply T6 | apply T5); conv => whnf)
  refine parseR_spec b z t hz (by omega) _ (fun e' he' _ => ?_) (fun p lf lc z1 z2 hpr _ => by rw [he] at hpr; cases hpr)
  obtain rfl : e = e' := by rw [he] at he'; cases he'; rfl
  (conv => whnf); repeat ((first | (apply And.intro;· exact Cl4) | apply T1 | apply T2 | apply T3 | apply T4 | apply T6 | apply T5); conv => whnf)
  refine hS ⟨[], []⟩ _ _ _ _ _ _ _ _ _ _ _ _ PGAz PGAz _ ?_
  (conv => whnf); repeat ((first | (apply And.intro;· exact Cl4) | apply T1 | apply T2 | apply T3 | apply T4 | apply T6 | apply T5); conv => whnf)
  rw [show (e != e) = false by simp]
  (conv => whnf); repeat ((first | (apply And.intro;· exact Cl4) | apply T1 | apply T2 | apply T3 | apply T4 | apply T6 | apply T5); conv => whnf)
  rw [htk]
  refine eq_spec b b 1 z _ _ _ _ (.inl rfl) hz2 (by omega) _ ?_
  rw [beq_self_eq_true]
  (conv => whnf); repeat ((first | (apply And.intro;· exact Cl4) | apply T1 | apply T2 | apply T3 | apply T4 | apply T6 | apply T5); conv => whnf)
  refine ⟨PG × Nat × List PV × Nat × List PV × Nat × List PV × Nat × List PV, fun x => ⟨56, [(6, .ptr 2 0), (4, .ptr 1 0), (3, .ref 1 0 0 b.length), (2, .bool false)], [(0, .row 5 1 (bs b) true), (1, .box [.sl x.2.1 x.2.2.1 false false, .sl x.2.2.2.1 x.2.2.2.2.1 false false]), (2, .box [.sl x.2.2.2.2.2.1 x.2.2.2.2.2.2.1 false true, .sl x.2.2.2.2.2.2.2.1 x.2.2.2.2.2.2.2.2 false true])], []⟩, fun x => PGA x.1 x.2.1 x.2.2.1 x.2.2.2.1 x.2.2.2.2.1 ∧ PGA x.1 x.2.2.2.2.2.1 x.2.2.2.2.2.2.1 x.2.2.2.2.2.2.2.1 x.2.2.2.2.2.2.2.2, ?_, fun x hx => ?_⟩
  ·(conv => whnf); repeat ((first | (apply And.intro;· exact Cl4) | apply T1 | apply T2 | apply T3 | apply T4 | apply T6 | apply T5); conv => whnf)
   refine ⟨[], (⟨[], []⟩, 0, [], 0, [], 0, [], 0, []), ⟨PGAz, PGAz⟩, ?_⟩
   simp [meets, ghosts, St.le, St.get, look, keys, PV.labs, labsL, lookB, Blk.labs]
  obtain ⟨q, x1, M, x2, N, w1, M', w2, N'⟩ := x
  obtain ⟨g1, g2⟩ := hx
  simp only at g1 g2
  conv => (arg 4; dsimp only)
  (conv => whnf); repeat ((first | (apply And.intro;· exact Cl4) | apply T1 | apply T2 | apply T3 | apply T4 | apply T6 | apply T5); conv => whnf)
  refine ⟨Nat × List UInt8, fun y => ⟨56, [(8, .int .i64 y.1), (6, .ptr 2 0), (4, .ptr 1 0), (3, .ref 1 0 0 b.length), (2, .bool false)], [(0, .row 5 1 (bs y.2) true), (1, .box [.sl x1 M false false, .sl x2 N false false]), (2, .box [.sl w1 M' false true, .sl w2 N' false true])], []⟩, fun y => y.1 ≤ b.length ∧ y.2.length = b.length, fun y => b.length - y.1, ⟨[], (0, b), ⟨Nat.zero_le _, rfl⟩, ?_⟩, fun y hy => ?_⟩
  ·simp [meets, ghosts, St.le, St.get, look, keys, PV.labs, labsL, lookB, Blk.labs]
  obtain ⟨i, c⟩ := y
  obtain ⟨hi, hcl⟩ := hy
  simp only at hi hcl
  conv => (arg 5; dsimp only)
  (conv => whnf); repeat ((first | (apply And.intro;· exact Cl4) | apply T1 | apply T2 | apply T3 | apply T4 | apply T6 | apply T5); conv => whnf)
  by_cases hix : i < b.length
  ·rw [decide_eq_true (show (i : Int) < (b.length : Int) by omega)]
   have hic : i < c.length := by omega
   have hq : nth (bs c) (0 + (i : Int).toNat) = .int .u8 c[i].toNat := by rw [Nat.zero_add, Int.toNat_natCast, nth_bs hic]
   have hbl := bs_len c
   (conv => whnf); repeat ((first | (apply And.intro;· exact Cl4) | apply T1 | apply T2 | apply T3 | apply T4 | apply T6 | apply T5); conv => whnf)
   rw [hq]
   (conv => whnf); repeat ((first | (apply And.intro;· exact Cl4) | apply T1 | apply T2 | apply T3 | apply T4 | apply T6 | apply T5); conv => whnf)
   have hput : putElem (nth (bs c) (0 + (i : Int).toNat)) 0 [PV.int IntKind.u8 (IntKind.u8.wrap ((c[i].toNat : Int) + 1))] = .int .u8 (ub ((c[i].toNat : Int) + 1)).toNat := by rw [hq, wrapub]; rfl
   rw [hput, bs_set, wrap64 (n := (i : Int) + 1) (by omega) (by omega)]
   refine ⟨[], (i + 1, c.set (0 + (i : Int).toNat) (ub ((c[i].toNat : Int) + 1))), ⟨hix, by show (c.set _ _).length = _; rw [List.length_set]; exact hcl⟩, by show b.length - (i + 1) < b.length - i; omega, ?_⟩
   simp [meets, ghosts, St.le, St.get, look, keys, PV.labs, labsL, lookB, Blk.labs]
  ·obtain rfl : i = b.length := by omega
   rw [decide_eq_false (show ¬ (b.length : Int) < (b.length : Int) by omega)]
   (conv => whnf); repeat ((first | (apply And.intro;· exact Cl4) | apply T1 | apply T2 | apply T3 | apply T4 | apply T6 | apply T5); conv => whnf)
   refine hS q _ _ _ _ _ _ _ _ _ _ _ _ g1 g2 _ ?_
   (conv => whnf); repeat ((first | (apply And.intro;· exact Cl4) | apply T1 | apply T2 | apply T3 | apply T4 | apply T6 | apply T5); conv => whnf)
   refine hW _ ?_
   (conv => whnf); repeat ((first | (apply And.intro;· exact Cl4) | apply T1 | apply T2 | apply T3 | apply T4 | apply T6 | apply T5); conv => whnf)
 ·(conv => whnf); repeat ((first | (apply And.intro;· exact Cl4) | apply T1 | apply T2 | apply T3 | apply T4 | apply T6 | apply T5); conv => whnf)
  refine parseR_spec b z t hz (by omega) _ (fun e' he' _ => by rw [hpr] at he'; cases he') (fun p' mf mc y1 y2 hpr' hp' => ?_)
  obtain rfl : p = p' := by rw [hpr] at hpr'; cases hpr'; rfl
  (conv => whnf); repeat ((first | (apply And.intro;· exact Cl4) | apply T1 | apply T2 | apply T3 | apply T4 | apply T6 | apply T5); conv => whnf)
  refine hS p _ _ _ _ _ _ _ _ _ _ _ _ hp hp' _ ?_
  (conv => whnf); repeat ((first | (apply And.intro;· exact Cl4) | apply T1 | apply T2 | apply T3 | apply T4 | apply T6 | apply T5); conv => whnf)
  rw [htk]
  refine eq_spec b b 1 z _ _ _ _ (.inl rfl) hz2 (by omega) _ ?_
  rw [beq_self_eq_true]
  (conv => whnf); repeat ((first | (apply And.intro;· exact Cl4) | apply T1 | apply T2 | apply T3 | apply T4 | apply T6 | apply T5); conv => whnf)
  refine ⟨PG × Nat × List PV × Nat × List PV × Nat × List PV × Nat × List PV, fun x => ⟨56, [(6, .ptr 2 0), (4, .ptr 1 0), (3, .ref 1 0 0 b.length), (2, .bool false)], [(0, .row 5 1 (bs b) true), (1, .box [.sl x.2.1 x.2.2.1 false false, .sl x.2.2.2.1 x.2.2.2.2.1 false false]), (2, .box [.sl x.2.2.2.2.2.1 x.2.2.2.2.2.2.1 false true, .sl x.2.2.2.2.2.2.2.1 x.2.2.2.2.2.2.2.2 false true])], []⟩, fun x => PGA x.1 x.2.1 x.2.2.1 x.2.2.2.1 x.2.2.2.2.1 ∧ PGA x.1 x.2.2.2.2.2.1 x.2.2.2.2.2.2.1 x.2.2.2.2.2.2.2.1 x.2.2.2.2.2.2.2.2, ?_, fun x hx => ?_⟩
  ·(conv => whnf); repeat ((first | (apply And.intro;· exact Cl4) | apply T1 | apply T2 | apply T3 | apply T4 | apply T6 | apply T5); conv => whnf)
   refine ⟨[], (p, z1, lf, z2, lc, y1, mf, y2, mc), ⟨hp, hp'⟩, ?_⟩
   simp [meets, ghosts, St.le, St.get, look, keys, PV.labs, labsL, lookB, Blk.labs]
  obtain ⟨q, x1, M, x2, N, w1, M', w2, N'⟩ := x
  obtain ⟨g1, g2⟩ := hx
  simp only at g1 g2
  conv => (arg 4; dsimp only)
  (conv => whnf); repeat ((first | (apply And.intro;· exact Cl4) | apply T1 | apply T2 | apply T3 | apply T4 | apply T6 | apply T5); conv => whnf)
  refine ⟨Nat × List UInt8, fun y => ⟨56, [(8, .int .i64 y.1), (6, .ptr 2 0), (4, .ptr 1 0), (3, .ref 1 0 0 b.length), (2, .bool false)], [(0, .row 5 1 (bs y.2) true), (1, .box [.sl x1 M false false, .sl x2 N false false]), (2, .box [.sl w1 M' false true, .sl w2 N' false true])], []⟩, fun y => y.1 ≤ b.length ∧ y.2.length = b.length, fun y => b.length - y.1, ⟨[], (0, b), ⟨Nat.zero_le _, rfl⟩, ?_⟩, fun y hy => ?_⟩
  ·simp [meets, ghosts, St.le, St.get, look, keys, PV.labs, labsL, lookB, Blk.labs]
  obtain ⟨i, c⟩ := y
  obtain ⟨hi, hcl⟩ := hy
  simp only at hi hcl
  conv => (arg 5; dsimp only)
  (conv => whnf); repeat ((first | (apply And.intro;· exact Cl4) | apply T1 | apply T2 | apply T3 | apply T4 | apply T6 | apply T5); conv => whnf)
  by_cases hix : i < b.length
  ·rw [decide_eq_true (show (i : Int) < (b.length : Int) by omega)]
   have hic : i < c.length := by omega
   have hq : nth (bs c) (0 + (i : Int).toNat) = .int .u8 c[i].toNat := by rw [Nat.zero_add, Int.toNat_natCast, nth_bs hic]
   have hbl := bs_len c
   (conv => whnf); repeat ((first | (apply And.intro;· exact Cl4) | apply T1 | apply T2 | apply T3 | apply T4 | apply T6 | apply T5); conv => whnf)
   rw [hq]
   (conv => whnf); repeat ((first | (apply And.intro;· exact Cl4) | apply T1 | apply T2 | apply T3 | apply T4 | apply T6 | apply T5); conv => whnf)
   have hput : putElem (nth (bs c) (0 + (i : Int).toNat)) 0 [PV.int IntKind.u8 (IntKind.u8.wrap ((c[i].toNat : Int) + 1))] = .int .u8 (ub ((c[i].toNat : Int) + 1)).toNat := by rw [hq, wrapub]; rfl
   rw [hput, bs_set, wrap64 (n := (i : Int) + 1) (by omega) (by omega)]
   refine ⟨[], (i + 1, c.set (0 + (i : Int).toNat) (ub ((c[i].toNat : Int) + 1))), ⟨hix, by show (c.set _ _).length = _; rw [List.length_set]; exact hcl⟩, by show b.length - (i + 1) < b.length - i; omega, ?_⟩
   simp [meets, ghosts, St.le, St.get, look, keys, PV.labs, labsL, lookB, Blk.labs]
  ·obtain rfl : i = b.length := by omega
   rw [decide_eq_false (show ¬ (b.length : Int) < (b.length : Int) by omega)]
   (conv => whnf); repeat ((first | (apply And.intro;· exact Cl4) | apply T1 | apply T2 | apply T3 | apply T4 | apply T6 | apply T5); conv => whnf)
   refine hS q _ _ _ _ _ _ _ _ _ _ _ _ g1 g2 _ ?_
   (conv => whnf); repeat ((first | (apply And.intro;· exact Cl4) | apply T1 | apply T2 | apply T3 | apply T4 | apply T6 | apply T5); conv => whnf)
   refine hW _ ?_
   (conv => whnf); repeat ((first | (apply And.intro;· exact Cl4) | apply T1 | apply T2 | apply T3 | apply T4 | apply T6 | apply T5); conv => whnf)
end Go.Vc
namespace Go.Vc
open Go Go.Proofs
set_option maxRecDepth 100000
def slotsEq (s : St) : List (Nat × PV) → Prop
 | [] => True
 | (i, v) :: r => s.get i = v ∧ slotsEq s r
def heapEq (h : List (Nat × Blk)) : List (Nat × Blk) → Prop
 | [] => True
 | (i, b) :: r => lookB i h = some b ∧ heapEq h r
theorem slotsEq_mem {s : St} : ∀ {l : List (Nat × PV)}, slotsEq s l → ∀ p ∈ l, s.get p.1 = p.2
 | (i, v) :: r, h, p, hp => by
  rcases List.mem_cons.1 hp with rfl | hp
  ·exact h.1
  ·exact slotsEq_mem h.2 p hp
theorem heapEq_mem {h : List (Nat × Blk)} : ∀ {l : List (Nat × Blk)}, heapEq h l → ∀ p ∈ l, lookB p.1 h = some p.2
 | (i, v) :: r, h, p, hp => by
  rcases List.mem_cons.1 hp with rfl | hp
  ·exact h.1
  ·exact heapEq_mem h.2 p hp
def inB2 (l m : List Nat) : Bool := l.all fun i => m.any fun j => Nat.beq i j
theorem inB2_mem {l m : List Nat} (h : inB2 l m = true) : ∀ i ∈ l, i ∈ m := fun i hi => by
 obtain ⟨j, hj, e⟩ := List.any_eq_true.1 (List.all_eq_true.1 h i hi)
 rw [Nat.eq_of_beq_eq_true e]; exact hj
theorem meetsR {C : Ctx} {s s0 : St} (h1 : s0.n = s.n) (h2 : slotsEq s s0.slots) (h3 : heapEq s.heap s0.heap) (h4 : (s0.slots.all fun p => inB2 p.2.labs (keys s0.heap)) = true) (h5 : (s0.heap.all fun p => inB2 p.2.labs (keys s0.heap)) = true) (h6 : s0.kb = s.kb) (h7 : inB2 s.kb (keys s0.heap) = true) : meets C [] s s0 :=
 show s.le s0 from ⟨h1, slotsEq_mem h2, heapEq_mem h3, fun p hp => inB2_mem (List.all_eq_true.1 h4 p hp), fun p hp => inB2_mem (List.all_eq_true.1 h5 p hp), h6, inB2_mem h7⟩
theorem mR {C : Ctx} {s s0 : St} (h1 : s0.n = s.n := by rfl) (h2 : slotsEq s s0.slots := by repeat (first | exact trivial | refine ⟨rfl, ?_⟩)) (h3 : heapEq s.heap s0.heap := by repeat (first | exact trivial | refine ⟨rfl, ?_⟩)) (h4 : (s0.slots.all fun p => inB2 p.2.labs (keys s0.heap)) = true := by rfl) (h5 : (s0.heap.all fun p => inB2 p.2.labs (keys s0.heap)) = true := by rfl) (h6 : s0.kb = s.kb := by rfl) (h7 : inB2 s.kb (keys s0.heap) = true := by rfl) : meets C [] s s0 := meetsR h1 h2 h3 h4 h5 h6 h7
theorem cmpNs_refl : ∀ ns : List (List UInt8), cmpNs ns ns = 0
 | [] => rfl
 | s :: r => by
  have := cmpNs_refl r
  simp [cmpNs, this]
mutual
theorem cmpV_refl : ∀ v : V, cmpV v v = 0
 | .mk k n s l ns => by
  have := cmpVs_refl l
  have := cmpNs_refl ns
  rw [cmpV_mk]
  simp [*]
theorem cmpVs_refl : ∀ l : List V, cmpVs l l = 0
 | [] => by simp [cmpVs]
 | v :: r => by
  have := cmpV_refl v
  have := cmpVs_refl r
  simp [cmpVs, *]
end
theorem sameV_refl (v : V) : sameV v v = true := by unfold sameV; rw [cmpV_refl]; rfl
set_option maxHeartbeats 8000000 in
theorem sameAll_refl (l : List V) (z1 z2 : Nat) (lp mp : List PV) (t1 t2 : Bool) (h1 : VPs l lp) (h2 : VPs l mp) (g1 : z1 = 5 ∨ l = []) (g2 : z2 = 5 ∨ l = []) (hb : ∀ v ∈ l, i64 v.n ∧ bulkV v ≤ 1000000000) (hl : l.length ≤ 1000000000) (Post : PV → List (Nat × Blk) → Prop) (h : Post (.bool true) []) :
  Spec K 28 [.sl z1 lp t1 true, .sl z2 mp t2 true] [] Post := by
 refine is28.specC [17] K_ok K_mix false (by simp) (by simp [keys]) ?_
 have e1 := VPs_len h1
 have e2 := VPs_len h2
 have f1 : z1 = 5 ∨ lp = [] := g1.imp id fun h => by rw [h] at e1; exact List.length_eq_zero_iff.1 e1
 have f2 : z2 = 5 ∨ mp = [] := g2.imp id fun h => by rw [h] at e2; exact List.length_eq_zero_iff.1 e2
 (conv => whnf); repeat ((first | (apply And.intro;· exact Cl4) | apply T1 | apply T2 | apply T3 | apply T4 | apply T6 | apply T5); conv => whnf)
 rw [e1, e2, bne_self_eq_false]
 (conv => whnf); repeat ((first | (apply And.intro;· exact Cl4) | apply T1 | apply T2 | apply T3 | apply T4 | apply T6 | apply T5); conv => whnf)
 refine ⟨Nat, fun i => ⟨27, [(5, .int .i64 i), (1, .sl z2 mp t2 true), (0, .sl z1 lp t1 true)], [], []⟩, fun i => i ≤ l.length, fun i => l.length - i, ⟨[], 0, Nat.zero_le _, ?_⟩, fun i hi => ?_⟩
 ·simp [meets, ghosts, St.le, St.get, look, keys, PV.labs, labsL, lookB, Blk.labs]
 ·conv => (arg 5; dsimp only)
  (conv => whnf); repeat ((first | (apply And.intro;· exact Cl4) | apply T1 | apply T2 | apply T3 | apply T4 | apply T6 | apply T5); conv => whnf)
  rw [e1]
  by_cases hix : i < l.length
  ·rw [decide_eq_true (show (i : Int) < (l.length : Int) by omega)]
   have hm := List.getElem_mem hix
   obtain ⟨hn, hbv⟩ := hb _ hm
   obtain ⟨y1, ap, u1, o1, y2, u2, o2, hq, hv, r1, r2, r3⟩ := (VPs_nth h1 hix).out
   obtain ⟨x1, bp, v1, w1, x2, v2, w2, hq', hv', s1, s2, s3⟩ := (VPs_nth h2 hix).out
   have hs := sameV_refl l[i]
   generalize l[i] = v at *
   rw [← Int.toNat_natCast i] at hq hq'
   (conv => whnf); repeat ((first | (apply And.intro;· exact Cl4) | apply T1 | apply T2 | apply T3 | apply T4 | apply T6 | apply T5); conv => whnf)
   refine ⟨Unit, fun _ => ⟨27, [(26, .bool false), (5, .int .i64 i), (1, .sl z2 mp t2 true), (0, .sl z1 lp t1 true)], [], []⟩, fun _ => True, ?_, fun _ _ => ?_⟩
   ·(conv => whnf); repeat' (first | ((first | (apply And.intro;· exact Cl4) | apply T1 | apply T2 | apply T3 | apply T4 | apply T6 | apply T5); conv => whnf) | (rw [hq]; conv => whnf) | (rw [hq']; conv => whnf) | ((refine sameR_spec v v y1 y2 ap _ _ x1 x2 bp _ _ _ ⟨hv, r1, r2, r3, by omega⟩ ⟨hv', s1, s2, s3, by omega⟩ ?_; rw [hs]); conv => whnf) | ((refine Both.mk ?_ ?_ <;> fail_if_success (intro _)) <;> conv => whnf))
    all_goals (
     refine ⟨[], (), trivial, ?_⟩
     simp [meets, ghosts, St.le, St.get, look, keys, PV.labs, labsL, lookB, Blk.labs])
   conv => (arg 4; dsimp only)
   (conv => whnf); repeat ((first | (apply And.intro;· exact Cl4) | apply T1 | apply T2 | apply T3 | apply T4 | apply T6 | apply T5); conv => whnf)
   rw [wrap64 (n := (i : Int) + 1) (by omega) (by omega)]
   refine ⟨[], i + 1, hix, by show l.length - (i + 1) < l.length - i; omega, ?_⟩
   simp [meets, ghosts, St.le, St.get, look, keys, PV.labs, labsL, lookB, Blk.labs]
  ·obtain rfl : i = l.length := by omega
   rw [decide_eq_false (show ¬ (l.length : Int) < (l.length : Int) by omega)]
   (conv => whnf); repeat ((first | (apply And.intro;· exact Cl4) | apply T1 | apply T2 | apply T3 | apply T4 | apply T6 | apply T5); conv => whnf)
   exact h
end Go.Vc
