/- What is proved here: contracts of functions of the program: of each function what it hands back and what it leaves in memory. Conditions: those that each theorem names. -/
import Derived.Test.YtmbopgmllnijjaaGreatTAr
import Derived.Test.YtmbopgmllnijjaaGreatTAt
set_option linter.unusedVariables false
set_option linter.unusedSimpArgs false
set_option linter.unusedSectionVars false
namespace Go.Vc
open Go Go.Proofs
set_option maxRecDepth 100000
def slotsEq (s : St) : List (Nat × PV) → Prop
 | [] => True
 | (i, v) :: r => s.get i = v ∧ slotsEq s r
def heapEq (h : List (Nat × Blk)) : List (Nat × Blk) → Prop
 | [] => True
 | (i, b) :: r => lookB i h = some b ∧ heapEq h r
theorem slotsEq_mem {s : St} : ∀ {l : List (Nat × PV)}, slotsEq s l → ∀ p ∈ l, s.get p.1 = p.2
 | (i, v) :: r, h, p, hp => by
  rcases List.mem_cons.1 hp with rfl | hp
  ·exact h.1
  ·exact slotsEq_mem h.2 p hp
theorem heapEq_mem {h : List (Nat × Blk)} : ∀ {l : List (Nat × Blk)}, heapEq h l → ∀ p ∈ l, lookB p.1 h = some p.2
 | (i, v) :: r, h, p, hp => by
  rcases List.mem_cons.1 hp with rfl | hp
  ·exact h.1
  ·exact heapEq_mem h.2 p hp
def inB2 (l m : List Nat) : Bool := l.all fun i => m.any fun j => Nat.beq i j
theorem inB2_mem {l m : List Nat} (h : inB2 l m = true) : ∀ i ∈ l, i ∈ m := fun i hi => by
 obtain ⟨j, hj, e⟩ := List.any_eq_true.1 (List.all_eq_true.1 h i hi)
 rw [Nat.eq_of_beq_eq_true e]; exact hj
theorem meetsR {C : Ctx} {s s0 : St} (h1 : s0.n = s.n) (h2 : slotsEq s s0.slots) (h3 : heapEq s.heap s0.heap) (h4 : (s0.slots.all fun p => inB2 p.2.labs (keys s0.heap)) = true) (h5 : (s0.heap.all fun p => inB2 p.2.labs (keys s0.heap)) = true) (h6 : s0.kb = s.kb) (h7 : inB2 s.kb (keys s0.heap) = true) : meets C [] s s0 :=
 show s.le s0 from ⟨h1, slotsEq_mem h2, heapEq_mem h3, fun p hp => inB2_mem (List.all_eq_true.1 h4 p hp), fun p hp => inB2_mem (List.all_eq_true.1 h5 p hp), h6, inB2_mem h7⟩
theorem mR {C : Ctx} {s s0 : St} (h1 : s0.n = s.n := by rfl) (h2 : slotsEq s s0.slots := by repeat (first | exact trivial | refine ⟨rfl, ?_⟩)) (h3 : heapEq s.heap s0.heap := by repeat (first | exact trivial | refine ⟨rfl, ?_⟩)) (h4 : (s0.slots.all fun p => inB2 p.2.labs (keys s0.heap)) = true := by rfl) (h5 : (s0.heap.all fun p => inB2 p.2.labs (keys s0.heap)) = true := by rfl) (h6 : s0.kb = s.kb := by rfl) (h7 : inB2 s.kb (keys s0.heap) = true := by rfl) : meets C [] s s0 := meetsR h1 h2 h3 h4 h5 h6 h7
theorem cmpNs_refl : ∀ ns : List (List UInt8), cmpNs ns ns = 0
 | [] => rfl
 | s :: r => by
  have := cmpNs_refl r
  simp [cmpNs, this]
mutual
theorem cmpV_refl : ∀ v : V, cmpV v v = 0
 | .mk k n s l ns => by
  have := cmpVs_refl l
  have := cmpNs_refl ns
  rw [cmpV_mk]
  simp [*]
theorem cmpVs_refl : ∀ l : List V, cmpVs l l = 0
 | [] => by simp [cmpVs]
 | v :: r => by
  have := cmpV_refl v
  have := cmpVs_refl r
  simp [cmpVs, *]
end
theorem sameV_refl (v : V) : sameV v v = true := by unfold sameV; rw [cmpV_refl]; rfl
set_option maxHeartbeats 8000000 in
theorem sameAll_refl (l : List V) (z1 z2 : Nat) (lp mp : List PV) (t1 t2 : Bool) (h1 : VPs l lp) (h2 : VPs l mp) (g1 : z1 = 5 ∨ l = []) (g2 : z2 = 5 ∨ l = []) (hb : ∀ v ∈ l, i64 v.n ∧ bulkV v ≤ 1000000000) (hl : l.length ≤ 1000000000) (Post : PV → List (Nat × Blk) → Prop) (h : Post (.bool true) []) :
  Spec K 28 [.sl z1 lp t1 true, .sl z2 mp t2 true] [] Post := by
 refine is28.specC [17] K_ok K_mix false (by simp) (by simp [keys]) ?_
 have e1 := VPs_len h1
 have e2 := VPs_len h2
 have f1 : z1 = 5 ∨ lp = [] := g1.imp id fun h => by rw [h] at e1; exact List.length_eq_zero_iff.1 e1
 have f2 : z2 = 5 ∨ mp = [] := g2.imp id fun h => by rw [h] at e2; exact List.length_eq_zero_iff.1 e2
 (conv => whnf); repeat ((first | (apply And.intro;· exact Cl4) | apply T1 | apply T2 | apply T3 | apply T4 | apply T6 | apply T5); conv => whnf)
 rw [e1, e2, bne_self_eq_false]
 (conv => whnf); repeat ((first | (apply And.intro;· exact Cl4) | apply T1 | apply T2 | apply T3 | apply T4 | apply T6 | apply T5); conv => whnf)
 refine ⟨Nat, fun i => ⟨27, [(5, .int .i64 i), (1, .sl z2 mp t2 true), (0, .sl z1 lp t1 true)], [], []⟩, fun i => i ≤ l.length, fun i => l.length - i, ⟨[], 0, Nat.zero_le _, ?_⟩, fun i hi => ?_⟩
 ·simp [meets, ghosts, St.le, St.get, look, keys, PV.labs, labsL, lookB, Blk.labs]
 ·conv => (arg 5; dsimp only)
  (conv => whnf); repeat ((first | (apply And.intro;· exact Cl4) | apply T1 | apply T2 | apply T3 | apply T4 | apply T6 | apply T5); conv => whnf)
  rw [e1]
  by_cases hix : i < l.length
  ·rw [decide_eq_true (show (i : Int) < (l.length : Int) by omega)]
   have hm := List.getElem_mem hix
   obtain ⟨hn, hbv⟩ := hb _ hm
   obtain ⟨y1, ap, u1, o1, y2, u2, o2, hq, hv, r1, r2, r3⟩ := (VPs_nth h1 hix).out
   obtain ⟨x1, bp, v1, w1, x2, v2, w2, hq', hv', s1, s2, s3⟩ := (VPs_nth h2 hix).out
   have hs := sameV_refl l[i]
   generalize l[i] = v at *
   rw [← Int.toNat_natCast i] at hq hq'
   (conv => whnf); repeat ((first | (apply And.intro;· exact Cl4) | apply T1 | apply T2 | apply T3 | apply T4 | apply T6 | apply T5); conv => whnf)
   refine ⟨Unit, fun _ => ⟨27, [(26, .bool false), (5, .int .i64 i), (1, .sl z2 mp t2 true), (0, .sl z1 lp t1 true)], [], []⟩, fun _ => True, ?_, fun _ _ => ?_⟩
   ·(conv => whnf); repeat' (first | ((first | (apply And.intro;· exact Cl4) | apply T1 | apply T2 | apply T3 | apply T4 | apply T6 | apply T5); conv => whnf) | (rw [hq]; conv => whnf) | (rw [hq']; conv => whnf) | ((refine sameR_spec v v y1 y2 ap _ _ x1 x2 bp _ _ _ ⟨hv, r1, r2, r3, by omega⟩ ⟨hv', s1, s2, s3, by omega⟩ ?_; rw [hs]); conv => whnf) | ((refine Both.mk ?_ ?_ <;> fail_if_success (intro _)) <;> conv => whnf))
    all_goals (
     refine ⟨[], (), trivial, ?_⟩
     simp [meets, ghosts, St.le, St.get, look, keys, PV.labs, labsL, lookB, Blk.labs])
   conv => (arg 4; dsimp only)
   (conv => whnf); repeat ((first | (apply And.intro;· exact Cl4) | apply T1 | apply T2 | apply T3 | apply T4 | apply T6 | apply T5); conv => whnf)
   rw [wrap64 (n := (i : Int) + 1) (by omega) (by omega)]
   refine ⟨[], i + 1, hix, by show l.length - (i + 1) < l.length - i; omega, ?_⟩
   simp [meets, ghosts, St.le, St.get, look, keys, PV.labs, labsL, lookB, Blk.labs]
  ·obtain rfl : i = l.length := by omega
   rw [decide_eq_false (show ¬ (l.length : Int) < (l.length : Int) by omega)]
   (conv => whnf); repeat ((first | (apply And.intro;· exact Cl4) | apply T1 | apply T2 | apply T3 | apply T4 | apply T6 | apply T5); conv => whnf)
   exact h
end Go.Vc
