/- What is proved here: contracts of functions of the program: of each function what it hands back and what it leaves in memory. Conditions: those that each theorem names. -/
import Derived.Test.YthhokabbanhllaaGreatDoorTAp
set_option linter.unusedVariables false
set_option linter.unusedSimpArgs false
set_option linter.unusedSectionVars false
namespace Go.Vc
open Go Go.Proofs
set_option maxRecDepth 100000
theorem cmpNs_eq : ∀ {a b : List (List UInt8)}, cmpNs a b = 0 ↔ a = b
 | [], [] => by simp [cmpNs]
 | [], _ :: _ => by simp [cmpNs]
 | _ :: _, [] => by simp [cmpNs]
 | a :: r, b :: q => by
  rw [cmpNs]
  by_cases h : a = b
  ·rw [if_pos h, cmpNs_eq, h]; simp
  ·rw [if_neg h]
   have := cmpS_ne h
   simp [h, this]
theorem cmpVs_len : ∀ {a b : List V}, cmpVs a b = 0 → a.length = b.length
 | [], [], _ => rfl
 | [], _ :: _, h => by simp [cmpVs] at h
 | _ :: _, [], h => by simp [cmpVs] at h
 | a :: r, b :: q, h => by
  rw [cmpVs] at h
  by_cases h1 : cmpV a b ≠ 0
  ·rw [if_pos h1] at h; exact absurd h h1
  ·rw [if_neg h1] at h
   simp [cmpVs_len h]
theorem same_mk (k n : Int) (s : List UInt8) (l : List V) (ns : List (List UInt8)) (w : V) :
  sameV (.mk k n s l ns) w = (k == w.k && n == w.n && s == w.s && cmpNs ns w.ns == 0 && cmpVs l w.l == 0) := by
 obtain ⟨k', n', s', l', ns'⟩ := w
 show (cmpV _ _ == 0) = (k == k' && n == n' && s == s' && cmpNs ns ns' == 0 && cmpVs l l' == 0)
 rw [cmpV_mk]
 by_cases h1 : k = k'
 ·rw [if_neg (fun h => h h1)]
  by_cases h2 : n = n'
  ·rw [if_neg (fun h => h h2)]
   by_cases h3 : s = s'
   ·rw [if_neg (fun h => h h3)]
    by_cases h4 : cmpNs ns ns' = 0
    ·rw [if_neg (fun h => h h4), h1, h2, h3, h4, beq_self_eq_true, beq_self_eq_true, beq_self_eq_true, beq_self_eq_true]
     rfl
    ·rw [if_pos h4, beq_eq_false_iff_ne.2 h4]
     simp
   ·rw [if_pos h3, beq_eq_false_iff_ne.2 (cmpS_ne h3), beq_eq_false_iff_ne.2 h3]
    simp
  ·rw [if_pos h2, beq_eq_false_iff_ne.2 (cmpI_ne h2), beq_eq_false_iff_ne.2 h2]
   simp
 ·rw [if_pos h1, beq_eq_false_iff_ne.2 (cmpI_ne h1), beq_eq_false_iff_ne.2 h1]
  simp
set_option maxHeartbeats 8000000 in
theorem equal_spec (ns ns' : List (List UInt8)) (z z' : Nat) (t t' : Bool) (hz : z = 1 ∨ ns = []) (hz' : z' = 1 ∨ ns' = []) (hl : ns.length ≤ 1000000000000) (hl' : ns'.length ≤ 1000000000000) (Post : PV → List (Nat × Blk) → Prop)
  (h : Post (.bool (cmpNs ns ns' == 0)) []) : Spec K 55 [.sl z (strs ns) t true, .sl z' (strs ns') t' true] [] Post := by
 refine is55.specW K_ok K_mix false (by simp) (by simp [keys]) ?_
 have hz2 : z = 1 ∨ strs ns = [] := hz.imp (fun h => h) fun h => by rw [h]; rfl
 have hz2' : z' = 1 ∨ strs ns' = [] := hz'.imp (fun h => h) fun h => by rw [h]; rfl
 (conv => whnf); repeat ((apply And.intro;· exact Cl2); conv => whnf)
 rw [strs_len, strs_len]
 refine ⟨fun h1 => ?_, fun h1 => ?_⟩
 ·have h1' : ns.length ≠ ns'.length := by simp at h1; omega
  (conv => whnf); repeat ((apply And.intro;· exact Cl2); conv => whnf)
  have : (cmpNs ns ns' == 0) = false := by
   have : cmpNs ns ns' ≠ 0 := fun hc => h1' (by rw [cmpNs_eq.1 hc])
   simpa using this
  rwa [this] at h
 ·have h1' : ns.length = ns'.length := by simp at h1; omega
  (conv => whnf); repeat ((apply And.intro;· exact Cl2); conv => whnf)
  refine ⟨Nat, fun i => ⟨26, [(13, .int .i64 i), (12, .int .i64 ns.length), (4, .bool false), (0, .sl z (strs ns) t true), (1, .sl z' (strs ns') t' true)], [], []⟩, fun i => i ≤ ns.length ∧ cmpNs ns ns' = cmpNs (ns.drop i) (ns'.drop i), fun i => ns.length - i,
   ⟨[], 0, ⟨Nat.zero_le _, rfl⟩, ?_⟩, fun i hI => ?_⟩
  ·simp [meets, ghosts, St.le, St.get, look, keys, PV.labs, labsL, strs_len]
  ·obtain ⟨hi, hin⟩ := hI
   conv => (arg 5; dsimp only)
   (conv => whnf); repeat ((apply And.intro;· exact Cl2); conv => whnf)
   refine ⟨fun h4 => ?_, fun h4 => ?_⟩
   ·have hix : i < ns.length := by have := of_decide_eq_true h4; omega
    have hix' : i < ns'.length := by omega
    have hdr : ns.drop i = ns[i] :: ns.drop (i + 1) := List.drop_eq_getElem_cons hix
    have hdr' : ns'.drop i = ns'[i] :: ns'.drop (i + 1) := List.drop_eq_getElem_cons hix'
    rw [hdr, hdr', cmpNs] at hin
    have hb1 : True → (0 : Int) ≤ (i : Int) ∧ (i : Int) < ((strs ns).length : Int) := fun _ => ⟨by omega, by rw [strs_len]; omega⟩
    have hb2 : True → (0 : Int) ≤ (i : Int) ∧ (i : Int) < ((strs ns').length : Int) := fun _ => ⟨by omega, by rw [strs_len]; omega⟩
    have hn1 : nth (strs ns) ((i : Int)).toNat = .str ns[i] := by rw [Int.toNat_natCast, nth_strs hix]
    have hn2 : nth (strs ns') ((i : Int)).toNat = .str ns'[i] := by rw [Int.toNat_natCast, nth_strs hix']
    (conv => whnf); repeat' (first | ((apply And.intro;· exact Cl2); conv => whnf) | (rw [hn1]; conv => whnf) | (rw [hn2]; conv => whnf) | ((refine Both.mk ?_ ?_ <;> fail_if_success (intro _)) <;> conv => whnf))
    all_goals (
     refine ⟨fun h6 => ?_, fun h6 => ?_⟩
     ·have h6' : ¬ ns[i] = ns'[i] := by simpa using h6
      rw [if_neg h6'] at hin
      have hne := cmpS_ne h6'
      (conv => whnf); repeat ((apply And.intro;· exact Cl2); conv => whnf)
      have : (cmpNs ns ns' == 0) = false := by rw [hin]; simpa using hne
      rwa [this] at h
     ·have h6' : ns[i] = ns'[i] := by simpa using h6
      rw [if_pos h6'] at hin
      (conv => whnf); repeat ((apply And.intro;· exact Cl2); conv => whnf)
      rw [wrap64 (by omega) (by omega)]
      refine ⟨[], i + 1, ⟨hix, hin⟩, by show ns.length - (i + 1) < ns.length - i; omega, ?_⟩
      simp [meets, ghosts, St.le, St.get, look, keys, PV.labs, labsL])
   ·have hix : i = ns.length := by have := of_decide_eq_false h4; omega
    (conv => whnf); repeat ((apply And.intro;· exact Cl2); conv => whnf)
    have : (cmpNs ns ns' == 0) = true := by
     rw [hin, hix, List.drop_length, h1', List.drop_length]; rfl
    rwa [this] at h
set_option maxHeartbeats 8000000 in
theorem eqFunc_spec (l l' : List V) (lp mp : List PV) (z z' : Nat) (t t' : Bool) (hl : VPs l lp) (hm : VPs l' mp) (hz : z = 5 ∨ l = []) (hz' : z' = 5 ∨ l' = []) (hb : bulkVs l ≤ 100000000000) (hb' : bulkVs l' ≤ 100000000000)
  (ih : ∀ (v w : V), bulkV v ≤ bulkVs l → bulkV w ≤ 100000000000 → ∀ (z1 z2 : Nat) (lp : List PV) (t1 t2 : Bool) (x1 x2 : Nat) (mp : List PV) (u1 u2 : Bool) (Post : PV → List (Nat × Blk) → Prop), VPs v.l lp → (z1 = 5 ∨ v.l = []) → (z2 = 1 ∨ v.ns = []) → VPs w.l mp → (x1 = 5 ∨ w.l = []) → (x2 = 1 ∨ w.ns = []) →
   Post (.bool (sameV v w)) [] → Spec K 38 [.agg (vc v z1 lp t1 z2 t2), .agg (vc w x1 mp u1 x2 u2)] [] Post)
  (Post : PV → List (Nat × Blk) → Prop) (h : Post (.bool (cmpVs l l' == 0)) []) : Spec K 56 [.sl z lp t true, .sl z' mp t' true, .fn (.func 38) [] []] [] Post := by
 have hlp := VPs_len hl
 have hmp := VPs_len hm
 have hz1 : z = 5 ∨ lp = [] := hz.imp (fun h => h) fun h => by rw [h] at hlp; exact List.length_eq_zero_iff.1 hlp
 have hz2 : z' = 5 ∨ mp = [] := hz'.imp (fun h => h) fun h => by rw [h] at hmp; exact List.length_eq_zero_iff.1 hmp
 have hlb := len_sizeVs l
 have hsb := sizes_bulk l
 refine is56.specW K_ok K_mix false (by simp) (by simp [keys]) ?_
 (conv => whnf); repeat ((apply And.intro;· exact Cl2); conv => whnf)
 rw [hlp, hmp]
 refine ⟨fun h1 => ?_, fun h1 => ?_⟩
 ·have h1' : l.length ≠ l'.length := by simp at h1; omega
  (conv => whnf); repeat ((apply And.intro;· exact Cl2); conv => whnf)
  have : (cmpVs l l' == 0) = false := by
   have : cmpVs l l' ≠ 0 := fun hc => h1' (cmpVs_len hc)
   simpa using this
  rwa [this] at h
 ·have h1' : l.length = l'.length := by simp at h1; omega
  (conv => whnf); repeat ((apply And.intro;· exact Cl2); conv => whnf)
  refine ⟨Nat, fun i => ⟨32, [(17, .int .i64 i), (16, .int .i64 l.length), (15, .sl z lp t true), (6, .bool false), (2, .fn (.func 38) [] []), (1, .sl z' mp t' true)], [], []⟩, fun i => i ≤ l.length ∧ cmpVs l l' = cmpVs (l.drop i) (l'.drop i), fun i => l.length - i,
   ⟨[], 0, ⟨Nat.zero_le _, rfl⟩, ?_⟩, fun i hI => ?_⟩
  ·simp [meets, ghosts, St.le, St.get, look, keys, PV.labs, labsL, hlp]
  ·obtain ⟨hi, hin⟩ := hI
   conv => (arg 5; dsimp only)
   (conv => whnf); repeat ((apply And.intro;· exact Cl2); conv => whnf)
   refine ⟨fun h4 => ?_, fun h4 => ?_⟩
   ·have hix : i < l.length := by have := of_decide_eq_true h4; omega
    have hix' : i < l'.length := by omega
    have hdr : l.drop i = l[i] :: l.drop (i + 1) := List.drop_eq_getElem_cons hix
    have hdr' : l'.drop i = l'[i] :: l'.drop (i + 1) := List.drop_eq_getElem_cons hix'
    rw [hdr, hdr', cmpVs] at hin
    obtain ⟨y1, lp2, v1, o1, y2, v2, o2, hp, hq, g1, g2, g3⟩ := (VPs_nth hl hix).out
    obtain ⟨y1', mp2, v1', o1', y2', v2', o2', hp', hq', g1', g2', g3'⟩ := (VPs_nth hm hix').out
    have hbm := bulkVs_mem hix
    have hbm' := bulkVs_mem hix'
    have hb1 : True → (0 : Int) ≤ (i : Int) ∧ (i : Int) < (lp.length : Int) := fun _ => ⟨by omega, by omega⟩
    have hb2 : True → (0 : Int) ≤ (i : Int) ∧ (i : Int) < (mp.length : Int) := fun _ => ⟨by omega, by omega⟩
    have hn1 := (congrArg (nth lp) (Int.toNat_natCast i)).trans hp
    have hn2 := (congrArg (nth mp) (Int.toNat_natCast i)).trans hp'
    (conv => whnf); repeat' (first | ((apply And.intro;· exact Cl2); conv => whnf) | (rw [hn1]; conv => whnf) | (rw [hn2]; conv => whnf) | ((refine Both.mk ?_ ?_ <;> fail_if_success (intro _)) <;> conv => whnf))
    refine ih l[i] l'[i] hbm (by omega) y1 y2 lp2 v1 v2 y1' y2' mp2 v1' v2' _ hq g1 g2 hq' g1' g2' ?_
    (conv => whnf); repeat ((apply And.intro;· exact Cl2); conv => whnf)
    refine ⟨fun h6 => ?_, fun h6 => ?_⟩
    ·have h6' : sameV l[i] l'[i] = false := by simpa using h6
     have h7 : cmpV l[i] l'[i] ≠ 0 := by simpa [sameV] using h6'
     rw [if_pos h7] at hin
     (conv => whnf); repeat ((apply And.intro;· exact Cl2); conv => whnf)
     have : (cmpVs l l' == 0) = false := by rw [hin]; simpa using h7
     rwa [this] at h
    ·have h6' : sameV l[i] l'[i] = true := by simpa using h6
     have h7 : ¬ cmpV l[i] l'[i] ≠ 0 := by simpa [sameV] using h6'
     rw [if_neg h7] at hin
     (conv => whnf); repeat ((apply And.intro;· exact Cl2); conv => whnf)
     rw [wrap64 (by omega) (by omega)]
     refine ⟨[], i + 1, ⟨hix, hin⟩, by show l.length - (i + 1) < l.length - i; omega, ?_⟩
     simp [meets, ghosts, St.le, St.get, look, keys, PV.labs, labsL]
   ·have hix : i = l.length := by have := of_decide_eq_false h4; omega
    (conv => whnf); repeat ((apply And.intro;· exact Cl2); conv => whnf)
    have : (cmpVs l l' == 0) = true := by
     rw [hin, hix, List.drop_length, h1', List.drop_length]; rfl
    rwa [this] at h
end Go.Vc
