/- What is proved here: contracts of functions of the program: of each function what it hands back and what it leaves in memory. Conditions: those that each theorem names. -/
import Derived.Lib.Bytealg
import Derived.Test.YthhokabbanhllaaGreatDoorTAj
import Derived.Test.YthhokabbanhllaaGreatDoorTAr
import Derived.Test.YthhokabbanhllaaGreatDoorTAs
import Derived.Test.YthhokabbanhllaaGreatDoorTAu
import Derived.Test.YthhokabbanhllaaGreatDoorTAv
set_option linter.unusedVariables false
set_option linter.unusedSimpArgs false
set_option linter.unusedSectionVars false
namespace Go.Vc
open Go Go.Proofs
set_option maxRecDepth 100000
theorem cmpB_eq : ∀ a b : List UInt8, Lib.compareBytes a b = cmpS a b
 | [], [] => rfl
 | [], _ :: _ => rfl
 | _ :: _, [] => rfl
 | a :: r, b :: q => by
  rw [Lib.compareBytes]
  by_cases h : a < b
  ·rw [if_pos h]
   have : Op.bytesLess (a :: r) (b :: q) = true := by simp [Op.bytesLess, h]
   exact (if_pos this).symm
  ·rw [if_neg h]
   by_cases h2 : b < a
   ·rw [if_pos h2]
    have hne : ¬ a = b := fun e => by subst e; exact UInt8.lt_irrefl _ h2
    have : Op.bytesLess (a :: r) (b :: q) = false := by simp [Op.bytesLess, h, hne]
    simp [cmpS, this, hne]
   ·have e : a = b := Classical.byContradiction fun hne => (UInt8.lt_or_lt_of_ne hne).elim h h2
    subst e
    rw [if_neg h, cmpB_eq r q]
    have e1 : Op.bytesLess (a :: r) (a :: q) = Op.bytesLess r q := by simp [Op.bytesLess]
    unfold cmpS
    rw [e1, List.cons_beq_cons, beq_self_eq_true, Bool.true_and]
theorem cmpstr_spec (a b : List UInt8) (Post : PV → List (Nat × Blk) → Prop) (h : Post (.int .i64 (cmpS a b)) []) : Spec K 99 [.str a, .str b] [] Post := by
 refine ⟨fun w Z φ vs hbef o a' next Q hn => ?_⟩
 obtain ⟨h1, h2, h3, h4, h5⟩ := hbef
 match vs, h1 with
 | [x0, x1], _ =>
  have e0 := h2 0 _ _ rfl rfl
  have e1 := h2 1 _ _ rfl rfl
  obtain ⟨u, rfl, hu⟩ := e0.str_inv
  obtain ⟨u', rfl, hu'⟩ := e1.str_inv
  rw [run_callFunc_extern (P := K.P) Tryz.func99 (by kernel_rfl) (by kernel_rfl) (by kernel_rfl) (e := Extern.BytealgCompare.compare) (by kernel_rfl)]
  rw [Lib.run_compareString, hu, hu', cmpB_eq]
  exact hn _ _ ⟨_, _, φ, Z, h, .int _ _, h3, fun i hi => (by cases hi), h4, fun b hb => .inl hb, fun b hb => hb, ⟨rfl, rfl, rfl, Nat.le_refl _, fun _ _ _ => rfl, fun b cs T hb => ⟨cs, hb, rfl⟩⟩⟩
theorem cmpString_spec (a b : List UInt8) (Post : PV → List (Nat × Blk) → Prop) (h : Post (.int .i64 (cmpS a b)) []) : Spec K 84 [.str a, .str b] [] Post := by
 refine is84.specW K_ok K_mix false (by simp) (by simp [keys]) ?_
 (conv => whnf); repeat ((first | (apply And.intro;· exact Cl4) | apply T1 | apply T2 | apply T3 | apply T4 | apply T6 | apply T5); conv => whnf)
 refine cmpstr_spec a b _ ?_
 (conv => whnf); repeat ((first | (apply And.intro;· exact Cl4) | apply T1 | apply T2 | apply T3 | apply T4 | apply T6 | apply T5); conv => whnf)
 exact h
theorem strCompare_spec (a b : List UInt8) (Post : PV → List (Nat × Blk) → Prop) (h : Post (.int .i64 (cmpS a b)) []) : Spec K 59 [.str a, .str b] [] Post := by
 refine is59.specW K_ok K_mix false (by simp) (by simp [keys]) ?_
 (conv => whnf); repeat ((first | (apply And.intro;· exact Cl4) | apply T1 | apply T2 | apply T3 | apply T4 | apply T6 | apply T5); conv => whnf)
 refine cmpString_spec a b _ ?_
 (conv => whnf); repeat ((first | (apply And.intro;· exact Cl4) | apply T1 | apply T2 | apply T3 | apply T4 | apply T6 | apply T5); conv => whnf)
 exact h
theorem nanI_spec (a : Int) (Post : PV → List (Nat × Blk) → Prop) (h : Post (.bool false) []) : Spec K 83 [.int .i64 a] [] Post := by
 refine is83.specW K_ok K_mix false (by simp) (by simp [keys]) ?_
 (conv => whnf); repeat ((first | (apply And.intro;· exact Cl4) | apply T1 | apply T2 | apply T3 | apply T4 | apply T6 | apply T5); conv => whnf)
 rw [bne_self_eq_false]
 exact h
theorem nanS_spec (a : List UInt8) (Post : PV → List (Nat × Blk) → Prop) (h : Post (.bool false) []) : Spec K 100 [.str a] [] Post := by
 refine is100.specW K_ok K_mix false (by simp) (by simp [keys]) ?_
 (conv => whnf); repeat ((first | (apply And.intro;· exact Cl4) | apply T1 | apply T2 | apply T3 | apply T4 | apply T6 | apply T5); conv => whnf)
 rw [beq_self_eq_true]
 exact h
theorem cmpInt_spec (a b : Int) (Post : PV → List (Nat × Blk) → Prop) (h : Post (.int .i64 (cmpI a b)) []) : Spec K 58 [.int .i64 a, .int .i64 b] [] Post := by
 refine is58.specW K_ok K_mix false (by simp) (by simp [keys]) ?_
 (conv => whnf); repeat ((first | (apply And.intro;· exact Cl4) | apply T1 | apply T2 | apply T3 | apply T4 | apply T6 | apply T5); conv => whnf)
 refine nanI_spec a _ ?_
 (conv => whnf); repeat ((first | (apply And.intro;· exact Cl4) | apply T1 | apply T2 | apply T3 | apply T4 | apply T6 | apply T5); conv => whnf)
 refine nanI_spec b _ ?_
 (conv => whnf); repeat ((first | (apply And.intro;· exact Cl4) | apply T1 | apply T2 | apply T3 | apply T4 | apply T6 | apply T5); conv => whnf)
 unfold cmpI at h
 by_cases h1 : a < b
 ·rw [if_pos h1] at h
  rw [decide_eq_true h1]
  (conv => whnf); repeat ((first | (apply And.intro;· exact Cl4) | apply T1 | apply T2 | apply T3 | apply T4 | apply T6 | apply T5); conv => whnf)
  exact h
 rw [if_neg h1] at h
 rw [decide_eq_false h1]
 (conv => whnf); repeat ((first | (apply And.intro;· exact Cl4) | apply T1 | apply T2 | apply T3 | apply T4 | apply T6 | apply T5); conv => whnf)
 by_cases h2 : b < a
 ·rw [if_pos h2] at h
  rw [decide_eq_true h2]
  (conv => whnf); repeat ((first | (apply And.intro;· exact Cl4) | apply T1 | apply T2 | apply T3 | apply T4 | apply T6 | apply T5); conv => whnf)
  exact h
 rw [if_neg h2] at h
 rw [decide_eq_false h2]
 (conv => whnf); repeat ((first | (apply And.intro;· exact Cl4) | apply T1 | apply T2 | apply T3 | apply T4 | apply T6 | apply T5); conv => whnf)
 exact h
theorem cmpStrG_spec (a b : List UInt8) (Post : PV → List (Nat × Blk) → Prop) (h : Post (.int .i64 (cmpS a b)) []) : Spec K 85 [.str a, .str b] [] Post := by
 refine is85.specW K_ok K_mix false (by simp) (by simp [keys]) ?_
 (conv => whnf); repeat ((first | (apply And.intro;· exact Cl4) | apply T1 | apply T2 | apply T3 | apply T4 | apply T6 | apply T5); conv => whnf)
 refine nanS_spec a _ ?_
 (conv => whnf); repeat ((first | (apply And.intro;· exact Cl4) | apply T1 | apply T2 | apply T3 | apply T4 | apply T6 | apply T5); conv => whnf)
 refine nanS_spec b _ ?_
 (conv => whnf); repeat ((first | (apply And.intro;· exact Cl4) | apply T1 | apply T2 | apply T3 | apply T4 | apply T6 | apply T5); conv => whnf)
 unfold cmpS at h
 cases h1 : Op.bytesLess a b
 ·rw [if_neg (by rw [h1]; decide)] at h
  (conv => whnf); repeat ((first | (apply And.intro;· exact Cl4) | apply T1 | apply T2 | apply T3 | apply T4 | apply T6 | apply T5); conv => whnf)
  cases h2 : (Op.bytesLess a b || a == b)
  ·rw [if_neg (by rw [h2]; decide)] at h
   refine Both.T (by rfl) ?_
   (conv => whnf); repeat ((first | (apply And.intro;· exact Cl4) | apply T1 | apply T2 | apply T3 | apply T4 | apply T6 | apply T5); conv => whnf)
   exact h
  ·rw [if_pos h2] at h
   refine Both.F (by rfl) ?_
   (conv => whnf); repeat ((first | (apply And.intro;· exact Cl4) | apply T1 | apply T2 | apply T3 | apply T4 | apply T6 | apply T5); conv => whnf)
   exact h
 ·rw [if_pos h1] at h
  (conv => whnf); repeat ((first | (apply And.intro;· exact Cl4) | apply T1 | apply T2 | apply T3 | apply T4 | apply T6 | apply T5); conv => whnf)
  exact h
def orI : List Int → Int
 | [] => 0
 | a :: r => if a = 0 then orI r else a
theorem ints_nth {l : List Int} {i : Nat} (h : i < l.length) : nth (l.map fun n => PV.int .i64 n) i = .int .i64 l[i] := by
 unfold nth
 rw [List.getD_eq_getElem?_getD, List.getElem?_map, List.getElem?_eq_getElem h]; rfl
set_option maxHeartbeats 4000000 in
theorem cmpOr_spec (l : List Int) (z : Nat) (t : Bool) (hz : z = 1 ∨ l = []) (hl : l.length ≤ 1000000) (Post : PV → List (Nat × Blk) → Prop) (h : Post (.int .i64 (orI l)) []) : Spec K 57 [.sl z (l.map fun n => PV.int .i64 n) t true] [] Post := by
 refine is57.specW K_ok K_mix false (by simp) (by simp [keys]) ?_
 have hz2 : z = 1 ∨ (l.map fun n => PV.int .i64 n) = [] := hz.imp (fun h => h) fun h => by rw [h]; rfl
 (conv => whnf); repeat ((first | (apply And.intro;· exact Cl4) | apply T1 | apply T2 | apply T3 | apply T4 | apply T6 | apply T5); conv => whnf)
 rw [List.length_map]
 refine ⟨Nat, fun i => ⟨18, [(8, .int .i64 i), (7, .int .i64 l.length), (6, .sl z (l.map fun n => PV.int .i64 n) t true), (3, .int .i64 0)], [], []⟩, fun i => i ≤ l.length ∧ orI l = orI (l.drop i), fun i => l.length - i,
  ⟨[], 0, ⟨Nat.zero_le _, rfl⟩, ?_⟩, fun i hI => ?_⟩
 ·simp [meets, ghosts, St.le, St.get, look, keys, PV.labs, labsL, lookB, Blk.labs]
 ·obtain ⟨hi, hin⟩ := hI
  conv => (arg 5; dsimp only)
  (conv => whnf); repeat ((first | (apply And.intro;· exact Cl4) | apply T1 | apply T2 | apply T3 | apply T4 | apply T6 | apply T5); conv => whnf)
  by_cases hix : i < l.length
  ·rw [decide_eq_true (show (i : Int) < (l.length : Int) by omega)]
   have hdr : l.drop i = l[i] :: l.drop (i + 1) := List.drop_eq_getElem_cons hix
   rw [hdr, orI] at hin
   (conv => whnf); repeat ((first | (apply And.intro;· exact Cl4) | apply T1 | apply T2 | apply T3 | apply T4 | apply T6 | apply T5); conv => whnf)
   refine ⟨fun _ => ⟨by omega, by rw [List.length_map]; omega⟩, ?_⟩
   (conv => whnf); repeat ((first | (apply And.intro;· exact Cl4) | apply T1 | apply T2 | apply T3 | apply T4 | apply T6 | apply T5); conv => whnf)
   rw [Int.toNat_natCast, ints_nth hix]
   (conv => whnf); repeat ((first | (apply And.intro;· exact Cl4) | apply T1 | apply T2 | apply T3 | apply T4 | apply T6 | apply T5); conv => whnf)
   by_cases h0 : l[i] = 0
   ·rw [if_pos h0] at hin
    rw [h0]
    (conv => whnf); repeat ((first | (apply And.intro;· exact Cl4) | apply T1 | apply T2 | apply T3 | apply T4 | apply T6 | apply T5); conv => whnf)
    rw [wrap64 (n := (i : Int) + 1) (by omega) (by omega)]
    refine ⟨[], i + 1, ⟨hix, hin⟩, by show l.length - (i + 1) < l.length - i; omega, ?_⟩
    simp [meets, ghosts, St.le, St.get, look, keys, PV.labs, labsL, lookB, Blk.labs]
   ·rw [if_neg h0] at hin
    rw [show (l[i] != 0) = true by simpa using h0]
    (conv => whnf); repeat ((first | (apply And.intro;· exact Cl4) | apply T1 | apply T2 | apply T3 | apply T4 | apply T6 | apply T5); conv => whnf)
    rw [hin] at h
    exact h
  ·obtain rfl : i = l.length := by omega
   rw [decide_eq_false (show ¬ (l.length : Int) < (l.length : Int) by omega)]
   (conv => whnf); repeat ((first | (apply And.intro;· exact Cl4) | apply T1 | apply T2 | apply T3 | apply T4 | apply T6 | apply T5); conv => whnf)
   rw [hin, List.drop_length] at h
   exact h
theorem cmpNs_step {a b : List (List UInt8)} {i : Nat} (hi : i < a.length) (hj : i < b.length) : cmpNs (a.drop i) (b.drop i) = if a[i] = b[i] then cmpNs (a.drop (i + 1)) (b.drop (i + 1)) else cmpS a[i] b[i] := by
 rw [List.drop_eq_getElem_cons hi, List.drop_eq_getElem_cons hj, cmpNs]
theorem cmpVs_step {a b : List V} {i : Nat} (hi : i < a.length) (hj : i < b.length) : cmpVs (a.drop i) (b.drop i) = if cmpV a[i] b[i] ≠ 0 then cmpV a[i] b[i] else cmpVs (a.drop (i + 1)) (b.drop (i + 1)) := by
 rw [List.drop_eq_getElem_cons hi, List.drop_eq_getElem_cons hj, cmpVs]
set_option maxHeartbeats 8000000 in
theorem cmpNames_spec (ns ns' : List (List UInt8)) (z z' : Nat) (t t' : Bool) (hz : z = 1 ∨ ns = []) (hz' : z' = 1 ∨ ns' = []) (hl : ns.length ≤ 1000000000000) (hl' : ns'.length ≤ 1000000000000) (Post : PV → List (Nat × Blk) → Prop)
  (h : Post (.int .i64 (cmpNs ns ns')) []) : Spec K 60 [.sl z (strs ns) t true, .sl z' (strs ns') t' true] [] Post := by
 refine is60.specW K_ok K_mix false (by simp) (by simp [keys]) ?_
 have hz2 : z = 1 ∨ strs ns = [] := hz.imp (fun h => h) fun h => by rw [h]; rfl
 have hz2' : z' = 1 ∨ strs ns' = [] := hz'.imp (fun h => h) fun h => by rw [h]; rfl
 (conv => whnf); repeat ((first | (apply And.intro;· exact Cl4) | apply T1 | apply T2 | apply T3 | apply T4 | apply T6 | apply T5); conv => whnf)
 rw [strs_len]
 refine ⟨Nat, fun i => ⟨36, [(11, .int .i64 i), (10, .int .i64 ns.length), (9, .sl z (strs ns) t true), (4, .int .i64 0), (0, .sl z (strs ns) t true), (1, .sl z' (strs ns') t' true)], [], []⟩, fun i => i ≤ ns.length ∧ i ≤ ns'.length ∧ cmpNs ns ns' = cmpNs (ns.drop i) (ns'.drop i), fun i => ns.length - i,
  ⟨[], 0, ⟨Nat.zero_le _, Nat.zero_le _, rfl⟩, ?_⟩, fun i hI => ?_⟩
 ·simp [meets, ghosts, St.le, St.get, look, keys, PV.labs, labsL, lookB, Blk.labs]
 ·obtain ⟨hi, hi', hin⟩ := hI
  conv => (arg 5; dsimp only)
  (conv => whnf); repeat ((first | (apply And.intro;· exact Cl4) | apply T1 | apply T2 | apply T3 | apply T4 | apply T6 | apply T5); conv => whnf)
  by_cases hix : i < ns.length
  ·rw [decide_eq_true (show (i : Int) < (ns.length : Int) by omega)]
   (conv => whnf); repeat ((first | (apply And.intro;· exact Cl4) | apply T1 | apply T2 | apply T3 | apply T4 | apply T6 | apply T5); conv => whnf)
   refine ⟨fun _ => ⟨by omega, by rw [strs_len]; omega⟩, ?_⟩
   (conv => whnf); repeat ((first | (apply And.intro;· exact Cl4) | apply T1 | apply T2 | apply T3 | apply T4 | apply T6 | apply T5); conv => whnf)
   rw [Int.toNat_natCast, nth_strs hix]
   (conv => whnf); repeat ((first | (apply And.intro;· exact Cl4) | apply T1 | apply T2 | apply T3 | apply T4 | apply T6 | apply T5); conv => whnf)
   rw [strs_len]
   by_cases hix' : i < ns'.length
   ·rw [decide_eq_false (show ¬ (ns'.length : Int) ≤ (i : Int) by omega)]
    (conv => whnf); repeat ((first | (apply And.intro;· exact Cl4) | apply T1 | apply T2 | apply T3 | apply T4 | apply T6 | apply T5); conv => whnf)
    refine ⟨fun _ => ⟨by omega, by rw [strs_len]; omega⟩, ?_⟩
    (conv => whnf); repeat ((first | (apply And.intro;· exact Cl4) | apply T1 | apply T2 | apply T3 | apply T4 | apply T6 | apply T5); conv => whnf)
    rw [Int.toNat_natCast, nth_strs hix']
    (conv => whnf); repeat ((first | (apply And.intro;· exact Cl4) | apply T1 | apply T2 | apply T3 | apply T4 | apply T6 | apply T5); conv => whnf)
    refine cmpStrG_spec _ _ _ ?_
    (conv => whnf); repeat ((first | (apply And.intro;· exact Cl4) | apply T1 | apply T2 | apply T3 | apply T4 | apply T6 | apply T5); conv => whnf)
    rw [cmpNs_step hix hix'] at hin
    by_cases he : ns[i] = ns'[i]
    ·rw [if_pos he] at hin
     rw [cmpS_eq.2 he]
     (conv => whnf); repeat ((first | (apply And.intro;· exact Cl4) | apply T1 | apply T2 | apply T3 | apply T4 | apply T6 | apply T5); conv => whnf)
     rw [wrap64 (n := (i : Int) + 1) (by omega) (by omega)]
     refine ⟨[], i + 1, ⟨hix, hix', hin⟩, by show ns.length - (i + 1) < ns.length - i; omega, ?_⟩
     simp [meets, ghosts, St.le, St.get, look, keys, PV.labs, labsL, lookB, Blk.labs]
    ·rw [if_neg he] at hin
     rw [show (cmpS ns[i] ns'[i] != 0) = true by simpa using cmpS_ne he]
     (conv => whnf); repeat ((first | (apply And.intro;· exact Cl4) | apply T1 | apply T2 | apply T3 | apply T4 | apply T6 | apply T5); conv => whnf)
     rw [hin] at h
     exact h
   ·rw [decide_eq_true (show (ns'.length : Int) ≤ (i : Int) by omega)]
    (conv => whnf); repeat ((first | (apply And.intro;· exact Cl4) | apply T1 | apply T2 | apply T3 | apply T4 | apply T6 | apply T5); conv => whnf)
    rw [hin, cmpNs_end hi hi' (fun h => hix' h.2), cmpI, if_neg (by omega), if_pos (by omega)] at h
    exact h
  ·obtain rfl : i = ns.length := by omega
   rw [decide_eq_false (show ¬ (ns.length : Int) < (ns.length : Int) by omega)]
   (conv => whnf); repeat ((first | (apply And.intro;· exact Cl4) | apply T1 | apply T2 | apply T3 | apply T4 | apply T6 | apply T5); conv => whnf)
   rw [strs_len, strs_len]
   rw [hin, cmpNs_end hi hi' (fun h => hix h.1), cmpI] at h
   by_cases he : ns.length < ns'.length
   ·rw [if_pos (by omega)] at h
    rw [decide_eq_true (show (ns.length : Int) < (ns'.length : Int) by omega)]
    (conv => whnf); repeat ((first | (apply And.intro;· exact Cl4) | apply T1 | apply T2 | apply T3 | apply T4 | apply T6 | apply T5); conv => whnf)
    exact h
   ·rw [if_neg (by omega), if_neg (by omega)] at h
    rw [decide_eq_false (show ¬ (ns.length : Int) < (ns'.length : Int) by omega)]
    (conv => whnf); repeat ((first | (apply And.intro;· exact Cl4) | apply T1 | apply T2 | apply T3 | apply T4 | apply T6 | apply T5); conv => whnf)
    exact h
def CmpC (N : Nat) : Prop := ∀ v w : V, bulkV v ≤ N → bulkV v ≤ 100000000000 → bulkV w ≤ 100000000000 → ∀ (z1 z2 : Nat) (lp : List PV) (t1 t2 : Bool) (x1 x2 : Nat) (mp : List PV) (u1 u2 : Bool) (Post : PV → List (Nat × Blk) → Prop), VPs v.l lp → (z1 = 5 ∨ v.l = []) → (z2 = 1 ∨ v.ns = []) → VPs w.l mp → (x1 = 5 ∨ w.l = []) → (x2 = 1 ∨ w.ns = []) →
   Post (.int .i64 (cmpV v w)) [] → Spec K 39 [.agg (vc v z1 lp t1 z2 t2), .agg (vc w x1 mp u1 x2 u2)] [] Post
set_option maxHeartbeats 8000000 in
theorem cmpFunc_spec (l l' : List V) (lp mp : List PV) (z z' : Nat) (t t' : Bool) (hl : VPs l lp) (hm : VPs l' mp) (hz : z = 5 ∨ l = []) (hz' : z' = 5 ∨ l' = []) (hb : bulkVs l ≤ 100000000000) (hb' : bulkVs l' ≤ 100000000000)
  (ih : CmpC (bulkVs l)) (Post : PV → List (Nat × Blk) → Prop) (h : Post (.int .i64 (cmpVs l l')) []) : Spec K 61 [.sl z lp t true, .sl z' mp t' true, .fn (.func 39) [] []] [] Post := by
 have hlp := VPs_len hl
 have hmp := VPs_len hm
 have hz1 : z = 5 ∨ lp = [] := hz.imp (fun h => h) fun h => by rw [h] at hlp; exact List.length_eq_zero_iff.1 hlp
 have hz2 : z' = 5 ∨ mp = [] := hz'.imp (fun h => h) fun h => by rw [h] at hmp; exact List.length_eq_zero_iff.1 hmp
 have hlb := len_sizeVs l
 have hsb := sizes_bulk l
 have hlb' := len_sizeVs l'
 have hsb' := sizes_bulk l'
 refine is61.specW K_ok K_mix false (by simp) (by simp [keys]) ?_
 (conv => whnf); repeat ((first | (apply And.intro;· exact Cl4) | apply T1 | apply T2 | apply T3 | apply T4 | apply T6 | apply T5); conv => whnf)
 rw [hlp]
 refine ⟨Nat, fun i => ⟨39, [(13, .int .i64 i), (12, .int .i64 l.length), (11, .sl z lp t true), (6, .int .i64 0), (2, .fn (.func 39) [] []), (1, .sl z' mp t' true), (0, .sl z lp t true)], [], []⟩, fun i => i ≤ l.length ∧ i ≤ l'.length ∧ cmpVs l l' = cmpVs (l.drop i) (l'.drop i), fun i => l.length - i,
  ⟨[], 0, ⟨Nat.zero_le _, Nat.zero_le _, rfl⟩, ?_⟩, fun i hI => ?_⟩
 ·simp [meets, ghosts, St.le, St.get, look, keys, PV.labs, labsL, lookB, Blk.labs]
 ·obtain ⟨hi, hi', hin⟩ := hI
  conv => (arg 5; dsimp only)
  (conv => whnf); repeat ((first | (apply And.intro;· exact Cl4) | apply T1 | apply T2 | apply T3 | apply T4 | apply T6 | apply T5); conv => whnf)
  by_cases hix : i < l.length
  ·rw [decide_eq_true (show (i : Int) < (l.length : Int) by omega)]
   obtain ⟨y1, lp2, v1, o1, y2, v2, o2, hp, hq, g1, g2, g3⟩ := (VPs_nth hl hix).out
   (conv => whnf); repeat ((first | (apply And.intro;· exact Cl4) | apply T1 | apply T2 | apply T3 | apply T4 | apply T6 | apply T5); conv => whnf)
   rw [Int.toNat_natCast, hp]
   (conv => whnf); repeat ((first | (apply And.intro;· exact Cl4) | apply T1 | apply T2 | apply T3 | apply T4 | apply T6 | apply T5); conv => whnf)
   rw [hmp]
   by_cases hix' : i < l'.length
   ·obtain ⟨y1', mp2, v1', o1', y2', v2', o2', hp', hq', g1', g2', g3'⟩ := (VPs_nth hm hix').out
    have hbm := bulkVs_mem hix
    have hbm' := bulkVs_mem hix'
    rw [decide_eq_false (show ¬ (l'.length : Int) ≤ (i : Int) by omega)]
    (conv => whnf); repeat ((first | (apply And.intro;· exact Cl4) | apply T1 | apply T2 | apply T3 | apply T4 | apply T6 | apply T5); conv => whnf)
    rw [Int.toNat_natCast, hp']
    (conv => whnf); repeat ((first | (apply And.intro;· exact Cl4) | apply T1 | apply T2 | apply T3 | apply T4 | apply T6 | apply T5); conv => whnf)
    refine ih l[i] l'[i] hbm (by omega) (by omega) y1 y2 lp2 _ _ y1' y2' mp2 _ _ _ hq g1 g2 hq' g1' g2' ?_
    (conv => whnf); repeat ((first | (apply And.intro;· exact Cl4) | apply T1 | apply T2 | apply T3 | apply T4 | apply T6 | apply T5); conv => whnf)
    rw [cmpVs_step hix hix'] at hin
    by_cases he : cmpV l[i] l'[i] = 0
    ·rw [if_neg (fun h => h he)] at hin
     rw [he]
     (conv => whnf); repeat ((first | (apply And.intro;· exact Cl4) | apply T1 | apply T2 | apply T3 | apply T4 | apply T6 | apply T5); conv => whnf)
     rw [wrap64 (n := (i : Int) + 1) (by omega) (by omega)]
     refine ⟨[], i + 1, ⟨hix, hix', hin⟩, by show l.length - (i + 1) < l.length - i; omega, ?_⟩
     simp [meets, ghosts, St.le, St.get, look, keys, PV.labs, labsL, lookB, Blk.labs]
    ·rw [if_pos he] at hin
     rw [show (cmpV l[i] l'[i] != 0) = true by simpa using he]
     (conv => whnf); repeat ((first | (apply And.intro;· exact Cl4) | apply T1 | apply T2 | apply T3 | apply T4 | apply T6 | apply T5); conv => whnf)
     rw [hin] at h
     exact h
   ·rw [decide_eq_true (show (l'.length : Int) ≤ (i : Int) by omega)]
    (conv => whnf); repeat ((first | (apply And.intro;· exact Cl4) | apply T1 | apply T2 | apply T3 | apply T4 | apply T6 | apply T5); conv => whnf)
    rw [hin, cmpVs_end hi hi' (fun h => hix' h.2), cmpI, if_neg (by omega), if_pos (by omega)] at h
    exact h
  ·obtain rfl : i = l.length := by omega
   rw [decide_eq_false (show ¬ (l.length : Int) < (l.length : Int) by omega)]
   (conv => whnf); repeat ((first | (apply And.intro;· exact Cl4) | apply T1 | apply T2 | apply T3 | apply T4 | apply T6 | apply T5); conv => whnf)
   rw [hlp, hmp]
   rw [hin, cmpVs_end hi hi' (fun h => hix h.1), cmpI] at h
   by_cases he : l.length < l'.length
   ·rw [if_pos (by omega)] at h
    rw [decide_eq_true (show (l.length : Int) < (l'.length : Int) by omega)]
    (conv => whnf); repeat ((first | (apply And.intro;· exact Cl4) | apply T1 | apply T2 | apply T3 | apply T4 | apply T6 | apply T5); conv => whnf)
    exact h
   ·rw [if_neg (by omega), if_neg (by omega)] at h
    rw [decide_eq_false (show ¬ (l.length : Int) < (l'.length : Int) by omega)]
    (conv => whnf); repeat ((first | (apply And.intro;· exact Cl4) | apply T1 | apply T2 | apply T3 | apply T4 | apply T6 | apply T5); conv => whnf)
    exact h
end Go.Vc
