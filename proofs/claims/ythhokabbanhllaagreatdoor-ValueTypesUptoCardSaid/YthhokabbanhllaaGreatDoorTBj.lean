/- What is proved here: contracts of functions of the program: of each function what it hands back and what it leaves in memory. Conditions: those that each theorem names. -/
import Derived.Test.YthhokabbanhllaaGreatDoorTAy
import Derived.Test.YthhokabbanhllaaGreatDoorTBi
set_option linter.unusedVariables false
set_option linter.unusedSimpArgs false
set_option linter.unusedSectionVars false
namespace Go.Vc
open Go Go.Proofs
set_option maxRecDepth 100000
theorem word_kind {w : List UInt8} (h : w ∈ wordsR) : kindM w ≠ 4 ∧ kindM w ≠ 5 := by
 simp only [wordsR, List.mem_cons, List.not_mem_nil, or_false] at h
 rcases h with rfl | rfl | rfl | rfl | rfl <;> exact ⟨by decide, by decide⟩
theorem IsT.list4 {s : Sh} {t : List UInt8} (h : IsT s t) (hk : s.k = 4) : ∃ x u, s.l = [x] ∧ IsT x u ∧ u.length ≤ t.length := by
 cases h with
 | word w hw => exact absurd hk (word_kind hw).1
 | list x u h => exact ⟨x, u, rfl, h, by simp; omega⟩
 | recd ns l ts => exact absurd (show (5 : Int) = 4 from hk) (by decide)
theorem IsT.rec5 {s : Sh} {t : List UInt8} (h : IsT s t) (hk : s.k = 5) : s.l.length = s.ns.length ∧ ∀ x ∈ s.l, ∃ u, IsT x u ∧ u.length ≤ t.length := by
 cases h with
 | word w hw => exact absurd hk (word_kind hw).2
 | list x u h => exact absurd (show (4 : Int) = 5 from hk) (by decide)
 | recd ns l ts h1 h2 hr h =>
  refine ⟨h1.symm, fun x hx => ?_⟩
  obtain ⟨i, hi, e⟩ := List.getElem_of_mem hx
  have hi : i < l.length := hi
  have e : l[i] = x := e
  have hti : i < ts.length := by omega
  have hf := fields_len (h1.trans h2) i _ (List.getElem?_eq_getElem hti)
  exact ⟨ts[i], h i x _ (by rw [List.getElem?_eq_getElem hi, e]) (List.getElem?_eq_getElem hti), by simp only [List.length_cons, List.length_append]; omega⟩
theorem own_l {k n : Int} {s : List UInt8} {l : List V} {ns : List (List UInt8)} (h : ownB k n s l.length ns = true) (h4 : k ≠ 4) (h5 : k ≠ 5) : l = [] := by
 have : l.length = 0 := by
  unfold ownB at h
  by_cases h0 : k = 0
  ·simp [h0] at h; simp [h]
  by_cases h1 : k = 1
  ·simp [h1] at h; simp [h]
  by_cases h2 : k = 2
  ·simp [h2] at h; simp [h]
  by_cases h6 : k = 6
  ·simp [h6] at h; simp [h]
  by_cases h3 : k = 3
  ·simp [h3] at h; simp [h]
  simp [h0, h1, h2, h3, h4, h5, h6] at h
 exact List.length_eq_zero_iff.1 this
theorem own_len {n : Int} {s : List UInt8} {m : Nat} {ns : List (List UInt8)} (h : ownB 5 n s m ns = true) : m = ns.length := by
 simp only [ownB, show ¬ (5 : Int) = 0 by decide, show ¬ (5 : Int) = 1 by decide, show ¬ (5 : Int) = 2 by decide, show ¬ (5 : Int) = 3 by decide, show ¬ (5 : Int) = 4 by decide, show ¬ (5 : Int) = 6 by decide, if_false, if_true, Bool.and_eq_true, beq_iff_eq] at h
 exact h.1.1.1.2
def subS (k : Int) (ss : List Sh) (i : Nat) : List Sh := if k = 4 then ss else ss.drop i
theorem hasL_step {l : List V} {k : Int} {ss : List Sh} {i : Nat} (hi : i < l.length) : hasL (l.drop i) k (subS k ss i) = (hasT l[i] ((subS k ss i).headD S0) && hasL (l.drop (i + 1)) k (subS k ss (i + 1))) := by
 rw [List.drop_eq_getElem_cons hi, hasL]
 congr 2
 unfold subS
 by_cases h : k = 4
 ·rw [if_pos h, if_pos h, if_pos h]
 ·rw [if_neg h, if_neg h, if_neg h, List.tail_drop]
theorem allVs_nth : ∀ {l : List V} {i : Nat} (_ : allVs l = true) (hi : i < l.length), allV l[i] = true
 | v :: r, 0, h, _ => by simp only [allVs, Bool.and_eq_true] at h; exact h.1
 | v :: r, i + 1, h, hi => by simp only [allVs, Bool.and_eq_true] at h; exact allVs_nth h.2 (by simpa using hi)
abbrev shc (s : Sh) (z1 : Nat) (t1 : Bool) (z2 : Nat) (lp : List PV) (t2 : Bool) : List PV := [.int .i64 s.k, .sl z1 (strs s.ns) t1 true, .sl z2 lp t2 true]
theorem IsT.ns_le {s : Sh} {t : List UInt8} (h : IsT s t) : s.ns.length ≤ t.length := by
 cases h with
 | word => exact Nat.zero_le _
 | list => exact Nat.zero_le _
 | recd ns l ts h1 h2 hr h =>
  show ns.length ≤ _
  by_cases hn : ns = []
  ·subst hn; exact Nat.zero_le _
  ·have h3 : ns.length - 1 < ts.length := by
    have : 0 < ns.length := List.length_pos_iff.2 hn
    omega
   have := fields_len (h1.trans h2) (ns.length - 1) _ (List.getElem?_eq_getElem h3)
   simp only [List.length_cons, List.length_append, List.length_nil]
   omega
set_option maxHeartbeats 16000000 in
theorem has_step {N : Nat} (ih : ∀ v : V, bulkV v ≤ N → bulkV v ≤ 100000000000 → allV v = true → ∀ (s : Sh) (u : List UInt8), IsT s u → u.length ≤ 1000000000 → ∀ (z1 z2 : Nat) (lp : List PV) (t1 t2 : Bool) (x1 x2 : Nat) (mp : List PV) (u1 u2 : Bool) (Post : PV → List (Nat × Blk) → Prop), VPs v.l lp → (z1 = 5 ∨ v.l = []) → (z2 = 1 ∨ v.ns = []) →
  ShPs s.l mp → (x1 = 1 ∨ s.ns = []) → (x2 = 3 ∨ s.l = []) → Post (.bool (hasT v s)) [] → Spec K 47 [.agg (shc s x1 u1 x2 mp u2), .agg (vc v z1 lp t1 z2 t2)] [] Post) :
 ∀ v : V, bulkV v ≤ N + 1 → bulkV v ≤ 100000000000 → allV v = true → ∀ (s : Sh) (u : List UInt8), IsT s u → u.length ≤ 1000000000 → ∀ (z1 z2 : Nat) (lp : List PV) (t1 t2 : Bool) (x1 x2 : Nat) (mp : List PV) (u1 u2 : Bool) (Post : PV → List (Nat × Blk) → Prop), VPs v.l lp → (z1 = 5 ∨ v.l = []) → (z2 = 1 ∨ v.ns = []) →
  ShPs s.l mp → (x1 = 1 ∨ s.ns = []) → (x2 = 3 ∨ s.l = []) → Post (.bool (hasT v s)) [] → Spec K 47 [.agg (shc s x1 u1 x2 mp u2), .agg (vc v z1 lp t1 z2 t2)] [] Post := by
 intro v hs hs9 hav sh u hu hul z1 z2 lp t1 t2 x1 x2 mp u1 u2 Post hl hz1 hz2 hm hx1 hx2 h
 have hnl := hu.ns_le
 have h4 := hu.list4
 have h5 := hu.rec5
 obtain ⟨k, n, s, l, ns⟩ := v
 obtain ⟨sk, sns, sl⟩ := sh
 simp only [V.k, V.n, V.s, V.l, V.ns, Sh.k, Sh.ns, Sh.l, vc, shc] at *
 have hlp := VPs_len hl
 have hmp := ShPs_len hm
 have hz1' : z1 = 5 ∨ lp = [] := hz1.imp (fun h => h) fun h => by rw [h] at hlp; exact List.length_eq_zero_iff.1 hlp
 have hx2' : x2 = 3 ∨ mp = [] := hx2.imp (fun h => h) fun h => by rw [h] at hmp; exact List.length_eq_zero_iff.1 hmp
 simp only [bulkV] at hs hs9
 have hnb := nsBulk_le ns
 have hlb := len_sizeVs l
 have hsb := sizes_bulk l
 simp only [allV, Bool.and_eq_true] at hav
 obtain ⟨how, hal⟩ := hav
 simp only [hasT, Sh.k, Sh.ns, Sh.l] at h
 refine is47.specC [31] K_ok K_mix false (by simp) (by simp [keys]) ?_
 (conv => whnf); repeat ((first | (apply And.intro;· exact Cl4) | apply T1 | apply T2 | apply T3 | apply T4 | apply T6 | apply T5); conv => whnf)
 by_cases hk : k = sk
 rotate_left
 ·rw [show (k != sk) = true by simpa using hk]
  (conv => whnf); repeat ((first | (apply And.intro;· exact Cl4) | apply T1 | apply T2 | apply T3 | apply T4 | apply T6 | apply T5); conv => whnf)
  have e : (k == sk) = false := by simpa using hk
  rw [e] at h
  exact h
 subst hk
 rw [beq_self_eq_true, Bool.true_and] at h
 rw [bne_self_eq_false]
 (conv => whnf); repeat ((first | (apply And.intro;· exact Cl4) | apply T1 | apply T2 | apply T3 | apply T4 | apply T6 | apply T5); conv => whnf)
 refine equal_spec ns sns z2 x1 t2 u1 hz2 hx1 (by omega) (by omega) _ ?_
 (conv => whnf); repeat ((first | (apply And.intro;· exact Cl4) | apply T1 | apply T2 | apply T3 | apply T4 | apply T6 | apply T5); conv => whnf)
 cases hn : (cmpNs ns sns == 0)
 ·rw [hn] at h
  (conv => whnf); repeat ((first | (apply And.intro;· exact Cl4) | apply T1 | apply T2 | apply T3 | apply T4 | apply T6 | apply T5); conv => whnf)
  exact h
 rw [hn, Bool.true_and] at h
 have hns : ns = sns := cmpNs_eq.1 (by simpa using hn)
 subst hns
 (conv => whnf); repeat ((first | (apply And.intro;· exact Cl4) | apply T1 | apply T2 | apply T3 | apply T4 | apply T6 | apply T5); conv => whnf)
 rw [hlp]
 have hidx : ∀ i, i < l.length → (k = 4 → sl.length = 1) ∧ (k ≠ 4 → sl.length = l.length) := fun i hi => by
  refine ⟨fun e => ?_, fun e => ?_⟩
  ·obtain ⟨x, u, hx, _⟩ := h4 e
   rw [hx]; rfl
  ·by_cases e5 : k = 5
   ·have := (h5 e5).1
    subst e5
    rw [this, own_len how]
   ·have := own_l how e e5
    subst this; simp at hi
 refine ⟨Nat, fun i => ⟨40, [(23, .int .i64 i), (22, .int .i64 l.length), (21, .sl z1 lp t1 true), (3, .ptr 1 0), (2, .ptr 0 0)], [(0, .box [.int .i64 k, .sl x1 (strs ns) u1 true, .sl x2 mp u2 true]), (1, .box [.int .i64 k, .int .i64 n, .str s, .sl z1 lp t1 true, .sl z2 (strs ns) t2 true])], []⟩, fun i => i ≤ l.length ∧ hasL l k sl = hasL (l.drop i) k (subS k sl i), fun i => l.length - i,
  ⟨[], 0, ⟨Nat.zero_le _, by unfold subS; split <;> rfl⟩, ?_⟩, fun i hI => ?_⟩
 ·simp [meets, ghosts, St.le, St.get, look, keys, PV.labs, labsL, lookB, Blk.labs]
 ·obtain ⟨hi, hin⟩ := hI
  conv => (arg 5; dsimp only)
  (conv => whnf); repeat ((first | (apply And.intro;· exact Cl4) | apply T1 | apply T2 | apply T3 | apply T4 | apply T6 | apply T5); conv => whnf)
  by_cases hix : i < l.length
  ·rw [decide_eq_true (show (i : Int) < (l.length : Int) by omega)]
   obtain ⟨y1, ap, v1, o1, y2, v2, o2, hp, hq, g1, g2, g3⟩ := (VPs_nth hl hix).out
   have hbm := bulkVs_mem hix
   obtain ⟨e4, e5⟩ := hidx i hix
   rw [hasL_step hix] at hin
   have key : ∃ j : Nat, (j : Int) = (if k = 4 then 0 else (i : Int)) ∧ ∃ hj : j < sl.length, (subS k sl i).headD S0 = sl[j] := by
    by_cases e : k = 4
    ·have hl1 := e4 e
     refine ⟨0, by rw [if_pos e]; rfl, by omega, ?_⟩
     unfold subS
     rw [if_pos e]
     cases sl with
     | nil => simp at hl1
     | cons x r => rfl
    ·have hl1 := e5 e
     refine ⟨i, by rw [if_neg e], by omega, ?_⟩
     unfold subS
     rw [if_neg e, List.drop_eq_getElem_cons (by omega)]; rfl
   obtain ⟨j, hj, hjl, hjh⟩ := key
   rw [hjh] at hin
   obtain ⟨w1, v3, o3, w2, bp, v4, o4, hsp, hsq, f1, f2⟩ := (ShPs_nth hm hjl).out
   have hut : ∃ u', IsT sl[j] u' ∧ u'.length ≤ 1000000000 := by
    by_cases e : k = 4
    ·obtain ⟨x, u', hx, hxu, hxl⟩ := h4 e
     have : sl[j] = x := by
      have hm : sl[j] ∈ sl := List.getElem_mem hjl
      have hall : ∀ y ∈ sl, y = x := by rw [hx]; simp
      exact hall _ hm
     exact ⟨u', by rw [this]; exact hxu, by omega⟩
    ·by_cases e5 : k = 5
     ·obtain ⟨u', hxu, hxl⟩ := (h5 e5).2 _ (List.getElem_mem hjl)
      exact ⟨u', hxu, by omega⟩
     ·have := own_l how e e5
      subst this; simp at hix
   obtain ⟨u', hu', hul'⟩ := hut
   (conv => whnf); repeat ((first | (apply And.intro;· exact Cl4) | apply T1 | apply T2 | apply T3 | apply T4 | apply T6 | apply T5); conv => whnf)
   rw [Int.toNat_natCast, hp]
   (conv => whnf); repeat ((first | (apply And.intro;· exact Cl4) | apply T1 | apply T2 | apply T3 | apply T4 | apply T6 | apply T5); conv => whnf)
   by_cases e : k = 4
   ·rw [if_pos e] at hj
    obtain rfl : j = 0 := by omega
    have hn1 : nth mp (Int.toNat 0) = _ := hsp
    rw [show (k == 4) = true by simpa using e]
    (conv => whnf); repeat ((first | (apply And.intro;· exact Cl4) | apply T1 | apply T2 | apply T3 | apply T4 | apply T6 | apply T5); conv => whnf)
    refine ⟨Unit, fun _ => ⟨40, [(38, .bool !(hasT l[i] sl[0])), (23, .int .i64 i), (22, .int .i64 l.length), (21, .sl z1 lp t1 true), (3, .ptr 1 0), (2, .ptr 0 0)], [(0, .box [.int .i64 k, .sl x1 (strs ns) u1 true, .sl x2 mp u2 true]), (1, .box [.int .i64 k, .int .i64 n, .str s, .sl z1 lp t1 true, .sl z2 (strs ns) t2 true])], []⟩, fun _ => True, ?_, fun _ _ => ?_⟩
    ·(conv => whnf); repeat' (first | ((first | (apply And.intro;· exact Cl4) | apply T1 | apply T2 | apply T3 | apply T4 | apply T6 | apply T5); conv => whnf) | (rw [hn1]; conv => whnf) | (refine ih l[i] (by omega) (by omega) (allVs_nth hal hix) sl[0] u' hu' hul' y1 y2 ap _ _ w1 w2 bp _ _ _ hq g1 g2 hsq f1 f2 ?_; conv => whnf) | ((refine Both.mk ?_ ?_ <;> fail_if_success (intro _)) <;> conv => whnf))
     all_goals (
      refine ⟨[], (), trivial, ?_⟩
      simp [meets, ghosts, St.le, St.get, look, keys, PV.labs, labsL, lookB, Blk.labs])
    conv => (arg 4; dsimp only)
    (conv => whnf); repeat ((first | (apply And.intro;· exact Cl4) | apply T1 | apply T2 | apply T3 | apply T4 | apply T6 | apply T5); conv => whnf)
    cases hb : hasT l[i] sl[0]
    ·rw [hb, Bool.false_and] at hin
     refine Both.T (by rfl) ?_
     (conv => whnf); repeat ((first | (apply And.intro;· exact Cl4) | apply T1 | apply T2 | apply T3 | apply T4 | apply T6 | apply T5); conv => whnf)
     rw [hin] at h
     exact h
    ·rw [hb, Bool.true_and] at hin
     refine Both.F (by rfl) ?_
     (conv => whnf); repeat ((first | (apply And.intro;· exact Cl4) | apply T1 | apply T2 | apply T3 | apply T4 | apply T6 | apply T5); conv => whnf)
     rw [wrap64 (n := (i : Int) + 1) (by omega) (by omega)]
     refine ⟨[], i + 1, ⟨hix, hin⟩, by show l.length - (i + 1) < l.length - i; omega, ?_⟩
     simp [meets, ghosts, St.le, St.get, look, keys, PV.labs, labsL, lookB, Blk.labs]
   ·rw [if_neg e] at hj
    have hn1 : nth mp (Int.toNat (i : Int)) = _ := (congrArg (nth mp) (show ((i : Int)).toNat = j by omega)).trans hsp
    rw [show (k == 4) = false by simpa using e]
    (conv => whnf); repeat ((first | (apply And.intro;· exact Cl4) | apply T1 | apply T2 | apply T3 | apply T4 | apply T6 | apply T5); conv => whnf)
    refine ⟨Unit, fun _ => ⟨40, [(38, .bool !(hasT l[i] sl[j])), (23, .int .i64 i), (22, .int .i64 l.length), (21, .sl z1 lp t1 true), (3, .ptr 1 0), (2, .ptr 0 0)], [(0, .box [.int .i64 k, .sl x1 (strs ns) u1 true, .sl x2 mp u2 true]), (1, .box [.int .i64 k, .int .i64 n, .str s, .sl z1 lp t1 true, .sl z2 (strs ns) t2 true])], []⟩, fun _ => True, ?_, fun _ _ => ?_⟩
    ·(conv => whnf); repeat' (first | ((first | (apply And.intro;· exact Cl4) | apply T1 | apply T2 | apply T3 | apply T4 | apply T6 | apply T5); conv => whnf) | (rw [hn1]; conv => whnf) | (refine ih l[i] (by omega) (by omega) (allVs_nth hal hix) sl[j] u' hu' hul' y1 y2 ap _ _ w1 w2 bp _ _ _ hq g1 g2 hsq f1 f2 ?_; conv => whnf) | ((refine Both.mk ?_ ?_ <;> fail_if_success (intro _)) <;> conv => whnf))
     all_goals (
      refine ⟨[], (), trivial, ?_⟩
      simp [meets, ghosts, St.le, St.get, look, keys, PV.labs, labsL, lookB, Blk.labs])
    conv => (arg 4; dsimp only)
    (conv => whnf); repeat ((first | (apply And.intro;· exact Cl4) | apply T1 | apply T2 | apply T3 | apply T4 | apply T6 | apply T5); conv => whnf)
    cases hb : hasT l[i] sl[j]
    ·rw [hb, Bool.false_and] at hin
     refine Both.T (by rfl) ?_
     (conv => whnf); repeat ((first | (apply And.intro;· exact Cl4) | apply T1 | apply T2 | apply T3 | apply T4 | apply T6 | apply T5); conv => whnf)
     rw [hin] at h
     exact h
    ·rw [hb, Bool.true_and] at hin
     refine Both.F (by rfl) ?_
     (conv => whnf); repeat ((first | (apply And.intro;· exact Cl4) | apply T1 | apply T2 | apply T3 | apply T4 | apply T6 | apply T5); conv => whnf)
     rw [wrap64 (n := (i : Int) + 1) (by omega) (by omega)]
     refine ⟨[], i + 1, ⟨hix, hin⟩, by show l.length - (i + 1) < l.length - i; omega, ?_⟩
     simp [meets, ghosts, St.le, St.get, look, keys, PV.labs, labsL, lookB, Blk.labs]
  ·obtain rfl : i = l.length := by omega
   rw [decide_eq_false (show ¬ (l.length : Int) < (l.length : Int) by omega)]
   (conv => whnf); repeat ((first | (apply And.intro;· exact Cl4) | apply T1 | apply T2 | apply T3 | apply T4 | apply T6 | apply T5); conv => whnf)
   rw [hin, List.drop_length] at h
   exact h
theorem has_all : ∀ (N : Nat) (v : V), bulkV v ≤ N → bulkV v ≤ 100000000000 → allV v = true → ∀ (s : Sh) (u : List UInt8), IsT s u → u.length ≤ 1000000000 → ∀ (z1 z2 : Nat) (lp : List PV) (t1 t2 : Bool) (x1 x2 : Nat) (mp : List PV) (u1 u2 : Bool) (Post : PV → List (Nat × Blk) → Prop), VPs v.l lp → (z1 = 5 ∨ v.l = []) → (z2 = 1 ∨ v.ns = []) →
  ShPs s.l mp → (x1 = 1 ∨ s.ns = []) → (x2 = 3 ∨ s.l = []) → Post (.bool (hasT v s)) [] → Spec K 47 [.agg (shc s x1 u1 x2 mp u2), .agg (vc v z1 lp t1 z2 t2)] [] Post
 | 0 => fun v hv => absurd (bulkV_pos v) (by omega)
 | N + 1 => has_step (has_all N)
set_option maxHeartbeats 8000000 in
theorem is_spec (v : V) (t : List UInt8) (ht : t.length ≤ 1000000000) (z1 z2 : Nat) (lp : List PV) (t1 t2 : Bool) (a : VA v z1 lp z2) (Post : PV → List (Nat × Blk) → Prop) (h : Post (.bool (isVB v t)) []) : Spec K 26 [.agg (vc v z1 lp t1 z2 t2), .str t] [] Post := by
 refine is26.specW K_ok K_mix false (by simp) (by simp [keys]) ?_
 unfold isVB at h
 (conv => whnf); repeat ((first | (apply And.intro;· exact Cl4) | apply T1 | apply T2 | apply T3 | apply T4 | apply T6 | apply T5); conv => whnf)
 refine typed_spec t ht _ (fun k w1 L1 w2 L2 hsh => ?_)
 (conv => whnf); repeat ((first | (apply And.intro;· exact Cl4) | apply T1 | apply T2 | apply T3 | apply T4 | apply T6 | apply T5); conv => whnf)
 cases hf : fitsT t
 ·rw [hf] at h
  (conv => whnf); repeat ((first | (apply And.intro;· exact Cl4) | apply T1 | apply T2 | apply T3 | apply T4 | apply T6 | apply T5); conv => whnf)
  exact h
 rw [hf, Bool.true_and] at h
 have hsh := hsh hf
 (conv => whnf); repeat ((first | (apply And.intro;· exact Cl4) | apply T1 | apply T2 | apply T3 | apply T4 | apply T6 | apply T5); conv => whnf)
 refine check_spec v z1 z2 lp _ _ _ a ?_
 cases hm : mayV v
 ·rw [hm] at h
  (conv => whnf); repeat ((first | (apply And.intro;· exact Cl4) | apply T1 | apply T2 | apply T3 | apply T4 | apply T6 | apply T5); conv => whnf)
  exact h
 rw [hm, Bool.true_and] at h
 (conv => whnf); repeat ((first | (apply And.intro;· exact Cl4) | apply T1 | apply T2 | apply T3 | apply T4 | apply T6 | apply T5); conv => whnf)
 obtain ⟨hu, hul⟩ := tree_fits hf
 generalize treeT t = sh at h hsh hu
 obtain ⟨q1, b1, o1, q2, mp, b2, o2, e, hs, f1, f2⟩ := hsh.out
 cases e
 refine has_all _ v (Nat.le_refl _) a.b (okV_iff.1 hm).2 sh t hu (by omega) z1 z2 lp _ _ _ _ _ _ _ _ a.l a.z1 a.z2 hs f1 f2 ?_
 (conv => whnf); repeat ((first | (apply And.intro;· exact Cl4) | apply T1 | apply T2 | apply T3 | apply T4 | apply T6 | apply T5); conv => whnf)
 exact h
end Go.Vc
