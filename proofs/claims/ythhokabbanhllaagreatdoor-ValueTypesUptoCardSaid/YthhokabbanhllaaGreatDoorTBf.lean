/- What is proved here: contracts of functions of the program: of each function what it hands back and what it leaves in memory. Conditions: those that each theorem names. -/
import Derived.Test.YthhokabbanhllaaGreatDoorTBd
import Derived.Test.YthhokabbanhllaaGreatDoorTBe
set_option linter.unusedVariables false
set_option linter.unusedSimpArgs false
set_option linter.unusedSectionVars false
namespace Go.Vc
open Go Go.Proofs
set_option maxRecDepth 100000
theorem cut_len (t : List UInt8) : (cutM t).2.1.length ≤ t.length ∧ ((cutM t).2.2 = true → (cutM t).2.1.length + 1 ≤ t.length) ∧ ((cutM t).2.2 = false → (cutM t).2.1 = []) := by
 unfold cutM
 have := colon_le t
 split
 ·simp only [List.length_drop]; refine ⟨by omega, fun _ => by omega, fun h => by cases h⟩
 ·exact ⟨Nat.zero_le _, fun h => (by cases h), fun _ => rfl⟩
theorem rest_len : ∀ n, (∀ t, (readM n t).1.length ≤ t.length) ∧ (∀ ns t, (recM n ns t).1.length ≤ t.length)
 | 0 => ⟨fun t => by simp [readM], fun ns t => by simp [recM]⟩
 | n + 1 => by
  obtain ⟨h1, h2⟩ := rest_len n
  refine ⟨fun t => ?_, fun ns t => ?_⟩
  ·unfold readM
   split
   ·rename_i r
    have := h1 r
    split
    ·rename_i l ok he
     rw [he] at this
     simp only [List.length_cons] at this ⊢; omega
    ·rename_i l ok _ he
     rw [he] at this
     simp only [List.length_cons] at this ⊢; omega
   ·simp only [List.length_cons]; omega
   ·rename_i r _
    have := h2 [] r
    simp only [List.length_cons]; omega
   ·simp only [List.length_drop]; omega
  ·unfold recM
   have hc := (cut_len t).1
   split
   rename_i l ok he
   have h3 := h1 (cutM t).2.1
   rw [he] at h3
   split
   ·simp only [List.length_cons] at h3 ⊢; omega
   ·rename_i hx1 r hx2
    have := h2 (ns ++ [(cutM t).1]) r
    simp only [List.length_cons] at h3 ⊢; omega
   ·simp
abbrev shp (k : Int) (z1 : Nat) (L1 : List PV) (z2 : Nat) (L2 : List PV) : PV := .agg [.int .i64 k, .sl z1 L1 false true, .sl z2 L2 false true]
mutual
def ShP : Sh → PV → Prop
 | .mk k ns l, p => ∃ z1 t1 o1 z2 lp t2 o2, p = .agg [.int .i64 k, .sl z1 (strs ns) t1 o1, .sl z2 lp t2 o2] ∧ ShPs l lp ∧ (z1 = 1 ∨ ns = []) ∧ (z2 = 3 ∨ l = [])
def ShPs : List Sh → List PV → Prop
 | [], lp => lp = []
 | v :: r, lp => ∃ p q, lp = p :: q ∧ ShP v p ∧ ShPs r q
end
theorem ShP.out : ∀ {s : Sh} {p : PV}, ShP s p → ∃ z1 t1 o1 z2 lp t2 o2, p = .agg [.int .i64 s.k, .sl z1 (strs s.ns) t1 o1, .sl z2 lp t2 o2] ∧ ShPs s.l lp ∧ (z1 = 1 ∨ s.ns = []) ∧ (z2 = 3 ∨ s.l = [])
 | .mk _ _ _, _, h => h
theorem ShPs_len : ∀ {l : List Sh} {lp : List PV}, ShPs l lp → lp.length = l.length
 | [], lp, h => by simp only [ShPs] at h; subst h; rfl
 | v :: r, lp, h => by
  simp only [ShPs] at h
  obtain ⟨p, q, rfl, _, h2⟩ := h
  simp [ShPs_len h2]
theorem ShPs_nth : ∀ {l : List Sh} {lp : List PV}, ShPs l lp → ∀ {i : Nat} (hi : i < l.length), ShP l[i] (nth lp i)
 | v :: r, lp, h, 0, hi => by
  simp only [ShPs] at h
  obtain ⟨p, q, rfl, h1, _⟩ := h
  exact h1
 | v :: r, lp, h, i + 1, hi => by
  simp only [ShPs] at h
  obtain ⟨p, q, rfl, _, h2⟩ := h
  exact ShPs_nth h2 (i := i) (by simpa using hi)
theorem ShPs_snoc : ∀ {l : List Sh} {lp : List PV} {v : Sh} {p : PV}, ShPs l lp → ShP v p → ShPs (l ++ [v]) (lp ++ [p])
 | [], lp, v, p, h, hp => by simp only [ShPs] at h; subst h; exact ⟨p, [], rfl, hp, rfl⟩
 | a :: r, lp, v, p, h, hp => by
  simp only [ShPs] at h
  obtain ⟨x, y, rfl, h1, h2⟩ := h
  exact ⟨x, y ++ [p], rfl, h1, ShPs_snoc h2 hp⟩
def ShC (n : Nat) (t : List UInt8) (p : PV) : Prop := (readM n t).2 = true → ∃ s w, IsT s w ∧ t = w ++ (readM n t).1 ∧ ShP s p
def ShRC (n : Nat) (t : List UInt8) (p : PV) : Prop := (recM n [] t).2 = true → ∃ s w, IsT s (123 :: w) ∧ t = w ++ (recM n [] t).1 ∧ ShP s p
def ReadC (n : Nat) : Prop := ∀ t, 2 * t.length + 1 ≤ n → t.length ≤ 1000000 → ∀ Post : PV → List (Nat × Blk) → Prop, (∀ k z1 L1 z2 L2, ShC n t (shp k z1 L1 z2 L2) → Post (.tup [shp k z1 L1 z2 L2, .str (readM n t).1, .bool (readM n t).2]) []) → Spec K 72 [.str t] [] Post
def RecC (n : Nat) : Prop := ∀ t, 2 * t.length + 2 ≤ n → t.length ≤ 1000000 → ∀ Post : PV → List (Nat × Blk) → Prop, (∀ k z1 L1 z2 L2, ShRC n t (shp k z1 L1 z2 L2) → Post (.tup [shp k z1 L1 z2 L2, .str (recM n [] t).1, .bool (recM n [] t).2]) []) → Spec K 88 [.str t] [] Post
theorem pre1 {c : UInt8} {t : List UInt8} (h : ([c] : List UInt8).isPrefixOf t = true) : ∃ r, t = c :: r := by
 obtain ⟨r, hr⟩ := List.isPrefixOf_iff_prefix.1 h
 exact ⟨r, hr.symm⟩
theorem pre2 {c d : UInt8} {t : List UInt8} (h : ([c, d] : List UInt8).isPrefixOf t = true) : ∃ r, t = c :: d :: r := by
 obtain ⟨r, hr⟩ := List.isPrefixOf_iff_prefix.1 h
 exact ⟨r, hr.symm⟩
theorem pre_no {c : UInt8} {t : List UInt8} (h : ([c] : List UInt8).isPrefixOf t = false) : ∀ r, t ≠ c :: r := by
 intro r hr
 rw [hr] at h
 simp [List.isPrefixOf] at h
theorem pre2_no {c d : UInt8} {t : List UInt8} (h : ([c, d] : List UInt8).isPrefixOf t = false) : ∀ r, t ≠ c :: d :: r := by
 intro r hr
 rw [hr] at h
 simp [List.isPrefixOf] at h
theorem pre0 (l : List UInt8) (ok : Bool) : (match ((l, ok) : List UInt8 × Bool) with | (93 :: l, ok) => (l, ok) | (l, _) => (l, false)) = ((cutPre [93] l).1, ok && (cutPre [93] l).2) := by
 unfold cutPre
 cases hp : ([93] : List UInt8).isPrefixOf l
 ·have := pre_no hp
  simp only [Bool.false_eq_true, if_false, Bool.and_false]
 ·obtain ⟨r, rfl⟩ := pre1 hp
  simp
theorem word_step {t : List UInt8} {i : Nat} (hi : i ≤ (wordM t).length) (hlt : i < t.length) : (low t[i] = true → i + 1 ≤ (wordM t).length) ∧ (low t[i] = false → i = (wordM t).length) := by
 unfold wordM at *
 induction t generalizing i with
 | nil => simp at hlt
 | cons c r ih =>
  cases hc : low c
  ·rw [List.takeWhile_cons, hc] at hi ⊢
   simp only [Bool.false_eq_true, if_false, List.length_nil] at hi ⊢
   obtain rfl : i = 0 := by omega
   exact ⟨fun h => (by simp [hc] at h), fun _ => rfl⟩
  ·rw [List.takeWhile_cons, hc] at hi ⊢
   simp only [if_true, List.length_cons] at hi ⊢
   cases i with
   | zero => exact ⟨fun _ => by omega, fun h => (by simp [hc] at h)⟩
   | succ i =>
    have := ih (i := i) (by omega) (by simpa using hlt)
    simp only [List.getElem_cons_succ]
    exact ⟨fun h => by have := this.1 h; omega, fun h => by have := this.2 h; omega⟩
theorem word_le (t : List UInt8) : (wordM t).length ≤ t.length := (List.takeWhile_sublist _).length_le
theorem word_take (t : List UInt8) : t.take (wordM t).length = wordM t := by
 have := List.takeWhile_prefix low (l := t)
 exact (List.prefix_iff_eq_take.1 this).symm
set_option maxHeartbeats 8000000 in
theorem read_step {n : Nat} (hr : ReadC n) (hc : RecC n) : ReadC (n + 1) := by
 intro t ht hl Post h
 refine is72.specW K_ok K_mix false (by simp) (by simp [keys]) ?_
 (conv => whnf); repeat ((first | (apply And.intro;· exact Cl4) | apply T1 | apply T2 | apply T3 | apply T4 | apply T6 | apply T5); conv => whnf)
 refine pref_spec t [91] (by omega) (by decide) _ ?_
 cases p1 : ([91] : List UInt8).isPrefixOf t
 case true =>
  obtain ⟨r, hr0⟩ := pre1 p1
  have hlen : t.length = r.length + 1 := by rw [hr0]; rfl
  have hd : List.drop 1 (List.take t.length t) = r := by rw [hr0]; simp
  have hrl := (rest_len n).1 r
  have hm : readM (n + 1) t = ((cutPre [93] (readM n r).1).1, (readM n r).2 && (cutPre [93] (readM n r).1).2) := by
   rw [hr0]
   show (match readM n r with | (93 :: l, ok) => (l, ok) | (l, _) => (l, false)) = _
   generalize readM n r = x
   obtain ⟨l, ok⟩ := x
   exact pre0 l ok
  rw [hm] at h
  (conv => whnf); repeat ((first | (apply And.intro;· exact Cl4) | apply T1 | apply T2 | apply T3 | apply T4 | apply T6 | apply T5); conv => whnf)
  rw [show (1 : Int).toNat = 1 from rfl, hd]
  refine hr r (by omega) (by omega) _ (fun k z1 L1 z2 L2 hsh => ?_)
  (conv => whnf); repeat ((first | (apply And.intro;· exact Cl4) | apply T1 | apply T2 | apply T3 | apply T4 | apply T6 | apply T5); conv => whnf)
  refine cutPre_spec (readM n r).1 [93] (by omega) (by decide) _ ?_
  (conv => whnf); repeat ((first | (apply And.intro;· exact Cl4) | apply T1 | apply T2 | apply T3 | apply T4 | apply T6 | apply T5); conv => whnf)
  rw [show (bif (readM n r).2 then (cutPre [93] (readM n r).1).2 else false) = ((readM n r).2 && (cutPre [93] (readM n r).1).2) from by cases (readM n r).2 <;> rfl]
  refine h _ _ _ _ _ fun hok => ?_
  rw [hm] at hok ⊢
  simp only [Bool.and_eq_true] at hok
  obtain ⟨s, w, h1, h2, h3⟩ := hsh hok.1
  obtain ⟨q, hq⟩ : ∃ q, (readM n r).1 = 93 :: q := by
   have := hok.2
   unfold cutPre at this
   split at this
   ·rename_i hp; exact pre1 hp
   ·cases this
  refine ⟨_, _, .list s w h1, ?_, ?_⟩
  ·rw [hr0]
   conv => lhs; rw [h2, hq]
   rw [show (cutPre [93] (readM n r).1).1 = q by rw [hq]; rfl]
   simp
  ·exact ⟨_, _, _, _, _, _, _, rfl, ⟨_, _, rfl, h3, rfl⟩, .inr rfl, .inl rfl⟩
 case false =>
 (conv => whnf); repeat ((first | (apply And.intro;· exact Cl4) | apply T1 | apply T2 | apply T3 | apply T4 | apply T6 | apply T5); conv => whnf)
 refine pref_spec t [123, 125] (by omega) (by decide) _ ?_
 cases p2 : ([123, 125] : List UInt8).isPrefixOf t
 case true =>
  obtain ⟨r, hr0⟩ := pre2 p2
  have hlen : t.length = r.length + 2 := by rw [hr0]; rfl
  have hm : readM (n + 1) t = (r, true) := by rw [hr0]; rfl
  rw [hm] at h
  (conv => whnf); repeat ((first | (apply And.intro;· exact Cl4) | apply T1 | apply T2 | apply T3 | apply T4 | apply T6 | apply T5); conv => whnf)
  (conv => whnf); repeat' (first | ((first | (apply And.intro;· exact Cl4) | apply T1 | apply T2 | apply T3 | apply T4 | apply T6 | apply T5); conv => whnf) | (fail; conv => whnf) | ((refine Both.mk ?_ ?_ <;> fail_if_success (intro _)) <;> conv => whnf))
  all_goals (rw [List.take_length, show List.drop (Int.toNat 2) t = r from by rw [hr0]; rfl]; exact h _ _ _ _ _ (fun _ => ⟨_, _, .recd [] [] [] rfl rfl rfl (fun i s t h => by simp at h), by rw [hm, hr0]; rfl, _, _, _, _, _, _, _, rfl, rfl, .inr rfl, .inr rfl⟩))
 case false =>
 (conv => whnf); repeat ((first | (apply And.intro;· exact Cl4) | apply T1 | apply T2 | apply T3 | apply T4 | apply T6 | apply T5); conv => whnf)
 refine pref_spec t [123] (by omega) (by decide) _ ?_
 cases p3 : ([123] : List UInt8).isPrefixOf t
 case true =>
  obtain ⟨r, hr0⟩ := pre1 p3
  have hlen : t.length = r.length + 1 := by rw [hr0]; rfl
  have hd : List.drop 1 (List.take t.length t) = r := by rw [hr0]; simp
  have hm : readM (n + 1) t = recM n [] r := by
   have := pre2_no p2
   rw [hr0] at this ⊢
   unfold readM
   split
   ·rename_i h; cases h
   ·rename_i h; cases h; exact absurd rfl (this _)
   ·rename_i h; cases h; rfl
   ·rename_i h1 h2; exact absurd rfl (h2 _)
  rw [hm] at h
  (conv => whnf); repeat ((first | (apply And.intro;· exact Cl4) | apply T1 | apply T2 | apply T3 | apply T4 | apply T6 | apply T5); conv => whnf)
  rw [show (1 : Int).toNat = 1 from rfl, hd]
  refine hc r (by omega) (by omega) _ (fun k z1 L1 z2 L2 hsh => ?_)
  (conv => whnf); repeat ((first | (apply And.intro;· exact Cl4) | apply T1 | apply T2 | apply T3 | apply T4 | apply T6 | apply T5); conv => whnf)
  refine h _ _ _ _ _ fun hok => ?_
  rw [hm] at hok ⊢
  obtain ⟨s, w, h1, h2, h3⟩ := hsh hok
  exact ⟨s, _, h1, by rw [hr0]; conv => { lhs; rw [h2] }; rfl, h3⟩
 case false =>
 have hm : readM (n + 1) t = (t.drop (wordM t).length, decide (0 ≤ kindM (wordM t))) := by
  have a1 := pre_no p1
  have a2 := pre2_no p2
  have a3 := pre_no p3
  unfold readM
  split
  ·exact absurd rfl (a1 _)
  ·exact absurd rfl (a2 _)
  ·exact absurd rfl (a3 _)
  ·rfl
 rw [hm] at h
 (conv => whnf); repeat ((first | (apply And.intro;· exact Cl4) | apply T1 | apply T2 | apply T3 | apply T4 | apply T6 | apply T5); conv => whnf)
 have hwl := word_le t
 refine ⟨Nat, fun i => ⟨78, [(9, .int .i64 i), (2, .ptr 0 0), (0, .str t)], [(0, .box [.int .i64 0, .sl 0 [] true false, .sl 0 [] true false])], []⟩, fun i => i ≤ (wordM t).length, fun i => t.length - i, ⟨[], 0, Nat.zero_le _, ?_⟩, fun i hi => ?_⟩
 ·simp [meets, ghosts, St.le, St.get, look, keys, PV.labs, labsL, lookB, Blk.labs]
 ·conv => (arg 5; dsimp only)
  have fin : i = (wordM t).length → ∀ z1 z2, Post (.tup [shp (kindM (t.take i)) z1 [] z2 [], .str (List.drop i t), .bool (decide (0 ≤ kindM (t.take i)))]) [] := fun e z1 z2 => by
   rw [e, word_take]
   refine h _ _ _ _ _ (fun hok => ?_)
   rw [hm] at hok ⊢
   have hw := kind_words (of_decide_eq_true hok)
   exact ⟨_, _, .word _ hw, (word_split t).symm, _, _, _, _, _, _, _, rfl, rfl, .inr rfl, .inr rfl⟩
  (conv => whnf); repeat ((first | (apply And.intro;· exact Cl4) | apply T1 | apply T2 | apply T3 | apply T4 | apply T6 | apply T5); conv => whnf)
  by_cases hix : i < t.length
  ·obtain ⟨hw1, hw2⟩ := word_step hi hix
   rw [decide_eq_true (show (i : Int) < (t.length : Int) by omega)]
   (conv => whnf); repeat ((first | (apply And.intro;· exact Cl4) | apply T1 | apply T2 | apply T3 | apply T4 | apply T6 | apply T5); conv => whnf)
   have hg : t.getD ((i : Int)).toNat 0 = t[i] := by rw [Int.toNat_natCast, List.getD_eq_getElem?_getD, List.getElem?_eq_getElem hix]; rfl
   rw [hg]
   have he : (bif (bif true then decide (97 ≤ (t[i].toNat : Int)) else false) then decide ((t[i].toNat : Int) ≤ 122) else false) = low t[i] := by
    unfold low
    rw [show decide (97 ≤ (t[i].toNat : Int)) = decide (97 ≤ t[i].toNat) from decide_eq_decide.2 (by omega), show decide ((t[i].toNat : Int) ≤ 122) = decide (t[i].toNat ≤ 122) from decide_eq_decide.2 (by omega)]
    cases decide (97 ≤ t[i].toNat) <;> rfl
   cases hlw : low t[i]
   ·refine Both.F (by rw [he]; exact hlw) ?_
    have e := hw2 hlw
    (conv => whnf); repeat ((first | (apply And.intro;· exact Cl4) | apply T1 | apply T2 | apply T3 | apply T4 | apply T6 | apply T5); conv => whnf)
    rw [List.drop_zero, Int.toNat_natCast]
    refine kind_spec (t.take i) _ ?_
    (conv => whnf); repeat' (first | ((first | (apply And.intro;· exact Cl4) | apply T1 | apply T2 | apply T3 | apply T4 | apply T6 | apply T5); conv => whnf) | (fail; conv => whnf) | ((refine Both.mk ?_ ?_ <;> fail_if_success (intro _)) <;> conv => whnf))
    all_goals (rw [List.take_length, Int.toNat_natCast]; exact fin e _ _)
   ·refine Both.T (by rw [he]; exact hlw) ?_
    have e := hw1 hlw
    (conv => whnf); repeat ((first | (apply And.intro;· exact Cl4) | apply T1 | apply T2 | apply T3 | apply T4 | apply T6 | apply T5); conv => whnf)
    rw [wrap64 (n := (i : Int) + 1) (by omega) (by omega)]
    refine ⟨[], i + 1, e, by show t.length - (i + 1) < t.length - i; omega, ?_⟩
    simp [meets, ghosts, St.le, St.get, look, keys, PV.labs, labsL, lookB, Blk.labs]
  ·obtain rfl : i = t.length := by omega
   have e : t.length = (wordM t).length := by omega
   rw [decide_eq_false (show ¬ (t.length : Int) < (t.length : Int) by omega)]
   (conv => whnf); repeat ((first | (apply And.intro;· exact Cl4) | apply T1 | apply T2 | apply T3 | apply T4 | apply T6 | apply T5); conv => whnf)
   rw [List.drop_zero, Int.toNat_natCast]
   refine kind_spec (t.take t.length) _ ?_
   (conv => whnf); repeat' (first | ((first | (apply And.intro;· exact Cl4) | apply T1 | apply T2 | apply T3 | apply T4 | apply T6 | apply T5); conv => whnf) | (fail; conv => whnf) | ((refine Both.mk ?_ ?_ <;> fail_if_success (intro _)) <;> conv => whnf))
   all_goals (rw [show List.drop ((t.length : Int)).toNat (List.take t.length t) = List.drop t.length t from by rw [List.take_length, Int.toNat_natCast]]; exact fin e _ _)
end Go.Vc
