/- What is proved here: contracts of functions of the program: of each function what it hands back and what it leaves in memory. Conditions: those that each theorem names. -/
import Derived.Test.YthhokabbanhllaaGreatDoorTBb
set_option linter.unusedVariables false
set_option linter.unusedSimpArgs false
set_option linter.unusedSectionVars false
namespace Go.Vc
open Go Go.Proofs
set_option maxRecDepth 100000
theorem colon_idx (s : List UInt8) : colon s = idxL (fun b => b == 58) s := by
 unfold colon
 induction s with
 | nil => rfl
 | cons a r ih =>
  unfold Lib.indexByte idxL
  rw [ih]
  cases a == 58
  ·cases h : (idxL (fun b => b == 58) r == -1)
   ·have : ¬ idxL (fun b => b == 58) r = -1 := by simpa using h
    simp [this]
   ·have : idxL (fun b => b == 58) r = -1 := by simpa using h
    simp [this]
  ·rfl
def fieldR (t : List UInt8) : List UInt8 × Int × Bool := if (cutM t).2.2 = true then ((cutM t).1, (cutM t).1.length + 1, isName (cutM t).1) else ([], 0, false)
theorem cutM_at {t : List UInt8} {i : Nat} (h : colon t = i) (hi : i < t.length) : cutM t = (t.take i, t.drop (i + 1), true) := by
 unfold cutM; rw [h, if_pos (by omega)]; rfl
theorem cutM_no {t : List UInt8} (h : colon t = -1) : cutM t = (t, [], false) := by
 unfold cutM; rw [h]; rfl
theorem u8_eq (c : UInt8) (n : Nat) (hn : n < 256) : ((c.toNat : Int) == (n : Int)) = (c == UInt8.ofNat n) := by
 rw [Bool.eq_iff_iff, beq_iff_eq, beq_iff_eq]
 constructor
 ·intro h
  apply UInt8.toNat.inj
  show c.toNat = n % 256
  omega
 ·intro h
  subst h
  show ((n % 256 : Nat) : Int) = n
  omega
set_option maxHeartbeats 4000000 in
theorem fieldR_spec (t : List UInt8) (ht : t.length ≤ 1000000000) (Post : PV → List (Nat × Blk) → Prop) (h : Post (.tup [.str (fieldR t).1, .int .i64 (fieldR t).2.1, .bool (fieldR t).2.2]) []) : Spec K 74 [.str t] [] Post := by
 refine is74.specW K_ok K_mix false (by simp) (by simp [keys]) ?_
 (conv => whnf); repeat ((first | (apply And.intro;· exact Cl4) | apply T1 | apply T2 | apply T3 | apply T4 | apply T6 | apply T5); conv => whnf)
 refine ⟨Nat, fun i => ⟨25, [(5, .int .i64 i), (4, .bool false), (3, .int .i64 0), (2, .str []), (0, .str t)], [], []⟩, fun i => i ≤ t.length ∧ colon t = sh i (idxL (fun b => b == 58) (t.drop i)), fun i => t.length - i, ⟨[], 0, ⟨Nat.zero_le _, by rw [colon_idx]; exact sh_zero.symm⟩, ?_⟩, fun i hI => ?_⟩
 ·simp [meets, ghosts, St.le, St.get, look, keys, PV.labs, labsL, lookB, Blk.labs]
 ·obtain ⟨hi, hin⟩ := hI
  conv => (arg 5; dsimp only)
  (conv => whnf); repeat ((first | (apply And.intro;· exact Cl4) | apply T1 | apply T2 | apply T3 | apply T4 | apply T6 | apply T5); conv => whnf)
  by_cases hix : i < t.length
  ·rw [decide_eq_true (show (i : Int) < (t.length : Int) by omega)]
   (conv => whnf); repeat ((first | (apply And.intro;· exact Cl4) | apply T1 | apply T2 | apply T3 | apply T4 | apply T6 | apply T5); conv => whnf)
   have hg : t.getD i 0 = t[i] := by rw [List.getD_eq_getElem?_getD, List.getElem?_eq_getElem hix]; rfl
   rw [Int.toNat_natCast, hg]
   cases hp : t[i] == 58
   ·rw [show ((t[i].toNat : Int) == 58) = false by rw [← hp]; exact u8_eq t[i] 58 (by omega)]
    (conv => whnf); repeat ((first | (apply And.intro;· exact Cl4) | apply T1 | apply T2 | apply T3 | apply T4 | apply T6 | apply T5); conv => whnf)
    rw [wrap64 (n := (i : Int) + 1) (by omega) (by omega)]
    refine ⟨[], i + 1, ⟨hix, by rw [hin]; exact sh_step (P := fun b => b == 58) hix hp⟩, by show t.length - (i + 1) < t.length - i; omega, ?_⟩
    simp [meets, ghosts, St.le, St.get, look, keys, PV.labs, labsL, lookB, Blk.labs]
   ·rw [show ((t[i].toNat : Int) == 58) = true by rw [← hp]; exact u8_eq t[i] 58 (by omega)]
    rw [sh_hit (P := fun b => b == 58) hix hp] at hin
    have hcm := cutM_at hin hix
    unfold fieldR at h
    rw [hcm] at h
    simp only [if_true, List.length_take, Nat.min_eq_left hi] at h
    (conv => whnf); repeat ((first | (apply And.intro;· exact Cl4) | apply T1 | apply T2 | apply T3 | apply T4 | apply T6 | apply T5); conv => whnf)
    (conv => whnf); repeat' (first | ((first | (apply And.intro;· exact Cl4) | apply T1 | apply T2 | apply T3 | apply T4 | apply T6 | apply T5); conv => whnf) | (refine nameV_spec _ _ ?_; conv => whnf) | ((refine Both.mk ?_ ?_ <;> fail_if_success (intro _)) <;> conv => whnf))
    rw [List.drop_zero, Int.toNat_natCast, wrap64 (n := (i : Int) + 1) (by omega) (by omega)]
    exact h
  ·obtain rfl : i = t.length := by omega
   rw [decide_eq_false (show ¬ (t.length : Int) < (t.length : Int) by omega)]
   (conv => whnf); repeat ((first | (apply And.intro;· exact Cl4) | apply T1 | apply T2 | apply T3 | apply T4 | apply T6 | apply T5); conv => whnf)
   rw [sh_end] at hin
   unfold fieldR at h
   rw [cutM_no hin] at h
   exact h
end Go.Vc
namespace Go.Vc
open Go Go.Proofs
set_option maxRecDepth 100000
def plen (t : List UInt8) (o : Option (List UInt8)) : Int := match o with | none => 0 | some l => (t.length : Int) - l.length
theorem part_suf : ∀ n, (∀ t l, partM n t = some l → ∃ w, w ≠ [] ∧ t = w ++ l) ∧ (∀ last t l, recPM n last t = some l → ∃ w, w ≠ [] ∧ t = w ++ l)
 | 0 => ⟨fun t l h => by simp [partM] at h, fun last t l h => by simp [recPM] at h⟩
 | n + 1 => by
  obtain ⟨ihr, ihc⟩ := part_suf n
  refine ⟨fun t l h => ?_, fun last t l h => ?_⟩
  ·unfold partM at h
   split at h
   ·rename_i l' e
    obtain ⟨w, hw, rfl⟩ := preW_some e
    refine ⟨w, ?_, by rw [Option.some.inj h]⟩
    simp only [wordsR, List.mem_cons, List.not_mem_nil, or_false] at hw
    rcases hw with rfl | rfl | rfl | rfl | rfl <;> simp
   ·split at h
    ·rename_i r _
     split at h
     ·rename_i l' e
      obtain ⟨w, _, hw⟩ := ihr _ _ e
      exact ⟨91 :: w ++ [93], by simp, by rw [hw, ← Option.some.inj h]; simp⟩
     ·exact absurd h (by simp)
    ·rename_i r _
     exact ⟨[123, 125], by simp, by rw [← Option.some.inj h]; rfl⟩
    ·rename_i r _ _
     obtain ⟨w, _, hw⟩ := ihc _ _ _ h
     exact ⟨123 :: w, by simp, by rw [hw]; rfl⟩
    ·exact absurd h (by simp)
  ·unfold recPM at h
   split at h
   ·rename_i hc
    simp only [Bool.and_eq_true] at hc
    have hcut : ∃ w, w ≠ [] ∧ t = w ++ (cutM t).2.1 := by
     have h2 := hc.1.1
     unfold cutM at h2 ⊢
     by_cases h0 : 0 ≤ colon t
     ·rw [if_pos h0]
      have := colon_le t
      refine ⟨t.take ((colon t).toNat + 1), ?_, (List.take_append_drop _ _).symm⟩
      intro he
      have := congrArg List.length he
      simp only [List.length_take, List.length_nil] at this
      omega
     ·rw [if_neg h0] at h2; exact absurd h2 (by simp)
    obtain ⟨w0, hw0, ht⟩ := hcut
    split at h
    ·rename_i l' e
     obtain ⟨w, _, hw⟩ := ihr _ _ e
     exact ⟨w0 ++ w ++ [125], by simp, by rw [ht, hw, ← Option.some.inj h]; simp⟩
    ·rename_i r e
     obtain ⟨w, _, hw⟩ := ihr _ _ e
     obtain ⟨w2, _, hw2⟩ := ihc _ _ _ h
     exact ⟨w0 ++ w ++ 44 :: w2, by simp, by rw [ht, hw, hw2]; simp⟩
    ·exact absurd h (by simp)
   ·exact absurd h (by simp)
def PartC (n : Nat) : Prop := ∀ t : List UInt8, 2 * t.length + 1 ≤ n → t.length ≤ 1000000 → ∀ Post : PV → List (Nat × Blk) → Prop, Post (.int .i64 (plen t (partM n t))) [] → Spec K 46 [.str t] [] Post
def RecPC (n : Nat) : Prop := ∀ r : List UInt8, r ≠ [] → 2 * r.length ≤ n → r.length ≤ 1000000 → ∀ Post : PV → List (Nat × Blk) → Prop, Post (.int .i64 (if r.head? = some 125 then 2 else plen (123 :: r) (recPM n [] r))) [] → Spec K 73 [.str (123 :: r)] [] Post
theorem part_nil : ∀ n, partM n [] = none
 | 0 => rfl
 | n + 1 => by
  unfold partM
  rw [show preW [] wordsR = none by decide]
theorem recP_nil : ∀ n last, recPM n last [] = none
 | 0, _ => rfl
 | n + 1, last => by
  unfold recPM
  rw [if_neg]
  rw [cutM_no (by rfl)]
  simp
theorem part_91 (m : Nat) (r : List UInt8) : partM (m + 1) (91 :: r) = (match partM m r with | some (93 :: l) => some l | _ => none) := by
 conv => lhs; unfold partM
 rw [preW_head (by decide)]
 simp
 rfl
theorem part_123 (m : Nat) (r : List UInt8) : partM (m + 1) (123 :: r) = (if r.head? = some 125 then some (r.drop 1) else recPM m [] r) := by
 conv => lhs; unfold partM
 rw [preW_head (by decide)]
 dsimp only
 split
 ·rename_i he; exact absurd (List.cons.inj he).1 (by decide)
 ·rename_i r' he
  rw [(List.cons.inj he).2]; rfl
 ·rename_i r' hne he
  rw [(List.cons.inj he).2]
  split
  ·rename_i hh
   cases r' with
   | nil => cases hh
   | cons a q => exact absurd (by rw [Option.some.inj hh]) (hne q)
  ·rfl
 ·rename_i h3; exact absurd rfl (h3 r)
theorem part_other {m : Nat} {c : UInt8} {r : List UInt8} (hp : preW (c :: r) wordsR = none) (h1 : c ≠ 91) (h2 : c ≠ 123) : partM (m + 1) (c :: r) = none := by
 unfold partM
 rw [hp]
 dsimp only
 split
 ·rename_i he; exact absurd (List.cons.inj he).1 h1
 ·rename_i he; exact absurd (List.cons.inj he).1 h2
 ·rename_i he; exact absurd (List.cons.inj he).1 h2
 ·rfl
theorem part_short {m : Nat} {t : List UInt8} (hp : preW t wordsR = none) (h : t.length ≤ 1) : partM (m + 1) t = none := by
 match t, h with
 | [], _ => exact part_nil _
 | [c], _ =>
  by_cases h1 : c = 91
  ·subst h1; rw [part_91, part_nil]
  by_cases h2 : c = 123
  ·subst h2; rw [part_123, recP_nil]; rfl
  exact part_other hp h1 h2
theorem preW_step {t : List UInt8} {i : Nat} (hi : i < wordsR.length) (h : t.take (wordsR[i]).length ≠ wordsR[i]) : preW t (wordsR.drop i) = preW t (wordsR.drop (i + 1)) := by
 rw [List.drop_eq_getElem_cons hi]; conv => lhs; unfold preW
 rw [if_neg h]
theorem preW_hit {t : List UInt8} {i : Nat} (hi : i < wordsR.length) (h : t.take (wordsR[i]).length = wordsR[i]) : preW t (wordsR.drop i) = some (t.drop (wordsR[i]).length) := by
 rw [List.drop_eq_getElem_cons hi]; conv => lhs; unfold preW
 rw [if_pos h]
set_option maxHeartbeats 8000000 in
theorem part_step (m : Nat) (hP : PartC m) (hR : RecPC m) : PartC (m + 1) := by
 intro t hm ht Post h
 refine is46.specW K_ok K_mix false (by simp) (by simp [keys]) ?_
 (conv => whnf); repeat ((first | (apply And.intro;· exact Cl4) | apply T1 | apply T2 | apply T3 | apply T4 | apply T6 | apply T5); conv => whnf)
 refine ⟨Nat, fun i => ⟨79, [(4, .int .i64 i), (3, .ref 1 0 0 5), (2, .int .i64 0), (0, .str t)], [(0, .row 9 1 (strs wordsR) false)], []⟩, fun i => i ≤ 5 ∧ preW t wordsR = preW t (wordsR.drop i), fun i => 5 - i, ⟨[], 0, ⟨Nat.zero_le _, rfl⟩, ?_⟩, fun i hI => ?_⟩
 ·simp [meets, ghosts, St.le, St.get, look, keys, PV.labs, labsL, lookB, Blk.labs]
  rfl
 ·obtain ⟨hi, hin⟩ := hI
  conv => (arg 5; dsimp only)
  (conv => whnf); repeat ((first | (apply And.intro;· exact Cl4) | apply T1 | apply T2 | apply T3 | apply T4 | apply T6 | apply T5); conv => whnf)
  by_cases hix : i < 5
  ·rw [decide_eq_true (show (i : Int) < ((5 : Nat) : Int) by omega)]
   have hiw : i < wordsR.length := hix
   have hsl : (strs wordsR).length = 5 := rfl
   have hq : nth (strs wordsR) (0 + Int.toNat (i : Int)) = .str wordsR[i] := by rw [Nat.zero_add, Int.toNat_natCast, nth_strs hiw]
   have hwl : wordsR[i].length ≤ 6 := (by decide : ∀ w ∈ wordsR, w.length ≤ 6) _ (List.getElem_mem hiw)
   generalize hw : wordsR[i] = w at hq hwl
   by_cases hle : w.length ≤ t.length
   ·have hd : decide ((w.length : Int) ≤ (t.length : Int)) = true := decide_eq_true (by omega)
    (conv => whnf); repeat ((first | (apply And.intro;· exact Cl4) | apply T1 | apply T2 | apply T3 | apply T4 | apply T6 | apply T5); conv => whnf)
    (conv => whnf); repeat' (first | ((first | (apply And.intro;· exact Cl4) | apply T1 | apply T2 | apply T3 | apply T4 | apply T6 | apply T5); conv => whnf) | (rw [hq]; conv => whnf) | (rw [hd]; conv => whnf) | ((refine Both.mk ?_ ?_ <;> fail_if_success (intro _)) <;> conv => whnf))
    all_goals (
     by_cases he : t.take w.length = w
     ·refine Both.T (by rw [List.drop_zero, Int.toNat_natCast, he]; exact beq_self_eq_true w) ?_
      (conv => whnf); repeat ((first | (apply And.intro;· exact Cl4) | apply T1 | apply T2 | apply T3 | apply T4 | apply T6 | apply T5); conv => whnf)
      rw [hq]
      (conv => whnf); repeat ((first | (apply And.intro;· exact Cl4) | apply T1 | apply T2 | apply T3 | apply T4 | apply T6 | apply T5); conv => whnf)
      have hpw := preW_hit hiw (by rw [hw]; exact he)
      rw [← hin, hw] at hpw
      have hpm : plen t (partM (m + 1) t) = w.length := by
       unfold partM
       rw [hpw]
       simp only [plen, List.length_drop]
       omega
      rw [hpm] at h
      exact h
     ·refine Both.F (by rw [List.drop_zero, Int.toNat_natCast]; exact beq_false_of_ne he) ?_
      (conv => whnf); repeat ((first | (apply And.intro;· exact Cl4) | apply T1 | apply T2 | apply T3 | apply T4 | apply T6 | apply T5); conv => whnf)
      rw [wrap64 (n := (i : Int) + 1) (by omega) (by omega)]
      refine ⟨[], i + 1, ⟨hix, by rw [hin]; exact preW_step hiw (by rw [hw]; exact he)⟩, by show 5 - (i + 1) < 5 - i; omega, ?_⟩
      simp [meets, ghosts, St.le, St.get, look, keys, PV.labs, labsL, lookB, Blk.labs])
   ·have hd : decide ((w.length : Int) ≤ (t.length : Int)) = false := decide_eq_false (by omega)
    have he : t.take w.length ≠ w := fun he => by have := congrArg List.length he; rw [List.length_take] at this; omega
    (conv => whnf); repeat ((first | (apply And.intro;· exact Cl4) | apply T1 | apply T2 | apply T3 | apply T4 | apply T6 | apply T5); conv => whnf)
    (conv => whnf); repeat' (first | ((first | (apply And.intro;· exact Cl4) | apply T1 | apply T2 | apply T3 | apply T4 | apply T6 | apply T5); conv => whnf) | (rw [hq]; conv => whnf) | (rw [hd]; conv => whnf) | ((refine Both.mk ?_ ?_ <;> fail_if_success (intro _)) <;> conv => whnf))
    all_goals (
     (conv => whnf); repeat ((first | (apply And.intro;· exact Cl4) | apply T1 | apply T2 | apply T3 | apply T4 | apply T6 | apply T5); conv => whnf)
     rw [wrap64 (n := (i : Int) + 1) (by omega) (by omega)]
     refine ⟨[], i + 1, ⟨hix, by rw [hin]; exact preW_step hiw (by rw [hw]; exact he)⟩, by show 5 - (i + 1) < 5 - i; omega, ?_⟩
     simp [meets, ghosts, St.le, St.get, look, keys, PV.labs, labsL, lookB, Blk.labs])
  ·obtain rfl : i = 5 := by omega
   rw [decide_eq_false (show ¬ ((5 : Nat) : Int) < ((5 : Nat) : Int) by omega)]
   have hpre : preW t wordsR = none := hin
   clear hin hi hix
   (conv => whnf); repeat ((first | (apply And.intro;· exact Cl4) | apply T1 | apply T2 | apply T3 | apply T4 | apply T6 | apply T5); conv => whnf)
   by_cases hl : 1 < t.length
   rotate_left
   ·rw [part_short hpre (by omega)] at h
    rw [decide_eq_false (show ¬ 1 < (t.length : Int) by omega)]
    (conv => whnf); repeat ((first | (apply And.intro;· exact Cl4) | apply T1 | apply T2 | apply T3 | apply T4 | apply T6 | apply T5); conv => whnf)
    rw [decide_eq_false (show ¬ 1 < (t.length : Int) by omega)]
    (conv => whnf); repeat ((first | (apply And.intro;· exact Cl4) | apply T1 | apply T2 | apply T3 | apply T4 | apply T6 | apply T5); conv => whnf)
    exact h
   rw [decide_eq_true (show 1 < (t.length : Int) by omega)]
   (conv => whnf); repeat ((first | (apply And.intro;· exact Cl4) | apply T1 | apply T2 | apply T3 | apply T4 | apply T6 | apply T5); conv => whnf)
   obtain ⟨c, r, rfl⟩ : ∃ c r, t = c :: r := by cases t with | nil => simp at hl | cons c r => exact ⟨c, r, rfl⟩
   have hrl : r ≠ [] := fun e => by subst e; simp at hl
   have h0 : (List.getD (c :: r) (Int.toNat 0) 0) = c := rfl
   rw [h0]
   simp only [List.length_cons] at hm ht
   by_cases h91 : c = 91
   ·subst h91
    refine Both.T (by rfl) ?_
    (conv => whnf); repeat ((first | (apply And.intro;· exact Cl4) | apply T1 | apply T2 | apply T3 | apply T4 | apply T6 | apply T5); conv => whnf)
    have hdr : List.drop (Int.toNat 1) (List.take (91 :: r).length (91 :: r)) = r := by rw [List.take_length]; rfl
    rw [hdr]
    refine hP r (by omega) (by omega) _ ?_
    rw [part_91] at h
    cases hpm : partM m r with
    | none =>
     rw [hpm] at h
     rw [show plen r none = 0 from rfl]
     (conv => whnf); repeat ((first | (apply And.intro;· exact Cl4) | apply T1 | apply T2 | apply T3 | apply T4 | apply T6 | apply T5); conv => whnf)
     exact h
    | some l =>
     obtain ⟨w, hw0, rfl⟩ := (part_suf m).1 _ _ hpm
     have hk : plen (w ++ l) (some l) = w.length := by simp only [plen, List.length_append]; omega
     have hwl : 0 < w.length := Nat.pos_of_ne_zero fun e => hw0 (List.length_eq_zero_iff.1 e)
     simp only [List.length_append] at hm ht
     rw [hpm] at h
     rw [hk]
     clear hk hpm hdr
     (conv => whnf); repeat ((first | (apply And.intro;· exact Cl4) | apply T1 | apply T2 | apply T3 | apply T4 | apply T6 | apply T5); conv => whnf)
     rw [decide_eq_true (show 0 < (w.length : Int) by omega)]
     (conv => whnf); repeat ((first | (apply And.intro;· exact Cl4) | apply T1 | apply T2 | apply T3 | apply T4 | apply T6 | apply T5); conv => whnf)
     rw [wrap64 (n := 1 + (w.length : Int)) (by omega) (by omega)]
     cases l with
     | nil =>
      rw [decide_eq_false (show ¬ 1 + (w.length : Int) < ((91 :: (w ++ [])).length : Int) by rw [List.append_nil, List.length_cons]; omega)]
      (conv => whnf); repeat ((first | (apply And.intro;· exact Cl4) | apply T1 | apply T2 | apply T3 | apply T4 | apply T6 | apply T5); conv => whnf)
      exact h
     | cons d l' =>
      simp only [List.length_cons] at hm ht
      have hlen : (91 :: (w ++ d :: l')).length = w.length + l'.length + 2 := by simp only [List.length_cons, List.length_append]; omega
      rw [decide_eq_true (show 1 + (w.length : Int) < ((91 :: (w ++ d :: l')).length : Int) by rw [List.length_cons, List.length_append, List.length_cons]; omega)]
      (conv => whnf); repeat ((first | (apply And.intro;· exact Cl4) | apply T1 | apply T2 | apply T3 | apply T4 | apply T6 | apply T5); conv => whnf)
      have hgd : List.getD (91 :: (w ++ d :: l')) (1 + (w.length : Int)).toNat 0 = d := by
       rw [show (1 + (w.length : Int)).toNat = w.length + 1 by omega, List.getD_cons_succ, List.getD_eq_getElem?_getD, List.getElem?_append_right (Nat.le_refl _), Nat.sub_self]; rfl
      rw [hgd]
      by_cases h93 : d = 93
      ·subst h93
       refine Both.T (by rfl) ?_
       (conv => whnf); repeat ((first | (apply And.intro;· exact Cl4) | apply T1 | apply T2 | apply T3 | apply T4 | apply T6 | apply T5); conv => whnf)
       rw [wrap64 (n := (w.length : Int) + 2) (by omega) (by omega)]
       have hk : plen (91 :: (w ++ 93 :: l')) (some l') = w.length + 2 := by simp only [plen, List.length_append, List.length_cons]; omega
       rw [← hk]
       exact h
      ·have n93 : ((d.toNat : Int) == 93) = false := by rw [show ((93 : Int)) = ((93 : Nat) : Int) from rfl, u8_eq d 93 (by omega)]; exact beq_false_of_ne h93
       rw [n93]
       (conv => whnf); repeat ((first | (apply And.intro;· exact Cl4) | apply T1 | apply T2 | apply T3 | apply T4 | apply T6 | apply T5); conv => whnf)
       split at h
       ·rename_i he; exact absurd (List.cons.inj (Option.some.inj he)).1 h93
       ·exact h
   have n91 : ((c.toNat : Int) == 91) = false := by rw [show ((91 : Int)) = ((91 : Nat) : Int) from rfl, u8_eq c 91 (by omega)]; exact beq_false_of_ne h91
   rw [n91]
   (conv => whnf); repeat ((first | (apply And.intro;· exact Cl4) | apply T1 | apply T2 | apply T3 | apply T4 | apply T6 | apply T5); conv => whnf)
   rw [decide_eq_true (show 1 < ((c :: r).length : Int) by omega)]
   (conv => whnf); repeat ((first | (apply And.intro;· exact Cl4) | apply T1 | apply T2 | apply T3 | apply T4 | apply T6 | apply T5); conv => whnf)
   rw [h0]
   by_cases h123 : c = 123
   ·subst h123
    refine Both.T (by rfl) ?_
    (conv => whnf); repeat ((first | (apply And.intro;· exact Cl4) | apply T1 | apply T2 | apply T3 | apply T4 | apply T6 | apply T5); conv => whnf)
    refine hR r hrl (by omega) (by omega) _ ?_
    (conv => whnf); repeat ((first | (apply And.intro;· exact Cl4) | apply T1 | apply T2 | apply T3 | apply T4 | apply T6 | apply T5); conv => whnf)
    rw [part_123] at h
    split at h
    ·rename_i hh
     rw [if_pos hh]
     have : plen (123 :: r) (some (List.drop 1 r)) = 2 := by
      have : r.length ≠ 0 := fun e => hrl (List.length_eq_zero_iff.1 e)
      simp only [plen, List.length_drop, List.length_cons]; omega
     rw [this] at h
     exact h
    ·rename_i hh
     rw [if_neg hh]
     exact h
   have n123 : ((c.toNat : Int) == 123) = false := by rw [show ((123 : Int)) = ((123 : Nat) : Int) from rfl, u8_eq c 123 (by omega)]; exact beq_false_of_ne h123
   rw [n123]
   (conv => whnf); repeat ((first | (apply And.intro;· exact Cl4) | apply T1 | apply T2 | apply T3 | apply T4 | apply T6 | apply T5); conv => whnf)
   rw [part_other hpre h91 h123] at h
   exact h
end Go.Vc
namespace Go.Vc
open Go Go.Proofs
set_option maxRecDepth 100000
theorem cut_eq {u : List UInt8} (h : (cutM u).2.2 = true) : u = (cutM u).1 ++ 58 :: (cutM u).2.1 := by
 unfold cutM at h ⊢
 by_cases h0 : 0 ≤ colon u
 ·rw [if_pos h0]
  have he : idxL (fun b => b == 58) u = ((colon u).toNat : Nat) := by rw [← colon_idx]; omega
  obtain ⟨hi, h2⟩ := idx_hit he
  have h3 : u[(colon u).toNat] = 58 := by simpa using h2
  show u = List.take _ u ++ 58 :: List.drop _ u
  rw [← h3, ← List.drop_eq_getElem_cons hi, List.take_append_drop]
 ·rw [if_neg h0] at h; exact absurd h (by simp)
theorem recP_eq (n : Nat) (last t : List UInt8) : recPM (n + 1) last t = if ((cutM t).2.2 && isName (cutM t).1 && !(Op.bytesLess (cutM t).1 last || (cutM t).1 == last)) = true then
   (match partM n (cutM t).2.1 with
   | some (125 :: l) => some l
   | some (44 :: r) => recPM n (cutM t).1 r
   | _ => none)
  else none := by
 conv => lhs; unfold recPM
 rfl
set_option maxHeartbeats 16000000 in
theorem recP_step (n : Nat) (hP : ∀ m, m < n → PartC m) : RecPC n := by
 intro r hr hn hl Post h
 refine is73.specW K_ok K_mix false (by simp) (by simp [keys]) ?_
 obtain ⟨a, r', rfl⟩ : ∃ a r', r = a :: r' := by cases r with | nil => exact absurd rfl hr | cons c r => exact ⟨c, r, rfl⟩
 have hlt : (123 :: a :: r').length = r'.length + 2 := rfl
 simp only [List.length_cons] at hn hl
 (conv => whnf); repeat ((first | (apply And.intro;· exact Cl4) | apply T1 | apply T2 | apply T3 | apply T4 | apply T6 | apply T5); conv => whnf)
 have h0 : (List.getD (123 :: a :: r') (Int.toNat 1) 0) = a := rfl
 rw [h0]
 by_cases h125 : a = 125
 ·subst h125
  refine Both.T (by rfl) ?_
  (conv => whnf); repeat ((first | (apply And.intro;· exact Cl4) | apply T1 | apply T2 | apply T3 | apply T4 | apply T6 | apply T5); conv => whnf)
  exact h
 have n125 : ((a.toNat : Int) == 125) = false := by rw [show ((125 : Int)) = ((125 : Nat) : Int) from rfl, u8_eq a 125 (by omega)]; exact beq_false_of_ne h125
 rw [n125]
 rw [if_neg (by intro e; exact h125 (Option.some.inj e))] at h
 (conv => whnf); repeat ((first | (apply And.intro;· exact Cl4) | apply T1 | apply T2 | apply T3 | apply T4 | apply T6 | apply T5); conv => whnf)
 refine ⟨Nat × List UInt8 × List UInt8 × List UInt8, fun x => ⟨64, [(4, .int .i64 x.2.2.1.length), (3, .str x.2.1), (2, .int .i64 0), (0, .str (123 :: a :: r'))], [], []⟩,
  fun x => x.1 ≤ n ∧ 2 * x.2.2.2.length ≤ x.1 ∧ Post (.int .i64 (plen (123 :: a :: r') (recPM x.1 x.2.1 x.2.2.2))) [] ∧ 123 :: a :: r' = x.2.2.1 ++ x.2.2.2, fun x => x.2.2.2.length, ⟨[], (n, [], [123], a :: r'), ⟨Nat.le_refl _, by show 2 * (a :: r').length ≤ n; simp only [List.length_cons]; omega, h, rfl⟩, ?_⟩, fun x hI => ?_⟩
 ·simp [meets, ghosts, St.le, St.get, look, keys, PV.labs, labsL, lookB, Blk.labs]
 ·obtain ⟨m, last, w, u⟩ := x
  clear h
  obtain ⟨hmn, hmu, h, ht⟩ := hI
  simp only at hmn hmu h ht
  rw [ht] at h
  have htl : (w ++ u).length ≤ 1000001 := by rw [← ht]; simp only [List.length_cons]; omega
  rw [List.length_append] at htl
  conv => (arg 5; dsimp only)
  rw [ht]
  (conv => whnf); repeat ((first | (apply And.intro;· exact Cl4) | apply T1 | apply T2 | apply T3 | apply T4 | apply T6 | apply T5); conv => whnf)
  cases hu : u with
  | nil =>
   have hd : decide ((w.length : Int) < ((w ++ u).length : Int)) = false := decide_eq_false (by rw [List.length_append, hu, List.length_nil]; omega)
   rw [← hu, hd]
   (conv => whnf); repeat ((first | (apply And.intro;· exact Cl4) | apply T1 | apply T2 | apply T3 | apply T4 | apply T6 | apply T5); conv => whnf)
   rw [hu, recP_nil] at h
   exact h
  | cons b u' =>
   rw [← hu]
   have hul : 0 < u.length := by rw [hu]; simp
   have hd : decide ((w.length : Int) < ((w ++ u).length : Int)) = true := decide_eq_true (by rw [List.length_append]; omega)
   rw [hd]
   obtain ⟨m', rfl⟩ : ∃ m', m = m' + 1 := ⟨m - 1, by omega⟩
   rw [recP_eq] at h
   have hlen : (w ++ u).length = w.length + u.length := List.length_append
   have hdr : List.drop (w.length : Int).toNat (List.take (w ++ u).length (w ++ u)) = u := by rw [List.take_length, Int.toNat_natCast, List.drop_left]
   (conv => whnf); repeat ((first | (apply And.intro;· exact Cl4) | apply T1 | apply T2 | apply T3 | apply T4 | apply T6 | apply T5); conv => whnf)
   rw [hdr]
   refine fieldR_spec u (by omega) _ ?_
   unfold fieldR
   cases hc : (cutM u).2.2
   ·rw [if_neg (by simp)]
    rw [if_neg (by rw [hc]; simp)] at h
    (conv => whnf); repeat ((first | (apply And.intro;· exact Cl4) | apply T1 | apply T2 | apply T3 | apply T4 | apply T6 | apply T5); conv => whnf)
    exact h
   ·rw [if_pos rfl]
    rw [hc] at h
    have hcu := cut_eq hc
    generalize (cutM u).1 = nm at h hcu
    generalize (cutM u).2.1 = rest at h hcu
    cases hnm : isName nm
    ·rw [if_neg (by rw [hnm]; simp)] at h
     (conv => whnf); repeat ((first | (apply And.intro;· exact Cl4) | apply T1 | apply T2 | apply T3 | apply T4 | apply T6 | apply T5); conv => whnf)
     exact h
    (conv => whnf); repeat ((first | (apply And.intro;· exact Cl4) | apply T1 | apply T2 | apply T3 | apply T4 | apply T6 | apply T5); conv => whnf)
    rw [hnm, Bool.true_and, Bool.true_and] at h
    cases hle : (Op.bytesLess nm last || nm == last)
    rotate_left
    ·rw [if_neg (by rw [hle]; simp)] at h
     refine Both.T (by rfl) ?_
     (conv => whnf); repeat ((first | (apply And.intro;· exact Cl4) | apply T1 | apply T2 | apply T3 | apply T4 | apply T6 | apply T5); conv => whnf)
     exact h
    rw [if_pos (by rw [hle]; rfl)] at h
    refine Both.F (by rfl) ?_
    (conv => whnf); repeat ((first | (apply And.intro;· exact Cl4) | apply T1 | apply T2 | apply T3 | apply T4 | apply T6 | apply T5); conv => whnf)
    have hul2 : u.length = nm.length + rest.length + 1 := by rw [hcu, List.length_append, List.length_cons]; omega
    rw [wrap64 (n := (w.length : Int) + ((nm.length : Int) + 1)) (by omega) (by omega)]
    obtain ⟨W, hW, hWl⟩ : ∃ W : List UInt8, w ++ u = W ++ rest ∧ W.length = w.length + nm.length + 1 := ⟨w ++ nm ++ [58], by rw [hcu]; simp, by simp only [List.length_append, List.length_singleton]⟩
    rw [show (w.length : Int) + ((nm.length : Int) + 1) = (W.length : Int) by omega]
    rw [hW] at h ht hlen ⊢
    have hdr2 : List.drop (W.length : Int).toNat (List.take (W ++ rest).length (W ++ rest)) = rest := by rw [List.take_length, Int.toNat_natCast, List.drop_left]
    (conv => whnf); repeat ((first | (apply And.intro;· exact Cl4) | apply T1 | apply T2 | apply T3 | apply T4 | apply T6 | apply T5); conv => whnf)
    rw [hdr2]
    refine hP m' (by omega) rest (by omega) (by omega) _ ?_
    cases hpm : partM m' rest with
    | none =>
     rw [hpm] at h
     rw [show plen rest none = 0 from rfl]
     (conv => whnf); repeat ((first | (apply And.intro;· exact Cl4) | apply T1 | apply T2 | apply T3 | apply T4 | apply T6 | apply T5); conv => whnf)
     exact h
    | some l =>
    obtain ⟨v, hv0, rfl⟩ := (part_suf m').1 _ _ hpm
    have hk : plen (v ++ l) (some l) = v.length := by simp only [plen, List.length_append]; omega
    have hvl : 0 < v.length := Nat.pos_of_ne_zero fun e => hv0 (List.length_eq_zero_iff.1 e)
    rw [hpm] at h
    rw [hk]
    simp only [List.length_append] at hlen hul2
    (conv => whnf); repeat ((first | (apply And.intro;· exact Cl4) | apply T1 | apply T2 | apply T3 | apply T4 | apply T6 | apply T5); conv => whnf)
    rw [show ((v.length : Int) == 0) = false by simp; omega, wrap64 (n := (W.length : Int) + (v.length : Int)) (by omega) (by omega)]
    have hlen2 : (W ++ (v ++ l)).length = W.length + v.length + l.length := by simp only [List.length_append]; omega
    cases l with
    | nil =>
     have hd3 : decide (((W ++ (v ++ ([] : List UInt8))).length : Int) ≤ (W.length : Int) + (v.length : Int)) = true := decide_eq_true (by rw [hlen2, List.length_nil]; omega)
     rw [hd3]
     (conv => whnf); repeat ((first | (apply And.intro;· exact Cl4) | apply T1 | apply T2 | apply T3 | apply T4 | apply T6 | apply T5); conv => whnf)
     exact h
    | cons d l' =>
    rw [List.length_cons] at hlen2
    have hd3 : decide (((W ++ (v ++ d :: l')).length : Int) ≤ (W.length : Int) + (v.length : Int)) = false := decide_eq_false (by rw [hlen2]; omega)
    rw [hd3]
    (conv => whnf); repeat ((first | (apply And.intro;· exact Cl4) | apply T1 | apply T2 | apply T3 | apply T4 | apply T6 | apply T5); conv => whnf)
    have hgd : List.getD (W ++ (v ++ d :: l')) ((W.length : Int) + (v.length : Int)).toNat 0 = d := by
     rw [show ((W.length : Int) + (v.length : Int)).toNat = (W ++ v).length by rw [List.length_append]; omega, ← List.append_assoc, List.getD_eq_getElem?_getD, List.getElem?_append_right (Nat.le_refl _), Nat.sub_self]; rfl
    rw [wrap64 (n := (W.length : Int) + (v.length : Int)) (by omega) (by omega)]
    (conv => whnf); repeat ((first | (apply And.intro;· exact Cl4) | apply T1 | apply T2 | apply T3 | apply T4 | apply T6 | apply T5); conv => whnf)
    rw [hgd]
    by_cases h1 : d = 125
    ·subst h1
     refine Both.T (by rfl) ?_
     (conv => whnf); repeat ((first | (apply And.intro;· exact Cl4) | apply T1 | apply T2 | apply T3 | apply T4 | apply T6 | apply T5); conv => whnf)
     rw [wrap64 (n := (W.length : Int) + (v.length : Int) + 1) (by omega) (by omega)]
     have hk : plen (W ++ (v ++ 125 :: l')) (some l') = (W.length : Int) + (v.length : Int) + 1 := by simp only [plen, hlen2]; omega
     rw [← hk]
     exact h
    rw [show ((d.toNat : Int) == 125) = false by rw [show ((125 : Int)) = ((125 : Nat) : Int) from rfl, u8_eq d 125 (by omega)]; exact beq_false_of_ne h1]
    (conv => whnf); repeat ((first | (apply And.intro;· exact Cl4) | apply T1 | apply T2 | apply T3 | apply T4 | apply T6 | apply T5); conv => whnf)
    rw [hgd]
    by_cases h2 : d = 44
    rotate_left
    ·rw [show ((d.toNat : Int) != 44) = true by
      have : ((d.toNat : Int) == 44) = false := by rw [show ((44 : Int)) = ((44 : Nat) : Int) from rfl, u8_eq d 44 (by omega)]; exact beq_false_of_ne h2
      unfold bne; rw [this]; rfl]
     (conv => whnf); repeat ((first | (apply And.intro;· exact Cl4) | apply T1 | apply T2 | apply T3 | apply T4 | apply T6 | apply T5); conv => whnf)
     split at h
     ·rename_i he; exact absurd (List.cons.inj (Option.some.inj he)).1 h1
     ·rename_i he; exact absurd (List.cons.inj (Option.some.inj he)).1 h2
     ·exact h
    subst h2
    refine Both.F (by rfl) ?_
    (conv => whnf); repeat ((first | (apply And.intro;· exact Cl4) | apply T1 | apply T2 | apply T3 | apply T4 | apply T6 | apply T5); conv => whnf)
    rw [wrap64 (n := (W.length : Int) + (v.length : Int) + 1) (by omega) (by omega)]
    refine ⟨[], (m', nm, W ++ v ++ [44], l'), ⟨by show m' ≤ n; omega, by show 2 * l'.length ≤ m'; simp only [List.length_cons] at hul2; omega, by exact h, by show W ++ (v ++ 44 :: l') = W ++ v ++ [44] ++ l'; simp⟩, by show l'.length < u.length; simp only [List.length_cons] at hul2; omega, ?_⟩
    simp [meets, ghosts, St.le, St.get, look, keys, PV.labs, labsL, lookB, Blk.labs]
    omega
theorem part_upto : ∀ n m, m ≤ n → PartC m ∧ RecPC m
 | 0, m, h => by
  obtain rfl : m = 0 := by omega
  exact ⟨fun t h => absurd h (by omega), fun r hr h => absurd h (by have : r.length ≠ 0 := fun e => hr (List.length_eq_zero_iff.1 e); omega)⟩
 | n + 1, m, h => by
  have ih := part_upto n
  by_cases hm : m ≤ n
  ·exact ih m hm
  ·obtain rfl : m = n + 1 := by omega
   exact ⟨part_step n (ih n (Nat.le_refl _)).1 (ih n (Nat.le_refl _)).2, recP_step (n + 1) fun k hk => (ih k (by omega)).1⟩
def FitsR : Prop := ∀ s : List UInt8, s.length ≤ 1000000000 → ∀ Post : PV → List (Nat × Blk) → Prop, Post (.bool (fitsT s)) [] → Spec K 25 [.str s] [] Post
theorem fitsR_spec : FitsR := by
 intro s hs Post h
 refine is25.specW K_ok K_mix false (by simp) (by simp [keys]) ?_
 rw [fits_part] at h
 (conv => whnf); repeat ((first | (apply And.intro;· exact Cl4) | apply T1 | apply T2 | apply T3 | apply T4 | apply T6 | apply T5); conv => whnf)
 cases hsn : s with
 | nil =>
  subst hsn
  rw [part_nil] at h
  (conv => whnf); repeat ((first | (apply And.intro;· exact Cl4) | apply T1 | apply T2 | apply T3 | apply T4 | apply T6 | apply T5); conv => whnf)
  exact h
 | cons c r =>
 have hl : 0 < s.length := by rw [hsn]; simp
 rw [← hsn]
 rw [decide_eq_true (show 0 < (s.length : Int) by omega)]
 (conv => whnf); repeat ((first | (apply And.intro;· exact Cl4) | apply T1 | apply T2 | apply T3 | apply T4 | apply T6 | apply T5); conv => whnf)
 by_cases h64 : s.length ≤ 64
 rotate_left
 ·rw [decide_eq_false h64] at h
  rw [decide_eq_false (show ¬ (s.length : Int) ≤ 64 by omega)]
  (conv => whnf); repeat ((first | (apply And.intro;· exact Cl4) | apply T1 | apply T2 | apply T3 | apply T4 | apply T6 | apply T5); conv => whnf)
  exact h
 rw [decide_eq_true h64, Bool.true_and] at h
 rw [decide_eq_true (show (s.length : Int) ≤ 64 by omega)]
 (conv => whnf); repeat ((first | (apply And.intro;· exact Cl4) | apply T1 | apply T2 | apply T3 | apply T4 | apply T6 | apply T5); conv => whnf)
 refine (part_upto _ (2 * s.length + 1) (Nat.le_refl _)).1 s (Nat.le_refl _) (by omega) _ ?_
 have hk : (plen s (partM (2 * s.length + 1) s) == (s.length : Int)) = (partM (2 * s.length + 1) s == some []) := by
  cases hp : partM (2 * s.length + 1) s with
  | none =>
   rw [Bool.eq_iff_iff, beq_iff_eq]
   simp only [plen]
   constructor
   ·intro h; omega
   ·intro h; cases h
  | some l =>
   obtain ⟨w, _, hw⟩ := (part_suf _).1 _ _ hp
   have := congrArg List.length hw
   rw [List.length_append] at this
   rw [Bool.eq_iff_iff, beq_iff_eq, beq_iff_eq]
   simp only [plen]
   constructor
   ·intro h
    have : l.length = 0 := by omega
    rw [List.length_eq_zero_iff.1 this]
   ·intro h
    rw [Option.some.inj h]; simp
 rw [← hk] at h
 (conv => whnf); repeat ((first | (apply And.intro;· exact Cl4) | apply T1 | apply T2 | apply T3 | apply T4 | apply T6 | apply T5); conv => whnf)
 exact h
end Go.Vc
