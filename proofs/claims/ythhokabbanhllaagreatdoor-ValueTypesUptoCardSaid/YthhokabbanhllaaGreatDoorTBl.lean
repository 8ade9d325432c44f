/- What is proved here: contracts of functions of the program: of each function what it hands back and what it leaves in memory. Conditions: those that each theorem names. -/
import Derived.Test.YthhokabbanhllaaGreatDoorTBj
import Derived.Test.YthhokabbanhllaaGreatDoorTBc
import Derived.Test.YthhokabbanhllaaGreatDoorTAp
import Derived.Test.YthhokabbanhllaaGreatDoorTBk
set_option linter.unusedVariables false
set_option linter.unusedSimpArgs false
set_option linter.unusedSectionVars false
namespace Go.Vc
open Go Go.Proofs
set_option maxRecDepth 100000
theorem own_word {k n : Int} {s : List UInt8} {m : Nat} {ns : List (List UInt8)} (hk : k = 0 ∨ k = 1 ∨ k = 2 ∨ k = 3 ∨ k = 6) (h : ownB k n s m ns = true) : m = 0 ∧ ns = [] := by
 rcases hk with rfl | rfl | rfl | rfl | rfl
 ·simp [ownB] at h; exact ⟨h.2.1.2, h.2.2⟩
 ·simp [ownB] at h; exact ⟨h.1.2, h.2⟩
 ·simp [ownB] at h; exact ⟨h.2.1.2, h.2.2⟩
 ·simp [ownB] at h; exact ⟨h.2.1, h.2.2⟩
 ·simp [ownB] at h; exact ⟨h.2.1.2, h.2.2⟩
theorem own_list {n : Int} {s : List UInt8} {m : Nat} {ns : List (List UInt8)} (h : ownB 4 n s m ns = true) : ns = [] := by
 simp [ownB] at h; exact h.2.2
theorem word_has {k n : Int} {s : List UInt8} {l : List V} {ns : List (List UInt8)} (h : allV (.mk k n s l ns) = true) {q : Int} (hq : q = 0 ∨ q = 1 ∨ q = 2 ∨ q = 3 ∨ q = 6) : hasT (.mk k n s l ns) (.mk q [] []) = (k == q) := by
 simp only [allV, Bool.and_eq_true] at h
 rw [hasT]
 show (k == q && cmpNs ns [] == 0 && hasL l q []) = _
 by_cases e : k = q
 ·subst e
  obtain ⟨e1, e2⟩ := own_word hq h.1
  rw [e2, List.length_eq_zero_iff.1 e1]
  simp [hasL, cmpNs]
 ·rw [show (k == q) = false by simpa using e]; rfl
theorem list_has {k n : Int} {s : List UInt8} {l : List V} {ns : List (List UInt8)} (h : allV (.mk k n s l ns) = true) (x : Sh) : hasT (.mk k n s l ns) (.mk 4 [] [x]) = (k == 4 && l.all fun w => hasT w x) := by
 simp only [allV, Bool.and_eq_true] at h
 rw [hasT]
 show (k == 4 && cmpNs ns [] == 0 && hasL l 4 [x]) = _
 by_cases e : k = 4
 ·subst e
  rw [own_list h.1, hasL_list]
  simp [cmpNs]
 ·rw [show (k == 4) = false by simpa using e]; rfl
def wordsO : List (List UInt8) := [[110, 111, 110, 101], [105, 110, 116], [98, 111, 111, 108], [116, 101, 120, 116]]
theorem word_at {i : Nat} (hi : i < wordsO.length) {s : Sh} (h : IsT s wordsO[i]) : s = .mk i [] [] ∧ ((i : Int) = 0 ∨ (i : Int) = 1 ∨ (i : Int) = 2 ∨ (i : Int) = 3 ∨ (i : Int) = 6) := by
 have h2 : wordsO[i] ∈ wordsR ∧ kindM wordsO[i] = i := by
  match i, hi with
  | 0, _ => exact ⟨by simp [wordsR, wordsO], by simp [kindM, wordsO]⟩
  | 1, _ => exact ⟨by simp [wordsR, wordsO], by simp [kindM, wordsO]⟩
  | 2, _ => exact ⟨by simp [wordsR, wordsO], by simp [kindM, wordsO]⟩
  | 3, _ => exact ⟨by simp [wordsR, wordsO], by simp [kindM, wordsO]⟩
  | n + 4, h => exact absurd h (by simp [wordsO])
 refine ⟨?_, ?_⟩
 ·rw [h.uni (.word _ h2.1), h2.2]
 ·have : wordsO.length = 4 := rfl
  omega
theorem word_fut {s : Sh} (h : IsT s [102, 117, 116, 117, 114, 101]) : s = .mk 6 [] [] := by
 have h1 : IsT (.mk (kindM [102, 117, 116, 117, 114, 101]) [] []) [102, 117, 116, 117, 114, 101] := .word _ (by simp [wordsR])
 rw [show kindM [102, 117, 116, 117, 114, 101] = 6 by simp [kindM]] at h1
 exact h.uni h1
theorem words_all {t : List UInt8} (h1 : t ∉ wordsO) (h2 : t ≠ [102, 117, 116, 117, 114, 101]) : t ∉ wordsR := by
 intro h
 have : wordsR = wordsO ++ [[102, 117, 116, 117, 114, 101]] := rfl
 rw [this, List.mem_append] at h
 rcases h with h | h
 ·exact h1 h
 ·exact h2 (List.mem_singleton.1 h)
theorem fields_split {fs ts : List (List UInt8)} {i : Nat} (hi : i < fs.length) (hl : fs.length = ts.length) : ∃ rest, fieldsT (fs.drop i) (ts.drop i) ++ [125] = fs[i] ++ 58 :: (ts[i]'(by omega) ++ rest) ∧
  (rest = [125] ∧ fieldsT (fs.drop (i + 1)) (ts.drop (i + 1)) = [] ∨ rest = 44 :: (fieldsT (fs.drop (i + 1)) (ts.drop (i + 1)) ++ [125])) := by
 rw [List.drop_eq_getElem_cons hi, List.drop_eq_getElem_cons (show i < ts.length by omega)]
 by_cases h : fs.drop (i + 1) = []
 ·have h2 : ts.drop (i + 1) = [] := by
   have := congrArg List.length h
   rw [List.length_drop, List.length_nil] at this
   exact List.length_eq_zero_iff.1 (by rw [List.length_drop]; omega)
  refine ⟨[125], ?_, .inl ⟨rfl, ?_⟩⟩
  ·rw [h, h2]; simp [fieldsT]
  ·rw [h, h2]; rfl
 ·refine ⟨_, ?_, .inr rfl⟩
  rw [fields_cons h (by rw [List.length_drop, List.length_drop, hl])]
  simp
theorem low_125 {c : UInt8} (h : low c = true) : (bif (5 : Int) != 5 then true else (c.toNat : Int) == 125) = false := by
 show ((c.toNat : Int) == 125) = false
 unfold low at h
 rw [beq_eq_false_iff_ne]
 simp only [Bool.and_eq_true, decide_eq_true_eq] at h
 omega
theorem fieldR_x (t a : List UInt8) (b : Int) (c : Bool) (e : fieldR t = (a, b, c)) (ht : t.length ≤ 1000000000) (Post : PV → List (Nat × Blk) → Prop) (h : Post (.tup [.str a, .int .i64 b, .bool c]) []) : Spec K 74 [.str t] [] Post :=
 fieldR_spec t ht Post (by rw [e]; exact h)
theorem partR_x (t w r : List UInt8) (s : Sh) (e : t = w ++ r) (hs : IsT s w) (ht : t.length ≤ 1000000) (Post : PV → List (Nat × Blk) → Prop) (h : Post (.int .i64 w.length) []) : Spec K 46 [.str t] [] Post := by
 subst e
 refine (part_upto _ (2 * (w ++ r).length + 1) (Nat.le_refl _)).1 (w ++ r) (Nat.le_refl _) ht _ ?_
 rw [part_text hs (2 * (w ++ r).length + 1) r (by rw [List.length_append]; omega)]
 have hpl2 : plen (w ++ r) (some r) = (w.length : Int) := by simp only [plen, List.length_append]; omega
 rw [hpl2]; exact h
theorem hasL_drop5 {l : List V} {ls : List Sh} {i : Nat} (hi : i < l.length) (hj : i < ls.length) : hasL (l.drop i) 5 (ls.drop i) = (hasT l[i] ls[i] && hasL (l.drop (i + 1)) 5 (ls.drop (i + 1))) := by
 rw [List.drop_eq_getElem_cons hi, List.drop_eq_getElem_cons hj, hasL, if_neg (by decide)]
 rfl
theorem cmpNs_drop {ns fs : List (List UInt8)} {i : Nat} (hi : i < ns.length) (hj : i < fs.length) (he : ns[i] = fs[i]) : cmpNs (ns.drop i) (fs.drop i) = cmpNs (ns.drop (i + 1)) (fs.drop (i + 1)) := by
 rw [List.drop_eq_getElem_cons hi, List.drop_eq_getElem_cons hj, cmpNs, if_pos he]
def OfC (N : Nat) : Prop := ∀ (t : List UInt8) (sh : Sh), IsT sh t → t.length ≤ N → t.length ≤ 1000 → ∀ v : V, bulkV v ≤ 100000000000 → allV v = true → ∀ (z1 z2 : Nat) (lp : List PV) (t1 t2 : Bool), VA v z1 lp z2 → ∀ (Post : PV → List (Nat × Blk) → Prop), Post (.bool (hasT v sh)) [] → Spec K 48 [.agg (vc v z1 lp t1 z2 t2), .str t] [] Post
set_option maxHeartbeats 16000000 in
theorem of_step {N : Nat} (ih : OfC N) : OfC (N + 1) := by
 intro t sh hS htN htl v hv9 hav z1 z2 lp t1 t2 ha Post h
 obtain ⟨hl, hz1, hz2, hn, _⟩ := ha
 obtain ⟨k, n, s, l, ns⟩ := v
 simp only [V.k, V.n, V.s, V.l, V.ns, vc] at *
 have hlp := VPs_len hl
 have hz1' : z1 = 5 ∨ lp = [] := hz1.imp (fun h => h) fun h => by rw [h] at hlp; exact List.length_eq_zero_iff.1 hlp
 have hz2' : z2 = 1 ∨ strs ns = [] := hz2.imp (fun h => h) fun h => by rw [h]; rfl
 have hal := hav
 simp only [allV, Bool.and_eq_true] at hal
 have hlb := len_sizeVs l
 have hsb := sizes_bulk l
 simp only [bulkV] at hv9
 refine is48.specW K_ok K_mix false (by simp) (by simp [keys]) ?_
 (conv => whnf); repeat ((first | (apply And.intro;· exact Cl4) | apply T1 | apply T2 | apply T3 | apply T4 | apply T6 | apply T5); conv => whnf)
 refine ⟨Nat, fun i => ⟨132, [(6, .int .i64 i), (5, .ref 1 1 0 4), (2, .ptr 0 0), (1, .str t)], [(0, .box [.int .i64 k, .int .i64 n, .str s, .sl z1 lp t1 true, .sl z2 (strs ns) t2 true]), (1, .row 9 1 (strs wordsO) false)], []⟩, fun i => i ≤ 4 ∧ t ∉ wordsO.take i, fun i => 4 - i, ⟨[], 0, ⟨Nat.zero_le _, by simp⟩, ?_⟩, fun i hI => ?_⟩
 ·simp [meets, ghosts, St.le, St.get, look, keys, PV.labs, labsL, lookB, Blk.labs]
  rfl
 ·obtain ⟨hi, hin⟩ := hI
  conv => (arg 5; dsimp only)
  (conv => whnf); repeat ((first | (apply And.intro;· exact Cl4) | apply T1 | apply T2 | apply T3 | apply T4 | apply T6 | apply T5); conv => whnf)
  by_cases hix : i < 4
  ·rw [decide_eq_true (show (i : Int) < ((4 : Nat) : Int) by omega)]
   have hiw : i < wordsO.length := hix
   have hsl : (strs wordsO).length = 4 := rfl
   have hq : nth (strs wordsO) (0 + Int.toNat (i : Int)) = .str wordsO[i] := by rw [Nat.zero_add, Int.toNat_natCast, nth_strs hiw]
   (conv => whnf); repeat ((first | (apply And.intro;· exact Cl4) | apply T1 | apply T2 | apply T3 | apply T4 | apply T6 | apply T5); conv => whnf)
   rw [hq]
   (conv => whnf); repeat ((first | (apply And.intro;· exact Cl4) | apply T1 | apply T2 | apply T3 | apply T4 | apply T6 | apply T5); conv => whnf)
   by_cases he : t = wordsO[i]
   ·rw [beq_iff_eq.2 he]
    (conv => whnf); repeat ((first | (apply And.intro;· exact Cl4) | apply T1 | apply T2 | apply T3 | apply T4 | apply T6 | apply T5); conv => whnf)
    rw [he] at hS
    obtain ⟨rfl, hki⟩ := word_at hiw hS
    rw [word_has hav hki] at h
    exact h
   ·rw [beq_eq_false_iff_ne.2 he]
    (conv => whnf); repeat ((first | (apply And.intro;· exact Cl4) | apply T1 | apply T2 | apply T3 | apply T4 | apply T6 | apply T5); conv => whnf)
    rw [wrap64 (n := (i : Int) + 1) (by omega) (by omega)]
    refine ⟨[], i + 1, ⟨hix, ?_⟩, by show 4 - (i + 1) < 4 - i; omega, ?_⟩
    ·rw [List.take_succ_eq_append_getElem hiw, List.mem_append]
     rintro (h | h)
     ·exact hin h
     ·simp at h; exact he h
    ·simp [meets, ghosts, St.le, St.get, look, keys, PV.labs, labsL, lookB, Blk.labs]
  ·obtain rfl : i = 4 := by omega
   rw [decide_eq_false (show ¬ ((4 : Nat) : Int) < ((4 : Nat) : Int) by omega)]
   have hno : t ∉ wordsO := hin
   clear hin hi hix
   (conv => whnf); repeat ((first | (apply And.intro;· exact Cl4) | apply T1 | apply T2 | apply T3 | apply T4 | apply T6 | apply T5); conv => whnf)
   by_cases hf : t = [102, 117, 116, 117, 114, 101]
   ·subst hf
    (conv => whnf); repeat ((first | (apply And.intro;· exact Cl4) | apply T1 | apply T2 | apply T3 | apply T4 | apply T6 | apply T5); conv => whnf)
    rw [word_fut hS, word_has hav (by omega)] at h
    exact h
   ·have hnr := words_all hno hf
    have h0l : 0 < t.length := by have := hS.ne; cases t with | nil => exact absurd rfl this | cons a r => simp
    rw [show (t == ({ data := #[102, 117, 116, 117, 114, 101] } : ByteArray).data.toList) = false from beq_eq_false_iff_ne.2 hf]
    (conv => whnf); repeat ((first | (apply And.intro;· exact Cl4) | apply T1 | apply T2 | apply T3 | apply T4 | apply T6 | apply T5); conv => whnf)
    cases hS with
    | word _ hw => exact absurd hw hnr
    | list x u hx =>
     rw [list_has hav] at h
     have hul : (91 :: (u ++ [93])).length = u.length + 2 := by simp
     (conv => whnf); repeat ((first | (apply And.intro;· exact Cl4) | apply T1 | apply T2 | apply T3 | apply T4 | apply T6 | apply T5); conv => whnf)
     refine ⟨Nat, fun i => ⟨132, [(7, .int .i64 i), (2, .ptr 0 0), (1, .str (91 :: (u ++ [93])))], [(0, .box [.int .i64 k, .int .i64 n, .str s, .sl z1 lp t1 true, .sl z2 (strs ns) t2 true])], []⟩, fun i => i ≤ l.length ∧ (l.take i).all (fun w => hasT w x) = true, fun i => l.length - i, ⟨[], 0, ⟨Nat.zero_le _, by simp⟩, ?_⟩, fun i hI => ?_⟩
     ·simp [meets, ghosts, St.le, St.get, look, keys, PV.labs, labsL, lookB, Blk.labs]
     ·obtain ⟨hi, hin⟩ := hI
      conv => (arg 5; dsimp only)
      (conv => whnf); repeat ((first | (apply And.intro;· exact Cl4) | apply T1 | apply T2 | apply T3 | apply T4 | apply T6 | apply T5); conv => whnf)
      rw [hlp]
      (conv => whnf); repeat ((first | (apply And.intro;· exact Cl4) | apply T1 | apply T2 | apply T3 | apply T4 | apply T6 | apply T5); conv => whnf)
      by_cases hix : i < l.length
      ·rw [decide_eq_true (show (i : Int) < (l.length : Int) by omega)]
       obtain ⟨y1, mp, u1, o1, y2, u2, o2, hp, hq, g1, g2, g3⟩ := (VPs_nth hl hix).out
       have hbm := bulkVs_mem hix
       (conv => whnf); repeat ((first | (apply And.intro;· exact Cl4) | apply T1 | apply T2 | apply T3 | apply T4 | apply T6 | apply T5); conv => whnf)
       rw [wrap64 (by omega) (by omega)]
       refine ⟨fun _ => ⟨by omega, by omega⟩, ?_⟩
       (conv => whnf); repeat ((first | (apply And.intro;· exact Cl4) | apply T1 | apply T2 | apply T3 | apply T4 | apply T6 | apply T5); conv => whnf)
       have eu : List.drop (Int.toNat 1) (List.take (((91 :: (u ++ [93])).length : Int) - 1).toNat (91 :: (u ++ [93]))) = u := by
        rw [show (((91 :: (u ++ [93])).length : Int) - 1).toNat = u.length + 1 by omega, List.take_succ_cons, List.take_left']
        ·rfl
        ·rfl
       rw [eu, Int.toNat_natCast, hp]
       (conv => whnf); repeat ((first | (apply And.intro;· exact Cl4) | apply T1 | apply T2 | apply T3 | apply T4 | apply T6 | apply T5); conv => whnf)
       refine ih u x hx (by omega) (by omega) l[i] (by omega) (allVs_nth hal.2 hix) y1 y2 mp _ _ ⟨hq, g1, g2, g3, by omega⟩ _ ?_
       cases hb : hasT l[i] x
       ·(conv => whnf); repeat ((first | (apply And.intro;· exact Cl4) | apply T1 | apply T2 | apply T3 | apply T4 | apply T6 | apply T5); conv => whnf)
        have hall : (l.all fun w => hasT w x) = false := by
         rw [List.all_eq_false]; exact ⟨l[i], List.getElem_mem hix, by rw [hb]; decide⟩
        rw [hall, Bool.and_false] at h
        exact h
       ·(conv => whnf); repeat ((first | (apply And.intro;· exact Cl4) | apply T1 | apply T2 | apply T3 | apply T4 | apply T6 | apply T5); conv => whnf)
        rw [wrap64 (n := (i : Int) + 1) (by omega) (by omega)]
        refine ⟨[], i + 1, ⟨hix, ?_⟩, by show l.length - (i + 1) < l.length - i; omega, ?_⟩
        ·rw [List.take_succ_eq_append_getElem hix, List.all_append, hin]; simp [hb]
        ·simp [meets, ghosts, St.le, St.get, look, keys, PV.labs, labsL, lookB, Blk.labs]
      ·obtain rfl : i = l.length := by omega
       rw [decide_eq_false (show ¬ (l.length : Int) < (l.length : Int) by omega)]
       rw [List.take_length] at hin
       rw [hin, Bool.and_true] at h
       (conv => whnf); repeat ((first | (apply And.intro;· exact Cl4) | apply T1 | apply T2 | apply T3 | apply T4 | apply T6 | apply T5); conv => whnf)
       exact h
    | recd fs ls ts h1 h2 hr hts =>
     (conv => whnf); repeat ((first | (apply And.intro;· exact Cl4) | apply T1 | apply T2 | apply T3 | apply T4 | apply T6 | apply T5); conv => whnf)
     generalize hT : 123 :: (fieldsT fs ts ++ [125]) = T at h0l htN htl h
     refine ⟨Nat × Nat, fun x => ⟨132, [(9, .int .i64 x.1), (8, .int .i64 x.2), (2, .ptr 0 0), (1, .str T)], [(0, .box [.int .i64 k, .int .i64 n, .str s, .sl z1 lp t1 true, .sl z2 (strs ns) t2 true])], []⟩,
      fun x => x.1 ≤ l.length ∧ x.1 ≤ fs.length ∧ x.2 ≤ T.length ∧ T.drop x.2 = fieldsT (fs.drop x.1) (ts.drop x.1) ++ [125] ∧ hasT (.mk k n s l ns) (.mk 5 fs ls) = (k == 5 && cmpNs (ns.drop x.1) (fs.drop x.1) == 0 && hasL (l.drop x.1) 5 (ls.drop x.1)), fun x => l.length - x.1,
      ⟨[], (0, 1), ⟨Nat.zero_le _, Nat.zero_le _, h0l, by rw [← hT]; rfl, by rw [hasT]; rfl⟩, ?_⟩, fun x hI => ?_⟩
     ·simp [meets, ghosts, St.le, St.get, look, keys, PV.labs, labsL, lookB, Blk.labs]
     ·obtain ⟨i, p⟩ := x
      obtain ⟨hi, hif, hpl, hdr, hhas⟩ := hI
      simp only at hi hif hpl hdr hhas
      conv => (arg 5; dsimp only)
      (conv => whnf); repeat ((first | (apply And.intro;· exact Cl4) | apply T1 | apply T2 | apply T3 | apply T4 | apply T6 | apply T5); conv => whnf)
      rw [hlp]
      (conv => whnf); repeat ((first | (apply And.intro;· exact Cl4) | apply T1 | apply T2 | apply T3 | apply T4 | apply T6 | apply T5); conv => whnf)
      have hpT : p < T.length := by
       have := congrArg List.length hdr
       rw [List.length_drop, List.length_append, List.length_singleton] at this
       omega
      have hgT : T.getD p 0 = (fieldsT (fs.drop i) (ts.drop i) ++ [125]).headD 0 := by
       rw [← hdr, List.getD_eq_getElem?_getD, List.getElem?_eq_getElem hpT, List.drop_eq_getElem_cons hpT]; rfl
      by_cases hix : i < l.length
      ·rw [decide_eq_true (show (i : Int) < (l.length : Int) by omega)]
       obtain ⟨y1, mp, u1, o1, y2, u2, o2, hp, hq, g1, g2, g3⟩ := (VPs_nth hl hix).out
       have hbm := bulkVs_mem hix
       (conv => whnf); repeat ((first | (apply And.intro;· exact Cl4) | apply T1 | apply T2 | apply T3 | apply T4 | apply T6 | apply T5); conv => whnf)
       by_cases hk5 : k = 5
       ·subst hk5
        have hnl := own_len hal.1
        (conv => whnf); repeat ((first | (apply And.intro;· exact Cl4) | apply T1 | apply T2 | apply T3 | apply T4 | apply T6 | apply T5); conv => whnf)
        rw [Int.toNat_natCast, hgT]
        by_cases hfi : i < fs.length
        ·obtain ⟨rest, hsp, hrest⟩ := fields_split hfi (h1.trans h2)
         have hnm := rise_names hr fs[i] (List.getElem_mem hfi)
         obtain ⟨c, q, hcq, hlow⟩ := name_head hnm
         have hhd : (fieldsT (fs.drop i) (ts.drop i) ++ [125]).headD 0 = c := by rw [hsp, hcq]; rfl
         rw [hhd]
         refine Both.F (low_125 hlow) ?_
         have hX : T.drop p = fs[i] ++ 58 :: (ts[i]'(by omega) ++ rest) := hdr.trans hsp
         obtain ⟨g, hg⟩ : ∃ g, g = ts[i]'(by omega) := ⟨_, rfl⟩
         have htg : ts[i]? = some g := by rw [List.getElem?_eq_getElem (by omega), hg]
         have hlsi : ls[i]? = some (ls[i]'(by omega)) := List.getElem?_eq_getElem (by omega)
         have hIs := hts i _ g hlsi htg
         rw [← hg] at hX
         have hlen : T.length = p + (fs[i].length + 1 + (g.length + rest.length)) := by
          have := congrArg List.length hX
          rw [List.length_drop, List.length_append, List.length_cons, List.length_append] at this
          omega
         have hX2 : T.drop (p + (fs[i].length + 1)) = g ++ rest := by
          rw [← List.drop_drop, hX, show fs[i] ++ 58 :: (g ++ rest) = (fs[i] ++ [58]) ++ (g ++ rest) by simp, List.drop_left' (by simp)]
         have hX3 : T.drop (p + (fs[i].length + 1) + g.length) = rest := by rw [← List.drop_drop, hX2, List.drop_left' rfl]
         (conv => whnf); repeat ((first | (apply And.intro;· exact Cl4) | apply T1 | apply T2 | apply T3 | apply T4 | apply T6 | apply T5); conv => whnf)
         have eT : List.drop (p : Int).toNat (List.take T.length T) = fs[i] ++ 58 :: (g ++ rest) := by rw [Int.toNat_natCast, List.take_length, hX]
         rw [eT]
         refine fieldR_x _ fs[i] ((fs[i].length : Int) + 1) true (by unfold fieldR; rw [cut_name _ hnm]; simp [hnm]) (by rw [List.length_append, List.length_cons, List.length_append]; omega) _ ?_
         (conv => whnf); repeat ((first | (apply And.intro;· exact Cl4) | apply T1 | apply T2 | apply T3 | apply T4 | apply T6 | apply T5); conv => whnf)
         rw [wrap64 (n := (p : Int) + ((fs[i].length : Int) + 1)) (by omega) (by omega)]
         refine ⟨fun _ => ⟨by omega, by omega⟩, ?_⟩
         (conv => whnf); repeat ((first | (apply And.intro;· exact Cl4) | apply T1 | apply T2 | apply T3 | apply T4 | apply T6 | apply T5); conv => whnf)
         have eT2 : List.drop ((p : Int) + ((fs[i].length : Int) + 1)).toNat (List.take T.length T) = g ++ rest := by rw [show ((p : Int) + ((fs[i].length : Int) + 1)).toNat = p + (fs[i].length + 1) by omega, List.take_length, hX2]
         rw [eT2]
         refine partR_x _ g rest _ rfl hIs (by rw [List.length_append]; omega) _ ?_
         (conv => whnf); repeat ((first | (apply And.intro;· exact Cl4) | apply T1 | apply T2 | apply T3 | apply T4 | apply T6 | apply T5); conv => whnf)
         have hin : i < ns.length := by omega
         refine ⟨fun _ => ⟨by omega, by rw [strs_len]; omega⟩, ?_⟩
         (conv => whnf); repeat ((first | (apply And.intro;· exact Cl4) | apply T1 | apply T2 | apply T3 | apply T4 | apply T6 | apply T5); conv => whnf)
         rw [Int.toNat_natCast, nth_strs hin]
         (conv => whnf); repeat ((first | (apply And.intro;· exact Cl4) | apply T1 | apply T2 | apply T3 | apply T4 | apply T6 | apply T5); conv => whnf)
         by_cases hne : ns[i] = fs[i]
         ·rw [show (!(ns[i] == fs[i])) = false by simpa using hne]
          (conv => whnf); repeat ((first | (apply And.intro;· exact Cl4) | apply T1 | apply T2 | apply T3 | apply T4 | apply T6 | apply T5); conv => whnf)
          rw [wrap64 (n := (p : Int) + ((fs[i].length : Int) + 1) + (g.length : Int)) (by omega) (by omega)]
          refine ⟨fun _ => ⟨by omega, by omega⟩, ?_⟩
          (conv => whnf); repeat ((first | (apply And.intro;· exact Cl4) | apply T1 | apply T2 | apply T3 | apply T4 | apply T6 | apply T5); conv => whnf)
          have eT3 : List.drop ((p : Int) + ((fs[i].length : Int) + 1)).toNat (List.take ((p : Int) + ((fs[i].length : Int) + 1) + (g.length : Int)).toNat T) = g := by
           rw [show ((p : Int) + ((fs[i].length : Int) + 1)).toNat = p + (fs[i].length + 1) by omega, show ((p : Int) + ((fs[i].length : Int) + 1) + (g.length : Int)).toNat = p + (fs[i].length + 1) + g.length by omega, ← List.take_drop, hX2, List.take_left' rfl]
          rw [eT3, Int.toNat_natCast, hp]
          (conv => whnf); repeat ((first | (apply And.intro;· exact Cl4) | apply T1 | apply T2 | apply T3 | apply T4 | apply T6 | apply T5); conv => whnf)
          refine ih g _ hIs (by omega) (by omega) l[i] (by omega) (allVs_nth hal.2 hix) y1 y2 mp _ _ ⟨hq, g1, g2, g3, by omega⟩ _ ?_
          rw [cmpNs_drop hin hfi hne, hasL_drop5 hix (by omega)] at hhas
          cases hb : hasT l[i] (ls[i]'(by omega))
          ·(conv => whnf); repeat ((first | (apply And.intro;· exact Cl4) | apply T1 | apply T2 | apply T3 | apply T4 | apply T6 | apply T5); conv => whnf)
           rw [hhas, hb, Bool.false_and, Bool.and_false] at h
           exact h
          ·rw [hb, Bool.true_and] at hhas
           have hrl : 0 < rest.length := by rcases hrest with ⟨e, _⟩ | e <;> rw [e] <;> simp
           have hg4 : T.getD (p + (fs[i].length + 1) + g.length) 0 = rest.headD 0 := by
            have hq4 : p + (fs[i].length + 1) + g.length < T.length := by omega
            rw [← hX3, List.getD_eq_getElem?_getD, List.getElem?_eq_getElem hq4, List.drop_eq_getElem_cons hq4]; rfl
           (conv => whnf); repeat ((first | (apply And.intro;· exact Cl4) | apply T1 | apply T2 | apply T3 | apply T4 | apply T6 | apply T5); conv => whnf)
           rw [wrap64 (n := (p : Int) + ((fs[i].length : Int) + 1) + (g.length : Int)) (by omega) (by omega)]
           refine ⟨fun _ => ⟨by omega, by omega⟩, ?_⟩
           (conv => whnf); repeat ((first | (apply And.intro;· exact Cl4) | apply T1 | apply T2 | apply T3 | apply T4 | apply T6 | apply T5); conv => whnf)
           rw [show ((p : Int) + ((fs[i].length : Int) + 1) + (g.length : Int)).toNat = p + (fs[i].length + 1) + g.length by omega, hg4]
           rcases hrest with ⟨er, ef⟩ | er
           ·rw [er]
            (conv => whnf); repeat ((first | (apply And.intro;· exact Cl4) | apply T1 | apply T2 | apply T3 | apply T4 | apply T6 | apply T5); conv => whnf)
            rw [wrap64 (n := (i : Int) + 1) (by omega) (by omega)]
            refine ⟨[], (i + 1, p + (fs[i].length + 1) + g.length), ⟨hix, hfi, by show p + (fs[i].length + 1) + g.length ≤ T.length; omega, by show T.drop (p + (fs[i].length + 1) + g.length) = _; rw [hX3, er, ef]; rfl, hhas⟩, by show l.length - (i + 1) < l.length - i; omega, ?_⟩
            simp [meets, ghosts, St.le, St.get, look, keys, PV.labs, labsL, lookB, Blk.labs]
           ·rw [er]
            (conv => whnf); repeat ((first | (apply And.intro;· exact Cl4) | apply T1 | apply T2 | apply T3 | apply T4 | apply T6 | apply T5); conv => whnf)
            rw [wrap64 (n := (i : Int) + 1) (by omega) (by omega), wrap64 (n := (p : Int) + ((fs[i].length : Int) + 1) + (g.length : Int) + 1) (by omega) (by omega)]
            refine ⟨[], (i + 1, p + (fs[i].length + 1) + g.length + 1), ⟨hix, hfi, by show p + (fs[i].length + 1) + g.length + 1 ≤ T.length; omega, by show T.drop (p + (fs[i].length + 1) + g.length + 1) = _; rw [← List.drop_drop, hX3, er]; rfl, hhas⟩, by show l.length - (i + 1) < l.length - i; omega, ?_⟩
            simp [meets, ghosts, St.le, St.get, look, keys, PV.labs, labsL, lookB, Blk.labs]
         ·rw [show (!(ns[i] == fs[i])) = true by simpa using hne]
          (conv => whnf); repeat ((first | (apply And.intro;· exact Cl4) | apply T1 | apply T2 | apply T3 | apply T4 | apply T6 | apply T5); conv => whnf)
          rw [Int.toNat_natCast, hp]
          (conv => whnf); repeat ((first | (apply And.intro;· exact Cl4) | apply T1 | apply T2 | apply T3 | apply T4 | apply T6 | apply T5); conv => whnf)
          rw [hhas] at h
          have hc : (cmpNs (ns.drop i) (fs.drop i) == 0) = false := by
           rw [List.drop_eq_getElem_cons hin, List.drop_eq_getElem_cons hfi, cmpNs, if_neg hne]
           rw [beq_eq_false_iff_ne]; exact cmpS_ne hne
          rw [hc, Bool.and_false, Bool.false_and] at h
          exact h
        ·have hfe : i = fs.length := by omega
         have e0 : fs.drop i = [] := List.drop_of_length_le (by omega)
         rw [e0]
         refine Both.T rfl ?_
         (conv => whnf); repeat ((first | (apply And.intro;· exact Cl4) | apply T1 | apply T2 | apply T3 | apply T4 | apply T6 | apply T5); conv => whnf)
         rw [hhas, e0] at h
         have hc : (cmpNs (ns.drop i) [] == 0) = false := by
          rw [List.drop_eq_getElem_cons (show i < ns.length by omega)]; rfl
         rw [hc, Bool.and_false, Bool.false_and] at h
         exact h
       ·rw [show (k != 5) = true by simpa using hk5]
        (conv => whnf); repeat ((first | (apply And.intro;· exact Cl4) | apply T1 | apply T2 | apply T3 | apply T4 | apply T6 | apply T5); conv => whnf)
        rw [hhas, show (k == 5) = false by simpa using hk5] at h
        exact h
      ·obtain rfl : i = l.length := by omega
       rw [decide_eq_false (show ¬ (l.length : Int) < (l.length : Int) by omega)]
       (conv => whnf); repeat ((first | (apply And.intro;· exact Cl4) | apply T1 | apply T2 | apply T3 | apply T4 | apply T6 | apply T5); conv => whnf)
       rw [Int.toNat_natCast, hgT]
       rw [hhas] at h
       by_cases hk5 : k = 5
       ·subst hk5
        have hnl := own_len hal.1
        have en : ns.drop l.length = [] := List.drop_of_length_le (by omega)
        have el : l.drop l.length = [] := List.drop_of_length_le (Nat.le_refl _)
        rw [en, el] at h
        by_cases hfi : l.length < fs.length
        ·obtain ⟨rest, hsp, hrest⟩ := fields_split hfi (h1.trans h2)
         obtain ⟨c, q, hcq, hlow⟩ := name_head (rise_names hr fs[l.length] (List.getElem_mem hfi))
         have hhd : (fieldsT (fs.drop l.length) (ts.drop l.length) ++ [125]).headD 0 = c := by rw [hsp, hcq]; rfl
         rw [hhd]
         have hc : ((c.toNat : Int) == 125) = false := low_125 hlow
         rw [List.drop_eq_getElem_cons hfi] at h
         rw [hc]
         exact h
        ·have e0 : fs.drop l.length = [] := List.drop_of_length_le (by omega)
         rw [e0] at h ⊢
         exact h
       ·rw [show (k == 5) = false by simpa using hk5] at h ⊢
        exact h
theorem of_all : ∀ N, OfC N
 | 0 => fun t sh hS ht => absurd hS.ne (by rw [List.length_eq_zero_iff.1 (Nat.le_zero.1 ht)]; simp)
 | N + 1 => of_step (of_all N)
theorem isR_spec (v : V) (t : List UInt8) (ht : t.length ≤ 1000000000) (z1 z2 : Nat) (lp : List PV) (t1 t2 : Bool) (a : VA v z1 lp z2) (Post : PV → List (Nat × Blk) → Prop) (h : Post (.bool (isVB v t)) []) : Spec K 27 [.agg (vc v z1 lp t1 z2 t2), .str t] [] Post := by
 refine is27.specW K_ok K_mix false (by simp) (by simp [keys]) ?_
 unfold isVB at h
 (conv => whnf); repeat ((first | (apply And.intro;· exact Cl4) | apply T1 | apply T2 | apply T3 | apply T4 | apply T6 | apply T5); conv => whnf)
 refine fitsR_spec t ht _ ?_
 cases hf : fitsT t
 ·rw [hf, Bool.false_and, Bool.false_and] at h
  (conv => whnf); repeat ((first | (apply And.intro;· exact Cl4) | apply T1 | apply T2 | apply T3 | apply T4 | apply T6 | apply T5); conv => whnf)
  exact h
 ·rw [hf, Bool.true_and] at h
  (conv => whnf); repeat ((first | (apply And.intro;· exact Cl4) | apply T1 | apply T2 | apply T3 | apply T4 | apply T6 | apply T5); conv => whnf)
  refine may_spec v z1 z2 lp _ _ _ a ?_
  cases hm : mayV v
  ·rw [hm, Bool.false_and] at h
   (conv => whnf); repeat ((first | (apply And.intro;· exact Cl4) | apply T1 | apply T2 | apply T3 | apply T4 | apply T6 | apply T5); conv => whnf)
   exact h
  ·rw [hm, Bool.true_and] at h
   (conv => whnf); repeat ((first | (apply And.intro;· exact Cl4) | apply T1 | apply T2 | apply T3 | apply T4 | apply T6 | apply T5); conv => whnf)
   have hx := tree_fits hf
   refine of_all _ t (treeT t) hx.1 (Nat.le_refl _) (by omega) v a.b (okV_iff.1 hm).2 z1 z2 lp _ _ a _ ?_
   (conv => whnf); repeat ((first | (apply And.intro;· exact Cl4) | apply T1 | apply T2 | apply T3 | apply T4 | apply T6 | apply T5); conv => whnf)
   exact h
end Go.Vc
