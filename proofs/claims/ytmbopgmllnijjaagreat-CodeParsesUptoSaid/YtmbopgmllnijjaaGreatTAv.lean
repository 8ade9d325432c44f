/- What is proved here: contracts of functions of the program: of each function what it hands back and what it leaves in memory. Conditions: those that each theorem names. -/
import Derived.Test.YtmbopgmllnijjaaGreatTAu
set_option linter.unusedVariables false
set_option linter.unusedSimpArgs false
set_option linter.unusedSectionVars false
namespace Go.Vc
open Go Go.Proofs
set_option maxRecDepth 100000
theorem kind7 {c : UInt8} (h : ¬ 6 < c.toNat) : c.toNat = 0 ∨ c.toNat = 1 ∨ c.toNat = 2 ∨ c.toNat = 3 ∨ c.toNat = 4 ∨ c.toNat = 5 ∨ c.toNat = 6 := by omega
set_option maxHeartbeats 16000000 in
theorem value_tape : ∀ d, d ≤ 8 → ValC d := by
 intro d
 induction d with
 | zero =>
  intro _ b z t w hw hz hb Post h
  obtain rfl : w = 8 := by omega
  refine is110.specN K_ok K_mix false (by simp) (by simp [keys]) ?_
  cases b with
  | nil =>
   (conv => whnf); repeat ((first | (apply And.intro;· exact Cl3) | apply T1 | apply T2 | apply T3 | apply T4 | apply T6 | apply T5); conv => whnf)
   refine fail_t z [] t 3 _ rfl _ ?_
   (conv => whnf); repeat ((first | (apply And.intro;· exact Cl3) | apply T1 | apply T2 | apply T3 | apply T4 | apply T6 | apply T5); conv => whnf)
   refine fail_e z [] t 3 5 _ (by decide) _ ?_
   (conv => whnf); repeat ((first | (apply And.intro;· exact Cl3) | apply T1 | apply T2 | apply T3 | apply T4 | apply T6 | apply T5); conv => whnf)
   refine byte_c z [] t 3 hz hb _ (fun e' he' t' b' hb' hz' => ?_) (fun c r hcr => by cases hcr)
   cases he'
   (conv => whnf); repeat ((first | (apply And.intro;· exact Cl3) | apply T1 | apply T2 | apply T3 | apply T4 | apply T6 | apply T5); conv => whnf)
   refine fail_e z b' t' 3 4 _ (by decide) _ ?_
   (conv => whnf); repeat ((first | (apply And.intro;· exact Cl3) | apply T1 | apply T2 | apply T3 | apply T4 | apply T6 | apply T5); conv => whnf)
   exact h V0 b' 3 t' 0 [] 0 VO0 hb' hz' (.inr ⟨rfl, .inl rfl⟩)
  | cons c r =>
   (conv => whnf); repeat ((first | (apply And.intro;· exact Cl3) | apply T1 | apply T2 | apply T3 | apply T4 | apply T6 | apply T5); conv => whnf)
   refine fail_f z (c :: r) t 3 _ (by simp [bs]; omega) _ ?_
   (conv => whnf); repeat ((first | (apply And.intro;· exact Cl3) | apply T1 | apply T2 | apply T3 | apply T4 | apply T6 | apply T5); conv => whnf)
   refine fail_t z (c :: r) t 5 _ (by decide) _ ?_
   (conv => whnf); repeat ((first | (apply And.intro;· exact Cl3) | apply T1 | apply T2 | apply T3 | apply T4 | apply T6 | apply T5); conv => whnf)
   refine byte_c z (c :: r) t 5 hz hb _ (fun e' he' t' b' hb' hz' => ?_) (fun c r _ h0 => absurd h0 (by decide))
   cases he'
   (conv => whnf); repeat ((first | (apply And.intro;· exact Cl3) | apply T1 | apply T2 | apply T3 | apply T4 | apply T6 | apply T5); conv => whnf)
   refine fail_e z b' t' 5 4 _ (by decide) _ ?_
   (conv => whnf); repeat ((first | (apply And.intro;· exact Cl3) | apply T1 | apply T2 | apply T3 | apply T4 | apply T6 | apply T5); conv => whnf)
   exact h V0 b' 5 t' 0 [] 0 VO0 hb' hz' (.inr ⟨rfl, .inr (.inr rfl)⟩)
 | succ d IH =>
  intro hd b z t w hw hz hb Post h
  have IH := IH (by omega)
  refine is110.specCN [93] K_ok K_mix false (by simp) (by simp [keys]) ?_
  cases b with
  | nil =>
   (conv => whnf); repeat ((first | (apply And.intro;· exact Cl3) | apply T1 | apply T2 | apply T3 | apply T4 | apply T6 | apply T5); conv => whnf)
   refine fail_t z [] t 3 _ rfl _ ?_
   (conv => whnf); repeat ((first | (apply And.intro;· exact Cl3) | apply T1 | apply T2 | apply T3 | apply T4 | apply T6 | apply T5); conv => whnf)
   refine fail_e z [] t 3 5 _ (by decide) _ ?_
   (conv => whnf); repeat ((first | (apply And.intro;· exact Cl3) | apply T1 | apply T2 | apply T3 | apply T4 | apply T6 | apply T5); conv => whnf)
   refine byte_c z [] t 3 hz hb _ (fun e' he' t' b' hb' hz' => ?_) (fun c r hcr => by cases hcr)
   cases he'
   (conv => whnf); repeat ((first | (apply And.intro;· exact Cl3) | apply T1 | apply T2 | apply T3 | apply T4 | apply T6 | apply T5); conv => whnf)
   refine fail_e z b' t' 3 4 _ (by decide) _ ?_
   (conv => whnf); repeat ((first | (apply And.intro;· exact Cl3) | apply T1 | apply T2 | apply T3 | apply T4 | apply T6 | apply T5); conv => whnf)
   exact h V0 b' 3 t' 0 [] 0 VO0 hb' hz' (.inr ⟨rfl, .inl rfl⟩)
  | cons c r =>
   have hpc : parseV (d + 1) (c :: r) = if 6 < c.toNat then .error 4 else bodyP (parseV d) c.toNat r := rfl
   have hb1 : r.length ≤ 1000000000 := by simp at hb; omega
   (conv => whnf); repeat ((first | (apply And.intro;· exact Cl3) | apply T1 | apply T2 | apply T3 | apply T4 | apply T6 | apply T5); conv => whnf)
   refine fail_f z (c :: r) t 3 _ (by simp [bs]; omega) _ ?_
   (conv => whnf); repeat ((first | (apply And.intro;· exact Cl3) | apply T1 | apply T2 | apply T3 | apply T4 | apply T6 | apply T5); conv => whnf)
   refine fail_f z (c :: r) t 5 _ (by simp; omega) _ ?_
   (conv => whnf); repeat ((first | (apply And.intro;· exact Cl3) | apply T1 | apply T2 | apply T3 | apply T4 | apply T6 | apply T5); conv => whnf)
   refine byte_c z (c :: r) t 0 hz hb _ (fun e' he' => by cases he') (fun c' r' hcr _ t' hz' => ?_)
   obtain ⟨rfl, rfl⟩ : c' = c ∧ r' = r := by simp at hcr; exact ⟨hcr.1.symm, hcr.2.symm⟩
   by_cases hc : 6 < c'.toNat
   ·rw [if_pos hc] at hpc
    (conv => whnf); repeat ((first | (apply And.intro;· exact Cl3) | apply T1 | apply T2 | apply T3 | apply T4 | apply T6 | apply T5); conv => whnf)
    refine fail_t z r' t' 4 _ (by simp; omega) _ ?_
    (conv => whnf); repeat ((first | (apply And.intro;· exact Cl3) | apply T1 | apply T2 | apply T3 | apply T4 | apply T6 | apply T5); conv => whnf)
    exact h V0 r' 4 t' 0 [] 0 VO0 (by simp) (.inl hz') (.inr ⟨hpc, .inr (.inl rfl)⟩)
   ·rw [if_neg hc] at hpc
    have hcd : decide ((6 : Int) < (c'.toNat : Int)) = false := by simp; omega
    rcases kind7 hc with hk | hk | hk | hk | hk | hk | hk
    all_goals (rw [hk] at hpc ⊢)
    ·(conv => whnf); repeat ((first | (apply And.intro;· exact Cl3) | apply T1 | apply T2 | apply T3 | apply T4 | apply T6 | apply T5); conv => whnf)
     refine fail_f z r' t' 4 _ rfl _ ?_
     (conv => whnf); repeat ((first | (apply And.intro;· exact Cl3) | apply T1 | apply T2 | apply T3 | apply T4 | apply T6 | apply T5); conv => whnf)
     exact h V0 r' 0 t' 0 [] 0 VO0 (by simp) (.inl hz') (.inl ⟨hpc, rfl⟩)
    ·(conv => whnf); repeat ((first | (apply And.intro;· exact Cl3) | apply T1 | apply T2 | apply T3 | apply T4 | apply T6 | apply T5); conv => whnf)
     refine fail_f z r' t' 4 _ rfl _ ?_
     (conv => whnf); repeat ((first | (apply And.intro;· exact Cl3) | apply T1 | apply T2 | apply T3 | apply T4 | apply T6 | apply T5); conv => whnf)
     refine off_m z r' t' 0 8 (.inl rfl) (.inl hz') hb1 (by omega) _ (fun s b2 e2 ho hs z2 t2 hb2 hz2 hz3 => ?_)
     (conv => whnf); repeat ((first | (apply And.intro;· exact Cl3) | apply T1 | apply T2 | apply T3 | apply T4 | apply T6 | apply T5); conv => whnf)
     have hs8 : s.length ≤ 8 := by rcases hs with h | h <;> simp [h]
     refine ⟨Nat, fun i => ⟨110, [(40, .int .i64 i), (39, .int .i64 s.length), (38, .sl z2 (bs s) false true), (4, .ptr 1 0)], [(0, .box [.sl z (bs b2) t2 true, .int .i64 e2]), (1, .box [.int .i64 1, .int .i64 (n8 (s.take i)), .str [], .sl 0 [] true false, .sl 0 [] true false])], [0]⟩, fun i => i ≤ s.length, fun i => s.length - i,
      ⟨[], 0, Nat.zero_le _, ?_⟩, fun i hi => ?_⟩
     ·simp [meets, ghosts, St.le, St.get, look, keys, PV.labs, labsL, lookB, Blk.labs, bs_len, n8]
     ·have hi : i ≤ s.length := hi
      conv => (arg 5; dsimp only)
      (conv => whnf); repeat ((first | (apply And.intro;· exact Cl3) | apply T1 | apply T2 | apply T3 | apply T4 | apply T6 | apply T5); conv => whnf)
      refine ⟨fun h1 => ?_, fun h1 => ?_⟩
      ·have hix : i < s.length := by have := of_decide_eq_true h1; omega
       have hz4 : z2 = 1 ∨ bs s = [] := hz3.imp id fun h => by rw [h]; rfl
       (conv => whnf); repeat ((first | (apply And.intro;· exact Cl3) | apply T1 | apply T2 | apply T3 | apply T4 | apply T6 | apply T5); conv => whnf)
       refine ⟨fun _ => ⟨by omega, by rw [bs_len]; omega⟩, ?_⟩
       (conv => whnf); repeat ((first | (apply And.intro;· exact Cl3) | apply T1 | apply T2 | apply T3 | apply T4 | apply T6 | apply T5); conv => whnf)
       rw [Int.toNat_natCast, nth_bs hix]
       (conv => whnf); repeat ((first | (apply And.intro;· exact Cl3) | apply T1 | apply T2 | apply T3 | apply T4 | apply T6 | apply T5); conv => whnf)
       rw [wrap64 (n := (i : Int) + 1) (by omega) (by omega)]
       refine ⟨[], i + 1, hix, by show s.length - (i + 1) < s.length - i; omega, ?_⟩
       simp [meets, ghosts, St.le, St.get, look, keys, PV.labs, labsL, lookB, Blk.labs, n8_snoc s i hix]
       rw [show IntKind.i64.wrap (s[i].toNat : Int) = (s[i].toNat : Int) from wrap64 (by omega) (by have := s[i].toNat_lt; omega)]
       rfl
      ·have hix : i = s.length := by have := of_decide_eq_false h1; omega
       subst hix
       (conv => whnf); repeat ((first | (apply And.intro;· exact Cl3) | apply T1 | apply T2 | apply T3 | apply T4 | apply T6 | apply T5); conv => whnf)
       rw [List.take_length]
       refine h (.mk 1 (n8 s) [] [] []) b2 e2 t2 0 [] 0 ⟨rfl, .inr rfl, .inr rfl, n8_i64 s⟩ (by simp; omega) hz2 (ho.map (fun hp => ?_) (fun e hp => ?_))
       all_goals (
        rw [hpc, bodyP, if_neg (by decide), if_pos rfl]
        rw [lift0] at hp
        rw [hp])
    ·(conv => whnf); repeat ((first | (apply And.intro;· exact Cl3) | apply T1 | apply T2 | apply T3 | apply T4 | apply T6 | apply T5); conv => whnf)
     refine fail_f z r' t' 4 _ rfl _ ?_
     (conv => whnf); repeat ((first | (apply And.intro;· exact Cl3) | apply T1 | apply T2 | apply T3 | apply T4 | apply T6 | apply T5); conv => whnf)
     refine byte_c z r' t' 0 (.inl hz') hb1 _ (fun e2 he2 t2 b2 hb2 hz2 => ?_) (fun x r2 hx _ t2 _ => ?_)
     ·(conv => whnf); repeat ((first | (apply And.intro;· exact Cl3) | apply T1 | apply T2 | apply T3 | apply T4 | apply T6 | apply T5); conv => whnf)
      have hn := takeP_err he2
      subst hn
      refine fail_e z b2 t2 3 4 _ (by decide) _ ?_
      (conv => whnf); repeat ((first | (apply And.intro;· exact Cl3) | apply T1 | apply T2 | apply T3 | apply T4 | apply T6 | apply T5); conv => whnf)
      refine h (.mk 2 0 [] [] []) b2 3 t2 0 [] 0 ⟨rfl, .inr rfl, .inr rfl, ⟨by show (-9223372036854775808 : Int) ≤ 0; omega, by show (0 : Int) ≤ _; omega⟩⟩ (by simp; omega) hz2 (.inr ⟨?_, .inl rfl⟩)
      rw [hpc, bodyP, if_neg (by decide), if_neg (by decide), if_pos rfl]
      rw [lift0] at he2
      rw [he2]
     ·subst hx
      (conv => whnf); repeat ((first | (apply And.intro;· exact Cl3) | apply T1 | apply T2 | apply T3 | apply T4 | apply T6 | apply T5); conv => whnf)
      have hx8 := x.toNat_lt
      have ht : takeP 1 (x :: r2) = .ok ([x], r2) := by rw [takeP, if_neg (by simp)]; rfl
      have hbo : bodyP (parseV d) 2 (x :: r2) = if 1 < x.toNat then .error 4 else .ok (.mk 2 x.toNat [] [] [], r2) := by
       rw [bodyP, if_neg (by decide), if_neg (by decide), if_pos rfl, ht]; rfl
      rw [hbo] at hpc
      by_cases h1 : 1 < x.toNat
      ·rw [if_pos h1] at hpc
       refine fail_t z r2 t2 4 _ (by simp; omega) _ ?_
       (conv => whnf); repeat ((first | (apply And.intro;· exact Cl3) | apply T1 | apply T2 | apply T3 | apply T4 | apply T6 | apply T5); conv => whnf)
       exact h (.mk 2 x.toNat [] [] []) r2 4 t2 0 [] 0 ⟨rfl, .inr rfl, .inr rfl, ⟨by show (-9223372036854775808 : Int) ≤ x.toNat; omega, by show (x.toNat : Int) ≤ _; omega⟩⟩ (by simp; omega) (.inl hz') (.inr ⟨hpc, .inr (.inl rfl)⟩)
      ·rw [if_neg h1] at hpc
       refine fail_f z r2 t2 4 _ (by simp; omega) _ ?_
       (conv => whnf); repeat ((first | (apply And.intro;· exact Cl3) | apply T1 | apply T2 | apply T3 | apply T4 | apply T6 | apply T5); conv => whnf)
       exact h (.mk 2 x.toNat [] [] []) r2 0 t2 0 [] 0 ⟨rfl, .inr rfl, .inr rfl, ⟨by show (-9223372036854775808 : Int) ≤ x.toNat; omega, by show (x.toNat : Int) ≤ _; omega⟩⟩ (by simp; omega) (.inl hz') (.inl ⟨hpc, rfl⟩)
    ·(conv => whnf); repeat ((first | (apply And.intro;· exact Cl3) | apply T1 | apply T2 | apply T3 | apply T4 | apply T6 | apply T5); conv => whnf)
     refine fail_f z r' t' 4 _ rfl _ ?_
     (conv => whnf); repeat ((first | (apply And.intro;· exact Cl3) | apply T1 | apply T2 | apply T3 | apply T4 | apply T6 | apply T5); conv => whnf)
     refine text_m z r' t' 0 64 (by omega) (.inl rfl) (.inl hz') hb1 _ (fun s b2 e2 ho t2 hb2 hz2 => ?_)
     (conv => whnf); repeat ((first | (apply And.intro;· exact Cl3) | apply T1 | apply T2 | apply T3 | apply T4 | apply T6 | apply T5); conv => whnf)
     refine h (.mk 3 0 s [] []) b2 e2 t2 0 [] 0 ⟨rfl, .inr rfl, .inr rfl, ⟨by show (-9223372036854775808 : Int) ≤ 0; omega, by show (0 : Int) ≤ _; omega⟩⟩ (by simp; omega) hz2 (ho.map (fun hp => ?_) (fun e hp => ?_))
     all_goals (
      rw [hpc, bodyP, if_neg (by decide), if_neg (by decide), if_neg (by decide), if_pos rfl]
      rw [lift0] at hp
      rw [hp])
    ·(conv => whnf); repeat ((first | (apply And.intro;· exact Cl3) | apply T1 | apply T2 | apply T3 | apply T4 | apply T6 | apply T5); conv => whnf)
     refine fail_f z r' t' 4 _ rfl _ ?_
     (conv => whnf); repeat ((first | (apply And.intro;· exact Cl3) | apply T1 | apply T2 | apply T3 | apply T4 | apply T6 | apply T5); conv => whnf)
     refine counts_m z r' t' 0 32 (by omega) (.inl rfl) (.inl hz') hb1 _ (fun n b2 e2 ho hn t2 hne hb2 hz2 => ?_)
     (conv => whnf); repeat ((first | (apply And.intro;· exact Cl3) | apply T1 | apply T2 | apply T3 | apply T4 | apply T6 | apply T5); conv => whnf)
     refine ⟨Nat × List V × List PV × List UInt8 × Bool × Int, fun x => ⟨110, [(76, .int .i64 x.1), (75, .int .i64 n), (4, .ptr 1 0), (1, .int .i64 w), (0, .ptr 0 0)],
       [(0, .box [.sl z (bs x.2.2.2.1) x.2.2.2.2.1 true, .int .i64 x.2.2.2.2.2]), (1, .box [.int .i64 4, .int .i64 0, .str [], .ref 5 2 0 x.1, .sl 0 [] true false]), (2, .row 58 5 x.2.2.1 false)], [0]⟩,
      fun x => x.1 ≤ n ∧ VPs x.2.1 x.2.2.1 ∧ x.2.1.length = x.1 ∧ lift e2 (listP (parseV d) n b2) = preL x.2.1 (lift x.2.2.2.2.2 (listP (parseV d) (n - x.1) x.2.2.2.1)) ∧ (z = 1 ∨ x.2.2.2.1 = []) ∧ x.2.2.2.1.length ≤ b2.length ∧ (x.2.2.2.2.2 = 0 ∨ is345 x.2.2.2.2.2), fun x => n - x.1,
      ⟨[.cell 1 3 58], (0, [], [], b2, t2, e2), ⟨Nat.zero_le _, rfl, rfl, by rw [preL_nil]; rfl, hz2, Nat.le_refl _, ho.e⟩, ?_⟩, fun x hI => ?_⟩
     ·simp [meets, ghosts, ghost, St.le, St.get, St.put, look, keys, PV.labs, labsL, lookB, Blk.labs, fresh, nth, updB]
      rfl
     ·obtain ⟨i, l, lp, b3, t3, e3⟩ := x
      obtain ⟨hi, hvp, hll, hpre, hz4, hb4, he4⟩ := hI
      simp only at hi hvp hll hpre hz4 hb4 he4
      conv => (arg 5; dsimp only)
      (conv => whnf); repeat ((first | (apply And.intro;· exact Cl3) | apply T1 | apply T2 | apply T3 | apply T4 | apply T6 | apply T5); conv => whnf)
      refine ⟨fun h1 => ?_, fun h1 => ?_⟩
      ·have hix : i < n := by have := of_decide_eq_true h1; omega
       ((conv => whnf); repeat' (first | ((first | (apply And.intro;· exact Cl3) | apply T1 | apply T2 | apply T3 | apply T4 | apply T6 | apply T5); conv => whnf) | (refine within_m d (by omega) IH b3 e3 z t3 w hw he4 hz4 (by omega) _ (fun v b5 e5 t5 z1 lp5 zz2 hv hb5 hz5 ho5 => ?_); conv => whnf) | (refine ⟨by show (i + 1) * 81 ≤ 70368744177664; omega, ?_⟩; conv => whnf) | ((refine Both.mk ?_ ?_ <;> fail_if_success (intro _)) <;> conv => whnf)))
       all_goals (
        refine ⟨[], (i + 1, l ++ [v], lp ++ [.agg (vcN v z1 lp5 zz2)], b5, t5, e5), ⟨hix, VPs_snoc hvp hv.vpN, by simp [hll], ?_, hz5, by show b5.length ≤ _; omega, ho5.e⟩, by show n - (i + 1) < n - i; omega, ?_⟩
        ·rw [hpre, show n - i = (n - (i + 1)) + 1 by omega]
         exact list_step ho5
        ·rw [wrap64 (n := (i : Int) + 1) (by omega) (by omega)]
         have hlt : List.take i lp = lp := List.take_of_length_le (by rw [VPs_len hvp]; omega)
         simp [meets, ghosts, St.le, St.get, look, keys, PV.labs, labsL, lookB, Blk.labs, hlt, vcN])
      ·have hix : i = n := by have := of_decide_eq_false h1; omega
       subst hix
       have hlt : List.take i (List.drop 0 lp) = lp := by rw [List.drop_zero, List.take_of_length_le (by rw [VPs_len hvp]; omega)]
       (conv => whnf); repeat ((first | (apply And.intro;· exact Cl3) | apply T1 | apply T2 | apply T3 | apply T4 | apply T6 | apply T5); conv => whnf)
       all_goals rw [hlt]
       all_goals rw [Nat.sub_self] at hpre
       all_goals (
        have he2 := list_end he4 hpre
        refine h (.mk 4 0 [] l []) b3 e3 t3 5 lp 0 ⟨hvp, .inl rfl, .inr rfl, ⟨by show (-9223372036854775808 : Int) ≤ 0; omega, by show (0 : Int) ≤ _; omega⟩⟩ (by simp; omega) hz4 ?_
        have hq : bodyP (parseV d) 4 r' = match cntP 32 r' with
         | .error e => .error e
         | .ok (n, r) => match listP (parseV d) n r with
          | .error e => .error e
          | .ok (l, r) => .ok (.mk 4 0 [] l [], r) := rfl
        rw [hpc, hq]
        rw [lift0] at ho
        rcases ho with ⟨ho, rfl⟩ | ⟨ho, ho2⟩
        ·rw [ho]
         simp only
         rw [lift0] at he2
         exact he2.map (fun h => by rw [h]) (fun e h => by rw [h])
        ·rw [ho]
         rw [liftE (is345_ne ho2)] at he2
         exact he2.map (fun h => by cases h) (fun e h => by cases h; rfl))
    ·(conv => whnf); repeat ((first | (apply And.intro;· exact Cl3) | apply T1 | apply T2 | apply T3 | apply T4 | apply T6 | apply T5); conv => whnf)
     refine fail_f z r' t' 4 _ rfl _ ?_
     (conv => whnf); repeat ((first | (apply And.intro;· exact Cl3) | apply T1 | apply T2 | apply T3 | apply T4 | apply T6 | apply T5); conv => whnf)
     refine counts_m z r' t' 0 8 (by omega) (.inl rfl) (.inl hz') hb1 _ (fun n b2 e2 ho hn t2 hne hb2 hz2 => ?_)
     (conv => whnf); repeat ((first | (apply And.intro;· exact Cl3) | apply T1 | apply T2 | apply T3 | apply T4 | apply T6 | apply T5); conv => whnf)
     refine ⟨Nat × List (List UInt8) × List V × List PV × List UInt8 × Bool × Int, fun x => ⟨110, [(91, .int .i64 x.1), (90, .int .i64 n), (4, .ptr 1 0), (1, .int .i64 w), (0, .ptr 0 0)],
       [(0, .box [.sl z (bs x.2.2.2.2.1) x.2.2.2.2.2.1 true, .int .i64 x.2.2.2.2.2.2]), (1, .box [.int .i64 5, .int .i64 0, .str [], .ref 5 3 0 x.1, .ref 1 2 0 x.1]), (2, .row 9 1 (strs x.2.1) false), (3, .row 58 5 x.2.2.2.1 false)], [0]⟩,
      fun x => x.1 ≤ n ∧ VPs x.2.2.1 x.2.2.2.1 ∧ x.2.2.1.length = x.1 ∧ x.2.1.length = x.1 ∧ lift e2 (recP (parseV d) n b2) = preR x.2.1 x.2.2.1 (lift x.2.2.2.2.2.2 (recP (parseV d) (n - x.1) x.2.2.2.2.1)) ∧ (z = 1 ∨ x.2.2.2.2.1 = []) ∧ x.2.2.2.2.1.length ≤ b2.length ∧ (x.2.2.2.2.2.2 = 0 ∨ is345 x.2.2.2.2.2.2), fun x => n - x.1,
      ⟨[.cell 1 4 9, .cell 1 3 58], (0, [], [], [], b2, t2, e2), ⟨Nat.zero_le _, rfl, rfl, rfl, by rw [preR_nil]; rfl, hz2, Nat.le_refl _, ho.e⟩, ?_⟩, fun x hI => ?_⟩
     ·simp [meets, ghosts, ghost, St.le, St.get, St.put, look, keys, PV.labs, labsL, lookB, Blk.labs, fresh, nth, updB, strs]
      repeat' apply And.intro
      all_goals rfl
     ·obtain ⟨i, ns, l, lp, b3, t3, e3⟩ := x
      obtain ⟨hi, hvp, hll, hnl, hpre, hz4, hb4, he4⟩ := hI
      simp only at hi hvp hll hnl hpre hz4 hb4 he4
      conv => (arg 5; dsimp only)
      (conv => whnf); repeat ((first | (apply And.intro;· exact Cl3) | apply T1 | apply T2 | apply T3 | apply T4 | apply T6 | apply T5); conv => whnf)
      refine ⟨fun h1 => ?_, fun h1 => ?_⟩
      ·have hix : i < n := by have := of_decide_eq_true h1; omega
       have hns : (strs ns).length = i := by rw [strs_len]; exact hnl
       (conv => whnf); repeat ((first | (apply And.intro;· exact Cl3) | apply T1 | apply T2 | apply T3 | apply T4 | apply T6 | apply T5); conv => whnf)
       refine ⟨List UInt8 × List UInt8 × Bool × Int, fun y => ⟨110, [(91, .int .i64 i), (90, .int .i64 n), (4, .ptr 1 0), (1, .int .i64 w), (0, .ptr 0 0)],
        [(0, .box [.sl z (bs y.2.1) y.2.2.1 true, .int .i64 y.2.2.2]), (1, .box [.int .i64 5, .int .i64 0, .str [], .ref 5 3 0 i, .ref 1 2 0 (i + 1)]), (2, .row 9 1 (strs (ns ++ [y.1])) false), (3, .row 58 5 lp false)], [0]⟩,
        fun y => Out (lift e3 (textP 16 b3)) y.1 y.2.1 y.2.2.2 ∧ y.2.1.length ≤ b3.length ∧ (z = 1 ∨ y.2.1 = []), ?_, fun y hy => ?_⟩
       ·(conv => whnf); repeat' (first | ((first | (apply And.intro;· exact Cl3) | apply T1 | apply T2 | apply T3 | apply T4 | apply T6 | apply T5); conv => whnf) | (refine text_m z b3 t3 e3 16 (by omega) he4 hz4 (by omega) _ (fun s b4 e4 ho4 t4 hbb4 hz5 => ?_); conv => whnf) | (refine ⟨by show (i + 1) * 17 ≤ 70368744177664; omega, ?_⟩; conv => whnf) | ((refine Both.mk ?_ ?_ <;> fail_if_success (intro _)) <;> conv => whnf))
        all_goals (
         refine ⟨[], (s, b4, t4, e4), ⟨ho4, hbb4, hz5⟩, ?_⟩
         have hlt2 : List.take i (List.map PV.str ns) = List.map PV.str ns := List.take_of_length_le (by simp; omega)
         simp [meets, ghosts, St.le, St.get, look, keys, PV.labs, labsL, lookB, Blk.labs, hlt2, vcN, strs])
       obtain ⟨s, b4, t4, e4⟩ := y
       obtain ⟨ho4, hbb4, hz5⟩ := hy
       simp only at ho4 hbb4 hz5
       have hnsl : (strs (ns ++ [s])).length = i + 1 := by rw [strs_len]; simp; omega
       conv => (arg 4; dsimp only)
       ((conv => whnf); repeat' (first | ((first | (apply And.intro;· exact Cl3) | apply T1 | apply T2 | apply T3 | apply T4 | apply T6 | apply T5); conv => whnf) | (refine within_m d (by omega) IH b4 e4 z t4 w hw ho4.e hz5 (by omega) _ (fun v b5 e5 t5 z1 lp5 zz2 hv hb5 hz5 ho5 => ?_); conv => whnf) | (refine ⟨by show (i + 1) * 81 ≤ 70368744177664; omega, ?_⟩; conv => whnf) | ((refine Both.mk ?_ ?_ <;> fail_if_success (intro _)) <;> conv => whnf)))
       all_goals (
        refine ⟨[], (i + 1, ns ++ [s], l ++ [v], lp ++ [.agg (vcN v z1 lp5 zz2)], b5, t5, e5), ⟨hix, VPs_snoc hvp hv.vpN, by simp [hll], by simp [hnl], ?_, by assumption, by show b5.length ≤ _; omega, ho5.e⟩, by show n - (i + 1) < n - i; omega, ?_⟩
        ·rw [hpre, show n - i = (n - (i + 1)) + 1 by omega]
         exact rec_stepV ho4 ho5
        ·rw [wrap64 (n := (i : Int) + 1) (by omega) (by omega)]
         have hlt : List.take i lp = lp := List.take_of_length_le (by rw [VPs_len hvp]; omega)
         simp [meets, ghosts, St.le, St.get, look, keys, PV.labs, labsL, lookB, Blk.labs, hlt, vcN, strs])
      ·have hix : i = n := by have := of_decide_eq_false h1; omega
       subst hix
       have hns : (strs ns).length = i := by rw [strs_len]; exact hnl
       have hlt : List.take i (List.drop 0 lp) = lp := by rw [List.drop_zero, List.take_of_length_le (by rw [VPs_len hvp]; omega)]
       have hlt2 : List.take i (List.drop 0 (strs ns)) = strs ns := by rw [List.drop_zero, List.take_of_length_le (by omega)]
       (conv => whnf); repeat ((first | (apply And.intro;· exact Cl3) | apply T1 | apply T2 | apply T3 | apply T4 | apply T6 | apply T5); conv => whnf)
       all_goals rw [hlt, hlt2]
       all_goals rw [Nat.sub_self] at hpre
       all_goals (
        have he2 := rec_end he4 hpre
        refine h (.mk 5 0 [] l ns) b3 e3 t3 5 lp 1 ⟨hvp, .inl rfl, .inl rfl, ⟨by show (-9223372036854775808 : Int) ≤ 0; omega, by show (0 : Int) ≤ _; omega⟩⟩ (by simp; omega) hz4 ?_
        have hq : bodyP (parseV d) 5 r' = match cntP 8 r' with
         | .error e => .error e
         | .ok (n, r) => match recP (parseV d) n r with
          | .error e => .error e
          | .ok ((ns, l), r) => .ok (.mk 5 0 [] l ns, r) := rfl
        rw [hpc, hq]
        rw [lift0] at ho
        rcases ho with ⟨ho, rfl⟩ | ⟨ho, ho2⟩
        ·rw [ho]
         simp only
         rw [lift0] at he2
         exact he2.map (fun h => by rw [h]) (fun e h => by rw [h])
        ·rw [ho]
         rw [liftE (is345_ne ho2)] at he2
         exact he2.map (fun h => by cases h) (fun e h => by cases h; rfl))
    ·(conv => whnf); repeat ((first | (apply And.intro;· exact Cl3) | apply T1 | apply T2 | apply T3 | apply T4 | apply T6 | apply T5); conv => whnf)
     refine fail_f z r' t' 4 _ rfl _ ?_
     (conv => whnf); repeat ((first | (apply And.intro;· exact Cl3) | apply T1 | apply T2 | apply T3 | apply T4 | apply T6 | apply T5); conv => whnf)
     refine byte_c z r' t' 0 (.inl hz') hb1 _ (fun e2 he2 t2 b2 hb2 hz2 => ?_) (fun x r2 hx _ t2 _ => ?_)
     ·(conv => whnf); repeat ((first | (apply And.intro;· exact Cl3) | apply T1 | apply T2 | apply T3 | apply T4 | apply T6 | apply T5); conv => whnf)
      have hn := takeP_err he2
      subst hn
      refine h (.mk 6 0 [] [] []) b2 3 t2 0 [] 0 ⟨rfl, .inr rfl, .inr rfl, ⟨by show (-9223372036854775808 : Int) ≤ 0; omega, by show (0 : Int) ≤ _; omega⟩⟩ (by simp; omega) hz2 (.inr ⟨?_, .inl rfl⟩)
      rw [hpc, bodyP, if_neg (by decide), if_neg (by decide), if_neg (by decide), if_neg (by decide), if_neg (by decide), if_neg (by decide)]
      rw [lift0] at he2
      rw [he2]
     ·subst hx
      (conv => whnf); repeat ((first | (apply And.intro;· exact Cl3) | apply T1 | apply T2 | apply T3 | apply T4 | apply T6 | apply T5); conv => whnf)
      have hx8 := x.toNat_lt
      have ht : takeP 1 (x :: r2) = .ok ([x], r2) := by rw [takeP, if_neg (by simp)]; rfl
      have hbo : bodyP (parseV d) 6 (x :: r2) = .ok (.mk 6 x.toNat [] [] [], r2) := by
       rw [bodyP, if_neg (by decide), if_neg (by decide), if_neg (by decide), if_neg (by decide), if_neg (by decide), if_neg (by decide), ht]; rfl
      rw [hbo] at hpc
      exact h (.mk 6 x.toNat [] [] []) r2 0 t2 0 [] 0 ⟨rfl, .inr rfl, .inr rfl, ⟨by show (-9223372036854775808 : Int) ≤ x.toNat; omega, by show (x.toNat : Int) ≤ _; omega⟩⟩ (by simp; omega) (.inl hz') (.inl ⟨hpc, rfl⟩)
end Go.Vc
