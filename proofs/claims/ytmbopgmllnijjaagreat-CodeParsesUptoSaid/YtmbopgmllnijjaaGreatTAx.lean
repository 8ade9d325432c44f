/- What is proved here: contracts of functions of the program: of each function what it hands back and what it leaves in memory. Conditions: those that each theorem names. -/
import Derived.Test.YtmbopgmllnijjaaGreatTAw
set_option linter.unusedVariables false
set_option linter.unusedSimpArgs false
set_option linter.unusedSectionVars false
namespace Go.Vc
open Go Go.Proofs
set_option maxRecDepth 100000
theorem kind7' {c : UInt8} (h : ¬ 6 < c.toNat) : c.toNat = 0 ∨ c.toNat = 1 ∨ c.toNat = 2 ∨ c.toNat = 3 ∨ c.toNat = 4 ∨ c.toNat = 5 ∨ c.toNat = 6 := by omega
theorem i3 : is345 3 := .inl rfl
theorem i4 : is345 4 := .inr (.inl rfl)
theorem i5 : is345 5 := .inr (.inr rfl)
theorem i64n {n : Nat} (h : n < 256) : i64 (n : Int) := ⟨by omega, by omega⟩
def ValR (d : Nat) : Prop := ∀ (b : List UInt8) (e : Int) (z : Nat) (t : Bool) (w : Int), w = 8 - (d : Int) → (e = 0 ∨ is345 e) → (z = 1 ∨ b = []) → b.length ≤ 1000000000 → ∀ Post : PV → List (Nat × Blk) → Prop,
 (∀ v b' e' t' z1 lp z2, VO v z1 lp z2 → b'.length ≤ b.length → (z = 1 ∨ b' = []) → Out (lift e (parseV d b)) v b' e' → Post (.agg (vc v z1 lp false z2 false)) (tp z b' t' e')) → Spec K 112 [.ptr 0 0, .int .i64 w] (tp z b t e) Post
set_option maxHeartbeats 32000000 in
theorem value_ref : ∀ d, d ≤ 8 → ValR d := by
 intro d
 induction d with
 | zero =>
  intro _ b e z t w hw he hz hb Post h
  obtain rfl : w = 8 := by omega
  refine is112.specW K_ok K_mix false (by simp) (by simp [keys]) ?_
  rcases he with rfl | he
  ·cases b with
   | nil =>
    (conv => whnf); repeat ((first | (apply And.intro;· exact Cl4) | apply T1 | apply T2 | apply T3 | apply T4 | apply T6 | apply T5); conv => whnf)
    refine some_m z [] t 3 1 (.inr i3) hz hb (by omega) _ (fun s b2 e2 ho hs t2 hb2 hz2 => ?_)
    obtain ⟨x, rfl⟩ := one_of hs
    have hx := x.toNat_lt
    obtain rfl : 3 = e2 := by
     rw [liftE (is345_ne i3)] at ho
     rcases ho with ⟨ho, _⟩ | ⟨ho, _⟩
     ·cases ho
     ·cases ho; rfl
    (conv => whnf); repeat ((first | (apply And.intro;· exact Cl4) | apply T1 | apply T2 | apply T3 | apply T4 | apply T6 | apply T5); conv => whnf)
    exact h V0 b2 3 t2 0 [] 0 VO0 (by omega) hz2 (.inr ⟨rfl, i3⟩)
   | cons c r =>
    (conv => whnf); repeat ((first | (apply And.intro;· exact Cl4) | apply T1 | apply T2 | apply T3 | apply T4 | apply T6 | apply T5); conv => whnf)
    rw [show (((bs (c :: r)).length : Int) == 0) = false by simp [bs]; omega]
    (conv => whnf); repeat ((first | (apply And.intro;· exact Cl4) | apply T1 | apply T2 | apply T3 | apply T4 | apply T6 | apply T5); conv => whnf)
    refine some_m z (c :: r) t 5 1 (.inr i5) hz hb (by omega) _ (fun s b2 e2 ho hs t2 hb2 hz2 => ?_)
    obtain ⟨x, rfl⟩ := one_of hs
    have hx := x.toNat_lt
    obtain rfl : 5 = e2 := by
     rw [liftE (is345_ne i5)] at ho
     rcases ho with ⟨ho, _⟩ | ⟨ho, _⟩
     ·cases ho
     ·cases ho; rfl
    (conv => whnf); repeat ((first | (apply And.intro;· exact Cl4) | apply T1 | apply T2 | apply T3 | apply T4 | apply T6 | apply T5); conv => whnf)
    exact h V0 b2 5 t2 0 [] 0 VO0 (by omega) hz2 (.inr ⟨rfl, i5⟩)
  ·have h1 : (e == 0) = false := by simpa using is345_ne he
   have h2 : (e != 0) = true := by simpa using is345_ne he
   (conv => whnf); repeat ((first | (apply And.intro;· exact Cl4) | apply T1 | apply T2 | apply T3 | apply T4 | apply T6 | apply T5); conv => whnf)
   rw [h1]
   (conv => whnf); repeat ((first | (apply And.intro;· exact Cl4) | apply T1 | apply T2 | apply T3 | apply T4 | apply T6 | apply T5); conv => whnf)
   rw [h1]
   (conv => whnf); repeat ((first | (apply And.intro;· exact Cl4) | apply T1 | apply T2 | apply T3 | apply T4 | apply T6 | apply T5); conv => whnf)
   refine some_m z b t e 1 (.inr he) hz hb (by omega) _ (fun s b2 e2 ho hs t2 hb2 hz2 => ?_)
   obtain ⟨x, rfl⟩ := one_of hs
   have hx := x.toNat_lt
   obtain rfl : e = e2 := by
    rw [liftE (is345_ne he)] at ho
    rcases ho with ⟨ho, _⟩ | ⟨ho, _⟩
    ·cases ho
    ·cases ho; rfl
   (conv => whnf); repeat ((first | (apply And.intro;· exact Cl4) | apply T1 | apply T2 | apply T3 | apply T4 | apply T6 | apply T5); conv => whnf)
   rw [h1]
   (conv => whnf); repeat ((first | (apply And.intro;· exact Cl4) | apply T1 | apply T2 | apply T3 | apply T4 | apply T6 | apply T5); conv => whnf)
   rw [h2]
   (conv => whnf); repeat ((first | (apply And.intro;· exact Cl4) | apply T1 | apply T2 | apply T3 | apply T4 | apply T6 | apply T5); conv => whnf)
   exact h V0 b2 e t2 0 [] 0 VO0 (by omega) hz2 (.inr ⟨liftE (is345_ne he) _, he⟩)
 | succ d IH =>
  intro hd b e z t w hw he hz hb Post h
  have IH := IH (by omega)
  have hww : IntKind.i64.wrap (w + 1) = w + 1 := wrap64 (by omega) (by omega)
  have hw8 : decide (8 ≤ w) = false := decide_eq_false (by omega)
  refine is112.specC [166] K_ok K_mix false (by simp) (by simp [keys]) ?_
  rcases he with rfl | he
  ·cases b with
   | nil =>
    (conv => whnf); repeat ((first | (apply And.intro;· exact Cl4) | apply T1 | apply T2 | apply T3 | apply T4 | apply T6 | apply T5); conv => whnf)
    refine some_m z [] t 3 1 (.inr i3) hz hb (by omega) _ (fun s b2 e2 ho hs t2 hb2 hz2 => ?_)
    obtain ⟨x, rfl⟩ := one_of hs
    have hx := x.toNat_lt
    obtain rfl : 3 = e2 := by
     rw [liftE (is345_ne i3)] at ho
     rcases ho with ⟨ho, _⟩ | ⟨ho, _⟩
     ·cases ho
     ·cases ho; rfl
    (conv => whnf); repeat ((first | (apply And.intro;· exact Cl4) | apply T1 | apply T2 | apply T3 | apply T4 | apply T6 | apply T5); conv => whnf)
    exact h V0 b2 3 t2 0 [] 0 VO0 (by omega) hz2 (.inr ⟨rfl, i3⟩)
   | cons c r =>
    have hpc : lift 0 (parseV (d + 1) (c :: r)) = if 6 < c.toNat then .error 4 else bodyP (parseV d) c.toNat r := rfl
    have hb1 : r.length ≤ 1000000000 := by simp at hb; omega
    (conv => whnf); repeat ((first | (apply And.intro;· exact Cl4) | apply T1 | apply T2 | apply T3 | apply T4 | apply T6 | apply T5); conv => whnf)
    rw [show (((bs (c :: r)).length : Int) == 0) = false by simp [bs]; omega]
    (conv => whnf); repeat ((first | (apply And.intro;· exact Cl4) | apply T1 | apply T2 | apply T3 | apply T4 | apply T6 | apply T5); conv => whnf)
    rw [hw8]
    (conv => whnf); repeat ((first | (apply And.intro;· exact Cl4) | apply T1 | apply T2 | apply T3 | apply T4 | apply T6 | apply T5); conv => whnf)
    refine some_m z (c :: r) t 0 1 (.inl rfl) hz hb (by omega) _ (fun s b2 e2 ho hs t2 hb2 hz2 => ?_)
    obtain ⟨rfl, rfl, rfl⟩ : s = [c] ∧ b2 = r ∧ e2 = 0 := by
     rw [lift0, takeP0 (by simp)] at ho
     rcases ho with ⟨ho, h0⟩ | ⟨ho, _⟩
     ·cases ho; exact ⟨rfl, rfl, h0⟩
     ·cases ho
    have hz' : z = 1 := hz.resolve_right (by simp)
    have hc8 := c.toNat_lt
    (conv => whnf); repeat ((first | (apply And.intro;· exact Cl4) | apply T1 | apply T2 | apply T3 | apply T4 | apply T6 | apply T5); conv => whnf)
    rw [wrap64 (n := (c.toNat : Int)) (by omega) (by omega)]
    by_cases hc : 6 < c.toNat
    ·rw [if_pos hc] at hpc
     rw [decide_eq_true (show (6 : Int) < (c.toNat : Int) by omega)]
     (conv => whnf); repeat ((first | (apply And.intro;· exact Cl4) | apply T1 | apply T2 | apply T3 | apply T4 | apply T6 | apply T5); conv => whnf)
     exact h V0 b2 4 t2 0 [] 0 VO0 (by simp) hz2 (.inr ⟨hpc, i4⟩)
    ·rw [if_neg hc] at hpc
     rw [decide_eq_false (show ¬ (6 : Int) < (c.toNat : Int) by omega)]
     rcases kind7' hc with hk | hk | hk | hk | hk | hk | hk
     all_goals (rw [hk] at hpc ⊢)
     ·(conv => whnf); repeat ((first | (apply And.intro;· exact Cl4) | apply T1 | apply T2 | apply T3 | apply T4 | apply T6 | apply T5); conv => whnf)
      exact h V0 b2 0 t2 0 [] 0 VO0 (by simp) hz2 (.inl ⟨hpc, rfl⟩)
     ·(conv => whnf); repeat ((first | (apply And.intro;· exact Cl4) | apply T1 | apply T2 | apply T3 | apply T4 | apply T6 | apply T5); conv => whnf)
      refine some_m z b2 t2 0 8 (.inl rfl) hz2 hb1 (by omega) _ (fun s b3 e3 ho hs t3 hb3 hz3 => ?_)
      (conv => whnf); repeat ((first | (apply And.intro;· exact Cl4) | apply T1 | apply T2 | apply T3 | apply T4 | apply T6 | apply T5); conv => whnf)
      refine ⟨Nat, fun i => ⟨185, [(7, .int .i64 i), (6, .sl 1 (bs s) false true), (5, .ptr 2 0), (4, .ptr 1 0)], [(0, .box [.sl z (bs b3) t3 true, .int .i64 e3]), (1, .box [.int .i64 0, .int .i64 0, .str [], .sl 0 [] true false, .sl 0 [] true false]), (2, .box [.int .i64 1, .int .i64 (n8 (s.take i)), .str [], .sl 0 [] true false, .sl 0 [] true false])], [0]⟩, fun i => i ≤ 8, fun i => 8 - i,
       ⟨[], 0, Nat.zero_le _, ?_⟩, fun i hi => ?_⟩
      ·simp [meets, ghosts, St.le, St.get, look, keys, PV.labs, labsL, lookB, Blk.labs, bs_len, n8]
      ·have hi : i ≤ 8 := hi
       conv => (arg 5; dsimp only)
       (conv => whnf); repeat ((first | (apply And.intro;· exact Cl4) | apply T1 | apply T2 | apply T3 | apply T4 | apply T6 | apply T5); conv => whnf)
       by_cases hix : i < 8
       ·rw [decide_eq_true (show (i : Int) < 8 by omega)]
        have hix' : i < s.length := by omega
        have hsx := s[i].toNat_lt
        have hnth : nth (bs s) ((i : Int)).toNat = .int .u8 (s[i].toNat : Int) := by rw [Int.toNat_natCast, nth_bs hix']
        (conv => whnf); repeat' (first | ((first | (apply And.intro;· exact Cl4) | apply T1 | apply T2 | apply T3 | apply T4 | apply T6 | apply T5); conv => whnf) | (rw [hnth]; conv => whnf) | (refine ⟨fun _ => by decide, ?_⟩; conv => whnf) | ((refine Both.mk ?_ ?_ <;> fail_if_success (intro _)) <;> conv => whnf))
        all_goals (
         rw [wrap64 (n := (i : Int) + 1) (by omega) (by omega)]
         refine ⟨[], i + 1, hix, by show 8 - (i + 1) < 8 - i; omega, ?_⟩
         simp [meets, ghosts, St.le, St.get, look, keys, PV.labs, labsL, lookB, Blk.labs, n8_snoc s i hix']
         rw [show IntKind.i64.wrap (s[i].toNat : Int) = (s[i].toNat : Int) from wrap64 (by omega) (by omega)]
         rfl)
       ·rw [decide_eq_false (show ¬ (i : Int) < 8 by omega)]
        have hix2 : i = s.length := by omega
        (conv => whnf); repeat ((first | (apply And.intro;· exact Cl4) | apply T1 | apply T2 | apply T3 | apply T4 | apply T6 | apply T5); conv => whnf)
        rw [hix2, List.take_length]
        refine h (.mk 1 (n8 s) [] [] []) b3 e3 t3 0 [] 0 ⟨rfl, .inr rfl, .inr rfl, n8_i64 s⟩ (by simp; omega) hz3 (ho.map (fun hp => ?_) (fun e hp => ?_))
        all_goals (
         rw [hpc, bodyP, if_neg (by decide), if_pos rfl]
         rw [lift0] at hp
         rw [hp])
     ·(conv => whnf); repeat ((first | (apply And.intro;· exact Cl4) | apply T1 | apply T2 | apply T3 | apply T4 | apply T6 | apply T5); conv => whnf)
      refine some_m z b2 t2 0 1 (.inl rfl) hz2 hb1 (by omega) _ (fun s b3 e3 ho hs t3 hb3 hz3 => ?_)
      obtain ⟨x, rfl⟩ := one_of hs
      have hx := x.toNat_lt
      (conv => whnf); repeat ((first | (apply And.intro;· exact Cl4) | apply T1 | apply T2 | apply T3 | apply T4 | apply T6 | apply T5); conv => whnf)
      rw [wrap64 (n := (x.toNat : Int)) (by omega) (by omega)]
      have hq : bodyP (parseV d) 2 b2 = match takeP 1 b2 with
       | .error e => .error e
       | .ok (l, r) => if 1 < (l.headD 0).toNat then .error 4 else .ok (.mk 2 (l.headD 0).toNat [] [] [], r) := rfl
      rw [lift0] at ho
      rcases ho with ⟨ho, rfl⟩ | ⟨ho, he3⟩
      ·rw [hq, ho] at hpc
       by_cases h1 : 1 < x.toNat
       ·rw [decide_eq_true (show (1 : Int) < (x.toNat : Int) by omega)]
        (conv => whnf); repeat ((first | (apply And.intro;· exact Cl4) | apply T1 | apply T2 | apply T3 | apply T4 | apply T6 | apply T5); conv => whnf)
        exact h (.mk 2 x.toNat [] [] []) b3 4 t3 0 [] 0 ⟨rfl, .inr rfl, .inr rfl, i64n hx⟩ (by simp; omega) hz3 (.inr ⟨by rw [hpc]; exact if_pos h1, i4⟩)
       ·rw [decide_eq_false (show ¬ (1 : Int) < (x.toNat : Int) by omega)]
        (conv => whnf); repeat ((first | (apply And.intro;· exact Cl4) | apply T1 | apply T2 | apply T3 | apply T4 | apply T6 | apply T5); conv => whnf)
        exact h (.mk 2 x.toNat [] [] []) b3 0 t3 0 [] 0 ⟨rfl, .inr rfl, .inr rfl, i64n hx⟩ (by simp; omega) hz3 (.inl ⟨by rw [hpc]; exact if_neg h1, rfl⟩)
      ·have h1 : (e3 == 0) = false := by simpa using is345_ne he3
       rw [h1]
       (conv => whnf); repeat ((first | (apply And.intro;· exact Cl4) | apply T1 | apply T2 | apply T3 | apply T4 | apply T6 | apply T5); conv => whnf)
       exact h (.mk 2 x.toNat [] [] []) b3 e3 t3 0 [] 0 ⟨rfl, .inr rfl, .inr rfl, i64n hx⟩ (by simp; omega) hz3 (.inr ⟨by rw [hpc, hq, ho], he3⟩)
     ·(conv => whnf); repeat ((first | (apply And.intro;· exact Cl4) | apply T1 | apply T2 | apply T3 | apply T4 | apply T6 | apply T5); conv => whnf)
      refine many_m z b2 t2 0 64 (by omega) (.inl rfl) hz2 hb1 _ (fun n b3 e3 ho hn t3 hne hb3 hz3 => ?_)
      (conv => whnf); repeat ((first | (apply And.intro;· exact Cl4) | apply T1 | apply T2 | apply T3 | apply T4 | apply T6 | apply T5); conv => whnf)
      refine some_m z b3 t3 e3 n ho.e hz3 (by omega) (by omega) _ (fun s b4 e4 ho4 hs t4 hb4 hz4 => ?_)
      (conv => whnf); repeat ((first | (apply And.intro;· exact Cl4) | apply T1 | apply T2 | apply T3 | apply T4 | apply T6 | apply T5); conv => whnf)
      refine ⟨bs_int _, ?_⟩
      (conv => whnf); repeat ((first | (apply And.intro;· exact Cl4) | apply T1 | apply T2 | apply T3 | apply T4 | apply T6 | apply T5); conv => whnf)
      rw [str_bs]
      refine h (.mk 3 0 s [] []) b4 e4 t4 0 [] 0 ⟨rfl, .inr rfl, .inr rfl, ⟨by show (-9223372036854775808 : Int) ≤ 0; omega, by show (0 : Int) ≤ _; omega⟩⟩ (by simp; omega) hz4 ?_
      have hq : bodyP (parseV d) 3 b2 = match textP 64 b2 with
       | .error e => .error e
       | .ok (s, r) => .ok (.mk 3 0 s [] [], r) := rfl
      rw [hpc, hq, textP]
      rw [lift0] at ho
      rcases ho with ⟨ho, rfl⟩ | ⟨ho, he3⟩
      ·rw [ho]
       simp only
       rw [lift0] at ho4
       exact ho4.map (fun h => by rw [h]) (fun e h => by rw [h])
      ·rw [ho]
       rw [liftE (is345_ne he3)] at ho4
       exact ho4.map (fun h => by cases h) (fun e h => by cases h; rfl)
     ·(conv => whnf); repeat ((first | (apply And.intro;· exact Cl4) | apply T1 | apply T2 | apply T3 | apply T4 | apply T6 | apply T5); conv => whnf)
      refine many_m z b2 t2 0 32 (by omega) (.inl rfl) hz2 hb1 _ (fun n b3 e3 ho hn t3 hne hb3 hz3 => ?_)
      (conv => whnf); repeat ((first | (apply And.intro;· exact Cl4) | apply T1 | apply T2 | apply T3 | apply T4 | apply T6 | apply T5); conv => whnf)
      refine ⟨Nat × List V × List PV × List UInt8 × Bool × Int, fun x => ⟨185, [(10, .int .i64 x.1), (9, .int .i64 n), (5, .ptr 2 0), (4, .ptr 1 0), (1, .int .i64 w), (0, .ptr 0 0)],
        [(0, .box [.sl z (bs x.2.2.2.1) x.2.2.2.2.1 true, .int .i64 x.2.2.2.2.2]), (1, .box [.int .i64 0, .int .i64 0, .str [], .sl 0 [] true false, .sl 0 [] true false]), (2, .box [.int .i64 4, .int .i64 0, .str [], .ref 5 3 0 x.1, .sl 0 [] true false]), (3, .row 58 5 x.2.2.1 true)], [0]⟩,
       fun x => x.1 ≤ n ∧ VPs x.2.1 x.2.2.1 ∧ x.2.1.length = x.1 ∧ lift e3 (listP (parseV d) n b3) = preL x.2.1 (lift x.2.2.2.2.2 (listP (parseV d) (n - x.1) x.2.2.2.1)) ∧ (z = 1 ∨ x.2.2.2.1 = []) ∧ x.2.2.2.1.length ≤ b3.length ∧ (x.2.2.2.2.2 = 0 ∨ is345 x.2.2.2.2.2), fun x => n - x.1,
       ⟨[.cell 2 3 58, .age 3], (0, [], [], b3, t3, e3), ⟨Nat.zero_le _, rfl, rfl, by rw [preL_nil]; rfl, hz3, Nat.le_refl _, ho.e⟩, ?_⟩, fun x hI => ?_⟩
      ·simp [meets, ghosts, ghost, St.le, St.get, St.put, look, keys, PV.labs, labsL, lookB, Blk.labs, fresh, nth, updB]
       rfl
      ·obtain ⟨i, l, lp, b4, t4, e4⟩ := x
       obtain ⟨hi, hvp, hll, hpre, hz4, hb4, he4⟩ := hI
       simp only at hi hvp hll hpre hz4 hb4 he4
       have hend : i = n ∨ e4 ≠ 0 → Out (lift e3 (listP (parseV d) n b3)) l b4 e4 := fun hh => by
        rcases hh with hh | hh
        ·subst hh
         rw [Nat.sub_self] at hpre
         exact list_end he4 hpre
        ·rw [liftE hh] at hpre
         exact .inr ⟨hpre, he4.resolve_left hh⟩
       by_cases hgo : i < n ∧ e4 = 0
       ·obtain ⟨hix, rfl⟩ := hgo
        have hd1 : decide ((i : Int) < (n : Int)) = true := decide_eq_true (by omega)
        conv => (arg 5; dsimp only)
        (conv => whnf); repeat ((first | (apply And.intro;· exact Cl4) | apply T1 | apply T2 | apply T3 | apply T4 | apply T6 | apply T5); conv => whnf)
        rw [hd1]
        (conv => whnf); repeat ((first | (apply And.intro;· exact Cl4) | apply T1 | apply T2 | apply T3 | apply T4 | apply T6 | apply T5); conv => whnf)
        ((conv => whnf); repeat' (first | ((first | (apply And.intro;· exact Cl4) | apply T1 | apply T2 | apply T3 | apply T4 | apply T6 | apply T5); conv => whnf) | ((rw [hww]; refine IH b4 0 z t4 (w + 1) (by omega) (.inl rfl) hz4 (by omega) _ (fun v b5 e5 t5 z1 lp5 zz2 hv hb5 hz5 ho5 => ?_)); conv => whnf) | (refine ⟨by show (i + 1) * 81 ≤ 70368744177664; omega, ?_⟩; conv => whnf) | ((refine Both.mk ?_ ?_ <;> fail_if_success (intro _)) <;> conv => whnf)))
        all_goals (
         refine ⟨[], (i + 1, l ++ [v], lp ++ [.agg (vc v z1 lp5 false zz2 false)], b5, t5, e5), ⟨hix, VPs_snoc hvp (hv.vp _ _), by simp [hll], ?_, hz5, by show b5.length ≤ _; omega, ho5.e⟩, by show n - (i + 1) < n - i; omega, ?_⟩
         ·rw [hpre, show n - i = (n - (i + 1)) + 1 by omega]
          exact list_step ho5
         ·rw [wrap64 (n := (i : Int) + 1) (by omega) (by omega)]
          have hlt : List.take i lp = lp := List.take_of_length_le (by rw [VPs_len hvp]; omega)
          simp [meets, ghosts, St.le, St.get, look, keys, PV.labs, labsL, lookB, Blk.labs, hlt, vc])
       ·have hor : i = n ∨ e4 ≠ 0 := by
         by_cases h0 : e4 = 0
         ·exact .inl (by have := fun h => hgo ⟨h, h0⟩; omega)
         ·exact .inr h0
        have hout := hend hor
        have hcd : (bif decide ((i : Int) < (n : Int)) then e4 == 0 else false) = false := by
         rcases hor with rfl | h0
         ·rw [decide_eq_false (by omega)]; rfl
         ·rw [show (e4 == 0) = false by simpa using h0]; cases decide ((i : Int) < (n : Int)) <;> rfl
        have hlt : List.take i (List.drop 0 lp) = lp := by rw [List.drop_zero, List.take_of_length_le (by rw [VPs_len hvp]; omega)]
        (
         conv => (arg 5; dsimp only)
         (conv => whnf); repeat ((first | (apply And.intro;· exact Cl4) | apply T1 | apply T2 | apply T3 | apply T4 | apply T6 | apply T5); conv => whnf)
         rw [hcd]
         (conv => whnf); repeat ((first | (apply And.intro;· exact Cl4) | apply T1 | apply T2 | apply T3 | apply T4 | apply T6 | apply T5); conv => whnf)
         rw [hlt]
         refine h (.mk 4 0 [] l []) b4 e4 t4 5 lp 0 ⟨hvp, .inl rfl, .inr rfl, ⟨by show (-9223372036854775808 : Int) ≤ 0; omega, by show (0 : Int) ≤ _; omega⟩⟩ (by simp; omega) hz4 ?_
         have hq : bodyP (parseV d) 4 b2 = match cntP 32 b2 with
          | .error e => .error e
          | .ok (n, r) => match listP (parseV d) n r with
           | .error e => .error e
           | .ok (l, r) => .ok (.mk 4 0 [] l [], r) := rfl
         rw [hpc, hq]
         rw [lift0] at ho
         rcases ho with ⟨ho, rfl⟩ | ⟨ho, ho2⟩
         ·rw [ho]
          simp only
          rw [lift0] at hout
          exact hout.map (fun h => by rw [h]) (fun e h => by rw [h])
         ·rw [ho]
          rw [liftE (is345_ne ho2)] at hout
          exact hout.map (fun h => by cases h) (fun e h => by cases h; rfl))
     ·(conv => whnf); repeat ((first | (apply And.intro;· exact Cl4) | apply T1 | apply T2 | apply T3 | apply T4 | apply T6 | apply T5); conv => whnf)
      refine many_m z b2 t2 0 8 (by omega) (.inl rfl) hz2 hb1 _ (fun n b3 e3 ho hn t3 hne hb3 hz3 => ?_)
      (conv => whnf); repeat ((first | (apply And.intro;· exact Cl4) | apply T1 | apply T2 | apply T3 | apply T4 | apply T6 | apply T5); conv => whnf)
      refine ⟨Nat × List (List UInt8) × List V × List PV × List UInt8 × Bool × Int, fun x => ⟨185, [(12, .int .i64 x.1), (11, .int .i64 n), (5, .ptr 2 0), (4, .ptr 1 0), (1, .int .i64 w), (0, .ptr 0 0)],
        [(0, .box [.sl z (bs x.2.2.2.2.1) x.2.2.2.2.2.1 true, .int .i64 x.2.2.2.2.2.2]), (1, .box [.int .i64 0, .int .i64 0, .str [], .sl 0 [] true false, .sl 0 [] true false]), (2, .box [.int .i64 5, .int .i64 0, .str [], .ref 5 4 0 x.1, .ref 1 3 0 x.1]), (3, .row 9 1 (strs x.2.1) false), (4, .row 58 5 x.2.2.2.1 true)], [0]⟩,
       fun x => x.1 ≤ n ∧ VPs x.2.2.1 x.2.2.2.1 ∧ x.2.2.1.length = x.1 ∧ x.2.1.length = x.1 ∧ lift e3 (recP (parseV d) n b3) = preR x.2.1 x.2.2.1 (lift x.2.2.2.2.2.2 (recP (parseV d) (n - x.1) x.2.2.2.2.1)) ∧ (z = 1 ∨ x.2.2.2.2.1 = []) ∧ x.2.2.2.2.1.length ≤ b3.length ∧ (x.2.2.2.2.2.2 = 0 ∨ is345 x.2.2.2.2.2.2), fun x => n - x.1,
       ⟨[.cell 2 4 9, .cell 2 3 58, .age 4], (0, [], [], [], b3, t3, e3), ⟨Nat.zero_le _, rfl, rfl, rfl, by rw [preR_nil]; rfl, hz3, Nat.le_refl _, ho.e⟩, ?_⟩, fun x hI => ?_⟩
      ·simp [meets, ghosts, ghost, St.le, St.get, St.put, look, keys, PV.labs, labsL, lookB, Blk.labs, fresh, nth, updB, strs]
       repeat' apply And.intro
       all_goals rfl
      ·obtain ⟨i, ns, l, lp, b4, t4, e4⟩ := x
       obtain ⟨hi, hvp, hll, hnl, hpre, hz4, hb4, he4⟩ := hI
       simp only at hi hvp hll hnl hpre hz4 hb4 he4
       have hend : i = n ∨ e4 ≠ 0 → Out (lift e3 (recP (parseV d) n b3)) (ns, l) b4 e4 := fun hh => by
        rcases hh with hh | hh
        ·subst hh
         rw [Nat.sub_self] at hpre
         exact rec_end he4 hpre
        ·rw [liftE hh] at hpre
         exact .inr ⟨hpre, he4.resolve_left hh⟩
       have hns : (strs ns).length = i := by rw [strs_len]; exact hnl
       by_cases hgo : i < n ∧ e4 = 0
       ·obtain ⟨hix, rfl⟩ := hgo
        have hd1 : decide ((i : Int) < (n : Int)) = true := decide_eq_true (by omega)
        conv => (arg 5; dsimp only)
        (conv => whnf); repeat ((first | (apply And.intro;· exact Cl4) | apply T1 | apply T2 | apply T3 | apply T4 | apply T6 | apply T5); conv => whnf)
        rw [hd1]
        (conv => whnf); repeat ((first | (apply And.intro;· exact Cl4) | apply T1 | apply T2 | apply T3 | apply T4 | apply T6 | apply T5); conv => whnf)
        refine many_m z b4 t4 0 16 (by omega) (.inl rfl) hz4 (by omega) _ (fun k b5 e5 ho5 hk t5 hne5 hb5 hz5 => ?_)
        (conv => whnf); repeat ((first | (apply And.intro;· exact Cl4) | apply T1 | apply T2 | apply T3 | apply T4 | apply T6 | apply T5); conv => whnf)
        refine ⟨List UInt8 × List UInt8 × Bool × Int, fun y => ⟨185, [(12, .int .i64 i), (11, .int .i64 n), (5, .ptr 2 0), (4, .ptr 1 0), (1, .int .i64 w), (0, .ptr 0 0)],
         [(0, .box [.sl z (bs y.2.1) y.2.2.1 true, .int .i64 y.2.2.2]), (1, .box [.int .i64 0, .int .i64 0, .str [], .sl 0 [] true false, .sl 0 [] true false]), (2, .box [.int .i64 5, .int .i64 0, .str [], .ref 5 4 0 i, .ref 1 3 0 (i + 1)]), (3, .row 9 1 (strs (ns ++ [y.1])) false), (4, .row 58 5 lp true)], [0]⟩,
         fun y => Out (lift 0 (textP 16 b4)) y.1 y.2.1 y.2.2.2 ∧ y.2.1.length ≤ b4.length ∧ (z = 1 ∨ y.2.1 = []), ?_, fun y hy => ?_⟩
        ·(conv => whnf); repeat' (first | ((first | (apply And.intro;· exact Cl4) | apply T1 | apply T2 | apply T3 | apply T4 | apply T6 | apply T5); conv => whnf) | (refine some_m z b5 t5 e5 k ho5.e hz5 (by omega) (by omega) _ (fun s b6 e6 ho6 hs6 t6 hb6 hz6 => ?_); conv => whnf) | (refine ⟨bs_int _, ?_⟩; conv => whnf) | (refine ⟨by show (i + 1) * 17 ≤ 70368744177664; omega, ?_⟩; conv => whnf) | ((refine Both.mk ?_ ?_ <;> fail_if_success (intro _)) <;> conv => whnf))
         all_goals (
          refine ⟨[], (s, b6, t6, e6), ⟨text_of ho5 ho6, by show b6.length ≤ _; omega, hz6⟩, ?_⟩
          have hlt2 : List.take i (List.map PV.str ns) = List.map PV.str ns := List.take_of_length_le (by simp; omega)
          simp [meets, ghosts, St.le, St.get, look, keys, PV.labs, labsL, lookB, Blk.labs, hlt2, vc, strs, str_bs])
        obtain ⟨s, b6, t6, e6⟩ := y
        obtain ⟨ho6, hb6, hz6⟩ := hy
        simp only at ho6 hb6 hz6
        have hnsl : (strs (ns ++ [s])).length = i + 1 := by rw [strs_len]; simp; omega
        conv => (arg 4; dsimp only)
        ((conv => whnf); repeat' (first | ((first | (apply And.intro;· exact Cl4) | apply T1 | apply T2 | apply T3 | apply T4 | apply T6 | apply T5); conv => whnf) | ((rw [hww]; refine IH b6 e6 z t6 (w + 1) (by omega) ho6.e hz6 (by omega) _ (fun v b7 e7 t7 z1 lp5 zz2 hv hb7 hz7 ho7 => ?_)); conv => whnf) | (refine ⟨by show (i + 1) * 81 ≤ 70368744177664; omega, ?_⟩; conv => whnf) | ((refine Both.mk ?_ ?_ <;> fail_if_success (intro _)) <;> conv => whnf)))
        all_goals (
         refine ⟨[], (i + 1, ns ++ [s], l ++ [v], lp ++ [.agg (vc v z1 lp5 false zz2 false)], b7, t7, e7), ⟨hix, VPs_snoc hvp (hv.vp _ _), by simp [hll], by simp [hnl], ?_, by assumption, by show b7.length ≤ _; omega, ho7.e⟩, by show n - (i + 1) < n - i; omega, ?_⟩
         ·rw [hpre, show n - i = (n - (i + 1)) + 1 by omega]
          exact rec_stepV ho6 ho7
         ·rw [wrap64 (n := (i : Int) + 1) (by omega) (by omega)]
          have hlt : List.take i lp = lp := List.take_of_length_le (by rw [VPs_len hvp]; omega)
          simp [meets, ghosts, St.le, St.get, look, keys, PV.labs, labsL, lookB, Blk.labs, hlt, vc, strs, str_bs])
       ·have hor : i = n ∨ e4 ≠ 0 := by
         by_cases h0 : e4 = 0
         ·exact .inl (by have := fun h => hgo ⟨h, h0⟩; omega)
         ·exact .inr h0
        have hout := hend hor
        have hcd : (bif decide ((i : Int) < (n : Int)) then e4 == 0 else false) = false := by
         rcases hor with rfl | h0
         ·rw [decide_eq_false (by omega)]; rfl
         ·rw [show (e4 == 0) = false by simpa using h0]; cases decide ((i : Int) < (n : Int)) <;> rfl
        have hlt : List.take i (List.drop 0 lp) = lp := by rw [List.drop_zero, List.take_of_length_le (by rw [VPs_len hvp]; omega)]
        have hlt2 : List.take i (List.drop 0 (strs ns)) = strs ns := by rw [List.drop_zero, List.take_of_length_le (by omega)]
        (
         conv => (arg 5; dsimp only)
         (conv => whnf); repeat ((first | (apply And.intro;· exact Cl4) | apply T1 | apply T2 | apply T3 | apply T4 | apply T6 | apply T5); conv => whnf)
         rw [hcd]
         (conv => whnf); repeat ((first | (apply And.intro;· exact Cl4) | apply T1 | apply T2 | apply T3 | apply T4 | apply T6 | apply T5); conv => whnf)
         rw [hlt, hlt2]
         refine h (.mk 5 0 [] l ns) b4 e4 t4 5 lp 1 ⟨hvp, .inl rfl, .inl rfl, ⟨by show (-9223372036854775808 : Int) ≤ 0; omega, by show (0 : Int) ≤ _; omega⟩⟩ (by simp; omega) hz4 ?_
         have hq : bodyP (parseV d) 5 b2 = match cntP 8 b2 with
          | .error e => .error e
          | .ok (n, r) => match recP (parseV d) n r with
           | .error e => .error e
           | .ok ((ns, l), r) => .ok (.mk 5 0 [] l ns, r) := rfl
         rw [hpc, hq]
         rw [lift0] at ho
         rcases ho with ⟨ho, rfl⟩ | ⟨ho, ho2⟩
         ·rw [ho]
          simp only
          rw [lift0] at hout
          exact hout.map (fun h => by rw [h]) (fun e h => by rw [h])
         ·rw [ho]
          rw [liftE (is345_ne ho2)] at hout
          exact hout.map (fun h => by cases h) (fun e h => by cases h; rfl))
     ·(conv => whnf); repeat ((first | (apply And.intro;· exact Cl4) | apply T1 | apply T2 | apply T3 | apply T4 | apply T6 | apply T5); conv => whnf)
      refine some_m z b2 t2 0 1 (.inl rfl) hz2 hb1 (by omega) _ (fun s b3 e3 ho hs t3 hb3 hz3 => ?_)
      obtain ⟨x, rfl⟩ := one_of hs
      have hx := x.toNat_lt
      (conv => whnf); repeat ((first | (apply And.intro;· exact Cl4) | apply T1 | apply T2 | apply T3 | apply T4 | apply T6 | apply T5); conv => whnf)
      rw [wrap64 (n := (x.toNat : Int)) (by omega) (by omega)]
      have hq : bodyP (parseV d) 6 b2 = match takeP 1 b2 with
       | .error e => .error e
       | .ok (l, r) => .ok (.mk 6 (l.headD 0).toNat [] [] [], r) := rfl
      rw [lift0] at ho
      rcases ho with ⟨ho, rfl⟩ | ⟨ho, he3⟩
      ·(conv => whnf); repeat ((first | (apply And.intro;· exact Cl4) | apply T1 | apply T2 | apply T3 | apply T4 | apply T6 | apply T5); conv => whnf)
       exact h (.mk 6 x.toNat [] [] []) b3 0 t3 0 [] 0 ⟨rfl, .inr rfl, .inr rfl, i64n hx⟩ (by simp; omega) hz3 (.inl ⟨by rw [hpc, hq, ho]; rfl, rfl⟩)
      ·have h1 : (e3 == 0) = false := by simpa using is345_ne he3
       rw [h1]
       (conv => whnf); repeat ((first | (apply And.intro;· exact Cl4) | apply T1 | apply T2 | apply T3 | apply T4 | apply T6 | apply T5); conv => whnf)
       exact h (.mk 6 x.toNat [] [] []) b3 e3 t3 0 [] 0 ⟨rfl, .inr rfl, .inr rfl, i64n hx⟩ (by simp; omega) hz3 (.inr ⟨by rw [hpc, hq, ho], he3⟩)
  ·have h1 : (e == 0) = false := by simpa using is345_ne he
   have h2 : (e != 0) = true := by simpa using is345_ne he
   (conv => whnf); repeat ((first | (apply And.intro;· exact Cl4) | apply T1 | apply T2 | apply T3 | apply T4 | apply T6 | apply T5); conv => whnf)
   rw [h1]
   (conv => whnf); repeat ((first | (apply And.intro;· exact Cl4) | apply T1 | apply T2 | apply T3 | apply T4 | apply T6 | apply T5); conv => whnf)
   rw [h1]
   (conv => whnf); repeat ((first | (apply And.intro;· exact Cl4) | apply T1 | apply T2 | apply T3 | apply T4 | apply T6 | apply T5); conv => whnf)
   refine some_m z b t e 1 (.inr he) hz hb (by omega) _ (fun s b2 e2 ho hs t2 hb2 hz2 => ?_)
   obtain ⟨x, rfl⟩ := one_of hs
   have hx := x.toNat_lt
   obtain rfl : e = e2 := by
    rw [liftE (is345_ne he)] at ho
    rcases ho with ⟨ho, _⟩ | ⟨ho, _⟩
    ·cases ho
    ·cases ho; rfl
   (conv => whnf); repeat ((first | (apply And.intro;· exact Cl4) | apply T1 | apply T2 | apply T3 | apply T4 | apply T6 | apply T5); conv => whnf)
   rw [h1]
   (conv => whnf); repeat ((first | (apply And.intro;· exact Cl4) | apply T1 | apply T2 | apply T3 | apply T4 | apply T6 | apply T5); conv => whnf)
   rw [h2]
   (conv => whnf); repeat ((first | (apply And.intro;· exact Cl4) | apply T1 | apply T2 | apply T3 | apply T4 | apply T6 | apply T5); conv => whnf)
   exact h V0 b2 e t2 0 [] 0 VO0 (by omega) hz2 (.inr ⟨liftE (is345_ne he) _, he⟩)
end Go.Vc
