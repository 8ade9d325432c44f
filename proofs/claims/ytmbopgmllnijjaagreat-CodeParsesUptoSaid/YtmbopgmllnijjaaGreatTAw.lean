/- What is proved here: contracts of functions of the program: of each function what it hands back and what it leaves in memory. Conditions: those that each theorem names. -/
import Derived.Test.YtmbopgmllnijjaaGreatTAv
import Derived.Test.YtmbopgmllnijjaaGreatTAu
set_option linter.unusedVariables false
set_option linter.unusedSimpArgs false
set_option linter.unusedSectionVars false
namespace Go.Vc
open Go Go.Proofs
set_option maxRecDepth 100000
theorem sclone_spec (a : List UInt8) (z : Nat) (t : Bool) (ha : a.length ≤ 1000000000) (Post : PV → List (Nat × Blk) → Prop) (h : ∀ z, (z = 1 ∨ a = []) → Post (.sl z (bs a) false true) []) : Spec K 111 [.sl z (bs a) t true] [] Post := by
 refine is111.specW K_ok K_mix false (by simp) (by simp [keys]) ?_
 (conv => whnf); repeat ((apply And.intro;· exact Cl1); conv => whnf)
 intro bb hb
 (conv => whnf); repeat ((apply And.intro;· exact Cl1); conv => whnf)
 refine ⟨fun hc => ?_, fun hc => ?_⟩
 ·have := isnil hb hc
  subst this
  (conv => whnf); repeat ((apply And.intro;· exact Cl1); conv => whnf)
  exact h _ (.inr rfl)
 ·(conv => whnf); repeat ((apply And.intro;· exact Cl1); conv => whnf)
  refine ⟨by rw [bs_len]; show (0 + a.length) * 2 ≤ _; omega, ?_⟩
  (conv => whnf); repeat ((apply And.intro;· exact Cl1); conv => whnf)
  rw [show List.take (0 + (bs a).length) (List.drop 0 (List.take 0 [] ++ bs a)) = bs a by simp]
  exact h 1 (.inl rfl)
theorem copyB_spec (a : List UInt8) (z : Nat) (t : Bool) (ha : a.length ≤ 1000000000) (Post : PV → List (Nat × Blk) → Prop) (h : Post (.sl 1 (bs a) false true) []) : Spec K 22 [.sl z (bs a) t true] [] Post := by
 refine is22.specW K_ok K_mix false (by simp) (by simp [keys]) ?_
 (conv => whnf); repeat ((apply And.intro;· exact Cl1); conv => whnf)
 refine ⟨by rw [bs_len]; show a.length * 2 ≤ _; omega, ?_⟩
 (conv => whnf); repeat ((apply And.intro;· exact Cl1); conv => whnf)
 rw [List.drop_zero, List.take_length]
 exact h
def takeV (b : List UInt8) : Except Int (V × List UInt8) :=
 match parseV 8 b with
 | .error e => .error e
 | .ok (v, r) => if mayV v then .ok (v, r) else .error 2
def OutZ {α : Type} (zero : α) (p : Except Int (α × List UInt8)) (a : α) (b : List UInt8) (e : Int) : Prop := p = .ok (a, b) ∧ e = 0 ∨ p = .error e ∧ e ≠ 0 ∧ a = zero ∧ b = []
theorem VO.va {v : V} {z1 : Nat} {lp : List PV} {z2 : Nat} (h : VO v z1 lp z2) (hb : bulkV v ≤ 100000000000) : VA v z1 lp z2 := ⟨h.l, h.z1, h.z2, h.n, hb⟩
set_option maxHeartbeats 4000000 in
theorem takeV_p (b : List UInt8) (z : Nat) (t : Bool) (hz : z = 1 ∨ b = []) (hb : b.length ≤ 1000000000) (Post : PV → List (Nat × Blk) → Prop)
  (h : ∀ v r e z1 lp z2 z, VO v z1 lp z2 → (z = 1 ∨ r = []) → OutZ V0 (takeV b) v r e → Post (.tup [.agg (vcN v z1 lp z2), .sl z (bs r) false true, .int .i64 e]) []) : Spec K 83 [.sl z (bs b) t true] [] Post := by
 refine is83.specM K_ok K_mix false (by simp) (by simp [keys]) ?_
 (conv => whnf); repeat ((first | (apply And.intro;· exact Cl3) | apply T1 | apply T2 | apply T3 | apply T4 | apply T6 | apply T5); conv => whnf)
 refine value_tape 8 (by omega) b z t 0 rfl hz hb _ (fun v b' e' t' z1 lp z2 hv hb' hz' ho => ?_)
 (conv => whnf); repeat ((first | (apply And.intro;· exact Cl3) | apply T1 | apply T2 | apply T3 | apply T4 | apply T6 | apply T5); conv => whnf)
 rcases ho with ⟨ho, rfl⟩ | ⟨ho, he⟩
 ·(conv => whnf); repeat ((first | (apply And.intro;· exact Cl3) | apply T1 | apply T2 | apply T3 | apply T4 | apply T6 | apply T5); conv => whnf)
  have hbk := parse_bulk _ _ _ _ ho
  refine check_spec v z1 z2 lp _ _ _ (hv.va (by omega)) ?_
  cases hm : mayV v
  ·(conv => whnf); repeat ((first | (apply And.intro;· exact Cl3) | apply T1 | apply T2 | apply T3 | apply T4 | apply T6 | apply T5); conv => whnf)
   (conv => whnf); repeat' (first | ((first | (apply And.intro;· exact Cl3) | apply T1 | apply T2 | apply T3 | apply T4 | apply T6 | apply T5); conv => whnf) | (fail; conv => whnf) | ((refine Both.mk ?_ ?_ <;> fail_if_success (intro _)) <;> conv => whnf))
   all_goals exact h V0 [] 2 0 [] 0 _ VO0 (.inr rfl) (.inr ⟨by rw [takeV, ho]; simp [hm], by decide, rfl, rfl⟩)
  ·(conv => whnf); repeat ((first | (apply And.intro;· exact Cl3) | apply T1 | apply T2 | apply T3 | apply T4 | apply T6 | apply T5); conv => whnf)
   (conv => whnf); repeat' (first | ((first | (apply And.intro;· exact Cl3) | apply T1 | apply T2 | apply T3 | apply T4 | apply T6 | apply T5); conv => whnf) | (refine sclone_spec b' z t' (by omega) _ (fun z3 hz3 => ?_); conv => whnf) | ((refine Both.mk ?_ ?_ <;> fail_if_success (intro _)) <;> conv => whnf))
   all_goals exact h v b' 0 z1 lp z2 z3 hv hz3 (.inl ⟨by rw [takeV, ho]; simp [hm], rfl⟩)
 ·have h1 : (e' == 0) = false := by simpa using is345_ne he
  have h2 : (e' != 0) = true := by simpa using is345_ne he
  rw [h1]
  (conv => whnf); repeat ((first | (apply And.intro;· exact Cl3) | apply T1 | apply T2 | apply T3 | apply T4 | apply T6 | apply T5); conv => whnf)
  rw [h2]
  (conv => whnf); repeat ((first | (apply And.intro;· exact Cl3) | apply T1 | apply T2 | apply T3 | apply T4 | apply T6 | apply T5); conv => whnf)
  (conv => whnf); repeat' (first | ((first | (apply And.intro;· exact Cl3) | apply T1 | apply T2 | apply T3 | apply T4 | apply T6 | apply T5); conv => whnf) | (fail; conv => whnf) | ((refine Both.mk ?_ ?_ <;> fail_if_success (intro _)) <;> conv => whnf))
  all_goals exact h V0 [] e' 0 [] 0 _ VO0 (.inr rfl) (.inr ⟨by rw [takeV, ho], is345_ne he, rfl, rfl⟩)
end Go.Vc
namespace Go.Vc
open Go Go.Proofs
set_option maxRecDepth 100000
theorem takeP0 {n : Nat} {b : List UInt8} (h : ¬ b.length < n) : takeP n b = .ok (b.take n, b.drop n) := if_neg h
theorem takeP3 {n : Nat} {b : List UInt8} (h : b.length < n) : takeP n b = .error 3 := if_pos h
theorem rep0_bs (n : Nat) : List.replicate n (PV.int .u8 0) = bs (List.replicate n 0) := by simp [bs]
theorem zer_bs (n : Nat) : List.take ((n : Int)).toNat (List.drop 0 (List.replicate ((n : Int)).toNat (zeroElem K 5))) = bs (List.replicate n 0) := by
 rw [List.drop_zero, Int.toNat_natCast, List.take_of_length_le (by simp), ← rep0_bs]
 rfl
set_option maxHeartbeats 4000000 in
theorem some_m (z : Nat) (b : List UInt8) (t : Bool) (e : Int) (n : Nat) (he : e = 0 ∨ is345 e) (hz : z = 1 ∨ b = []) (hb : b.length ≤ 1000000000) (hn : n ≤ 1000) (Post : PV → List (Nat × Blk) → Prop)
  (h : ∀ s b' e', Out (lift e (takeP n b)) s b' e' → s.length = n → ∀ t', b'.length ≤ b.length → (z = 1 ∨ b' = []) → Post (.sl 1 (bs s) false true) (tp z b' t' e')) : Spec K 131 [.ptr 0 0, .int .i64 n] (tp z b t e) Post := by
 have hz2 : z = 1 ∨ bs b = [] := hz.imp id fun h => by rw [h]; rfl
 refine is131.specW K_ok K_mix false (by simp) (by simp [keys]) ?_
 rcases he with rfl | he
 ·(conv => whnf); repeat ((first | (apply And.intro;· exact Cl3) | apply T1 | apply T2 | apply T3 | apply T4 | apply T6 | apply T5); conv => whnf)
  rw [bs_len]
  by_cases hl : b.length < n
  ·rw [decide_eq_true (show (b.length : Int) < (n : Int) by omega)]
   (conv => whnf); repeat ((first | (apply And.intro;· exact Cl3) | apply T1 | apply T2 | apply T3 | apply T4 | apply T6 | apply T5); conv => whnf)
   have hby : (K.bytes 5 : Int) * (n : Int) ≤ 281474976710656 := by show (1 : Int) * n ≤ _; omega
   (conv => whnf); repeat ((first | (apply And.intro;· exact Cl4) | apply T1 | apply T2 | apply T3 | apply T4 | apply T6 | apply T5); conv => whnf)
   rw [zer_bs]
   exact h _ b 3 (.inr ⟨by rw [lift0, takeP3 hl], .inl rfl⟩) (by simp) t (Nat.le_refl _) hz
  ·rw [decide_eq_false (show ¬ (b.length : Int) < (n : Int) by omega)]
   have hb1 : True → (0 : Int) ≤ (n : Int) ∧ (n : Int) ≤ ((bs b).length : Int) := fun _ => ⟨by omega, by rw [bs_len]; omega⟩
   (conv => whnf); repeat ((first | (apply And.intro;· exact Cl3) | apply T1 | apply T2 | apply T3 | apply T4 | apply T6 | apply T5); conv => whnf)
   rw [Int.toNat_natCast, List.drop_zero, bs_take]
   refine copyB_spec (b.take n) z _ (by simp; omega) _ ?_
   (conv => whnf); repeat ((first | (apply And.intro;· exact Cl4) | apply T1 | apply T2 | apply T3 | apply T4 | apply T6 | apply T5); conv => whnf)
   rw [Int.toNat_natCast, List.take_length, bs_drop]
   exact h (b.take n) (b.drop n) 0 (.inl ⟨by rw [lift0, takeP0 hl], rfl⟩) (by rw [List.length_take]; omega) _ (by simp) (hz.imp id fun h => by rw [h]; simp)
 ·have h1 : (e == 0) = false := by simpa using is345_ne he
  have h2 : (e != 0) = true := by simpa using is345_ne he
  have hby : (K.bytes 5 : Int) * (n : Int) ≤ 281474976710656 := by show (1 : Int) * n ≤ _; omega
  (conv => whnf); repeat ((first | (apply And.intro;· exact Cl3) | apply T1 | apply T2 | apply T3 | apply T4 | apply T6 | apply T5); conv => whnf)
  rw [h1]
  (conv => whnf); repeat ((first | (apply And.intro;· exact Cl4) | apply T1 | apply T2 | apply T3 | apply T4 | apply T6 | apply T5); conv => whnf)
  rw [h2]
  (conv => whnf); repeat ((first | (apply And.intro;· exact Cl4) | apply T1 | apply T2 | apply T3 | apply T4 | apply T6 | apply T5); conv => whnf)
  rw [zer_bs]
  exact h _ b e (.inr ⟨liftE (is345_ne he) _, he⟩) (by simp) t (Nat.le_refl _) hz
theorem one_of {s : List UInt8} (h : s.length = 1) : ∃ x, s = [x] := by
 match s, h with
 | [x], _ => exact ⟨x, rfl⟩
theorem takeP1 {b s r : List UInt8} (h : takeP 1 b = .ok (s, r)) : ∃ x, s = [x] ∧ b = x :: r := by
 obtain ⟨h1, h2⟩ := takeP_ok h
 obtain ⟨x, rfl⟩ := one_of h2
 exact ⟨x, rfl, h1⟩
theorem cnt_of {most : Nat} {x : UInt8} {r : List UInt8} : cntP most (x :: r) = if most < x.toNat then .error 5 else .ok (x.toNat, r) := rfl
theorem cnt_of3 {most : Nat} {b : List UInt8} {e : Int} (h : takeP 1 b = .error e) : cntP most b = .error e := by
 cases b with
 | nil => cases h; rfl
 | cons c r => rw [takeP0 (by simp)] at h; cases h
set_option maxHeartbeats 4000000 in
theorem many_m (z : Nat) (b : List UInt8) (t : Bool) (e : Int) (most : Nat) (hm : most ≤ 1000) (he : e = 0 ∨ is345 e) (hz : z = 1 ∨ b = []) (hb : b.length ≤ 1000000000) (Post : PV → List (Nat × Blk) → Prop)
  (h : ∀ (n : Nat) b' e', Out (lift e (cntP most b)) n b' e' → n ≤ most → ∀ t', (e' ≠ 0 → n = 0) → b'.length ≤ b.length → (z = 1 ∨ b' = []) → Post (.int .i64 n) (tp z b' t' e')) : Spec K 132 [.ptr 0 0, .int .i64 most] (tp z b t e) Post := by
 refine is132.specW K_ok K_mix false (by simp) (by simp [keys]) ?_
 (conv => whnf); repeat ((first | (apply And.intro;· exact Cl3) | apply T1 | apply T2 | apply T3 | apply T4 | apply T6 | apply T5); conv => whnf)
 refine some_m z b t e 1 he hz hb (by omega) _ (fun s b2 e2 ho hs t2 hb2 hz2 => ?_)
 obtain ⟨x, rfl⟩ := one_of hs
 have hx := x.toNat_lt
 (conv => whnf); repeat ((first | (apply And.intro;· exact Cl4) | apply T1 | apply T2 | apply T3 | apply T4 | apply T6 | apply T5); conv => whnf)
 rw [wrap64 (n := (x.toNat : Int)) (by omega) (by omega)]
 rcases ho with ⟨ho, rfl⟩ | ⟨ho, he2⟩
 ·have he0 : e = 0 := by
   by_cases h0 : e = 0
   ·exact h0
   ·rw [liftE h0] at ho; cases ho
  subst he0
  rw [lift0] at ho
  obtain ⟨x', hx', rfl⟩ := takeP1 ho
  cases hx'
  by_cases hmx : most < x.toNat
  ·rw [decide_eq_true (show (most : Int) < (x.toNat : Int) by omega)]
   (conv => whnf); repeat ((first | (apply And.intro;· exact Cl4) | apply T1 | apply T2 | apply T3 | apply T4 | apply T6 | apply T5); conv => whnf)
   exact h 0 b2 5 (.inr ⟨by rw [lift0, cnt_of, if_pos hmx], .inr (.inr rfl)⟩) (Nat.zero_le _) _ (fun _ => rfl) hb2 hz2
  ·rw [decide_eq_false (show ¬ (most : Int) < (x.toNat : Int) by omega)]
   (conv => whnf); repeat ((first | (apply And.intro;· exact Cl4) | apply T1 | apply T2 | apply T3 | apply T4 | apply T6 | apply T5); conv => whnf)
   exact h x.toNat b2 0 (.inl ⟨by rw [lift0, cnt_of, if_neg hmx], rfl⟩) (by omega) _ (fun h => absurd rfl h) hb2 hz2
 ·have h1 : (e2 == 0) = false := by simpa using is345_ne he2
  have h2 : (e2 != 0) = true := by simpa using is345_ne he2
  rw [h1]
  (conv => whnf); repeat ((first | (apply And.intro;· exact Cl4) | apply T1 | apply T2 | apply T3 | apply T4 | apply T6 | apply T5); conv => whnf)
  rw [h2]
  (conv => whnf); repeat ((first | (apply And.intro;· exact Cl4) | apply T1 | apply T2 | apply T3 | apply T4 | apply T6 | apply T5); conv => whnf)
  refine h 0 b2 e2 (.inr ⟨?_, he2⟩) (Nat.zero_le _) _ (fun _ => rfl) hb2 hz2
  by_cases h0 : e = 0
  ·subst h0
   rw [lift0] at ho ⊢
   exact cnt_of3 ho
  ·rw [liftE h0] at ho ⊢
   cases ho; rfl
theorem text_of {m : Nat} {e : Int} {b : List UInt8} {k : Nat} {b1 : List UInt8} {e1 : Int} {s b2 : List UInt8} {e2 : Int} (h1 : Out (lift e (cntP m b)) k b1 e1) (h2 : Out (lift e1 (takeP k b1)) s b2 e2) : Out (lift e (textP m b)) s b2 e2 := by
 by_cases he : e = 0
 ·subst he
  rw [lift0] at h1 ⊢
  unfold textP
  rcases h1 with ⟨h1, rfl⟩ | ⟨h1, hi⟩
  ·rw [h1]
   exact h2
  ·rw [h1]
   rw [liftE (is345_ne hi)] at h2
   rcases h2 with ⟨h2, _⟩ | ⟨h2, h3⟩
   ·cases h2
   ·cases h2; exact .inr ⟨rfl, h3⟩
 ·rw [liftE he] at h1 ⊢
  rcases h1 with ⟨h1, _⟩ | ⟨h1, hi⟩
  ·cases h1
  ·cases h1
   rw [liftE he] at h2
   exact h2.map (fun h => by cases h) (fun e h => h)
end Go.Vc
