/- What is proved here: contracts of functions of the program: of each function what it hands back and what it leaves in memory. Conditions: those that each theorem names. -/
import Derived.Test.YtmbopgmllnijjaaGreatTAy
import Derived.Test.YtmbopgmllnijjaaGreatTAz
import Derived.Test.YtmbopgmllnijjaaGreatTAx
set_option linter.unusedVariables false
set_option linter.unusedSimpArgs false
set_option linter.unusedSectionVars false
namespace Go.Vc
open Go Go.Proofs
set_option maxRecDepth 100000
theorem n8_small1 (s : List UInt8) (h : s.length ≤ 1) : n8 s ≤ 255 := by
 match s, h with
 | [], _ => decide
 | [a], _ =>
  have key : n8 [a] = IntKind.i64.wrap ((horner 0 [a] : Nat) : Int) := n8_go [a] 0
  have := a.toNat_lt
  have h2 : horner 0 [a] = a.toNat := by simp [horner]
  rw [key, h2, wrap64 (by omega) (by omega)]
  omega
theorem take_size {n : Nat} {b s r : List UInt8} (h : takeP n b = .ok (s, r)) : s.length ≤ n := by
 unfold takeP at h
 split at h
 ·cases h
 ·cases h; simp; omega
theorem n8_hor (s : List UInt8) : n8 s = IntKind.i64.wrap ((horner 0 s : Nat) : Int) := n8_go s 0
theorem n8_add (s : List UInt8) (c : UInt8) (h : s.length ≤ 1) : n8 (s ++ [c]) = n8 s * 256 + c.toNat := by
 have hc := c.toNat_lt
 match s, h with
 | [], _ =>
  have h2 : horner 0 ([] ++ [c]) = c.toNat := by simp [horner]
  have h1 : horner 0 ([] : List UInt8) = 0 := rfl
  rw [n8_hor, n8_hor, h2, h1, wrap64 (by omega) (by omega), wrap64 (by omega) (by omega)]
  omega
 | [a], _ =>
  have ha := a.toNat_lt
  have h2 : horner 0 ([a] ++ [c]) = a.toNat * 256 + c.toNat := by simp [horner]
  have h1 : horner 0 [a] = a.toNat := by simp [horner]
  rw [n8_hor, n8_hor, h2, h1, wrap64 (by omega) (by omega), wrap64 (by omega) (by omega)]
  omega
theorem numP_255 (b : List UInt8) : numP 1 255 b = numP 1 256 b := by
 unfold numP
 cases h : takeP 1 b with
 | error e => rfl
 | ok q =>
  obtain ⟨s, r⟩ := q
  have h1 := n8_small1 s (take_size h)
  have e1 : ¬ ((255 : Nat) : Int) < n8 s := by omega
  have e2 : ¬ ((256 : Nat) : Int) < n8 s := by omega
  dsimp only
  rw [if_neg e1, if_neg e2]
theorem numP_65535 (b : List UInt8) : numP 2 65535 b = numP 2 65536 b := by
 unfold numP
 cases h : takeP 2 b with
 | error e => rfl
 | ok q =>
  obtain ⟨s, r⟩ := q
  have h1 := (n8_small s (take_size h)).2
  have e1 : ¬ ((65535 : Nat) : Int) < n8 s := by omega
  have e2 : ¬ ((65536 : Nat) : Int) < n8 s := by omega
  dsimp only
  rw [if_neg e1, if_neg e2]
set_option maxHeartbeats 8000000 in
theorem numR_m (z : Nat) (b : List UInt8) (t : Bool) (e : Int) (size most : Nat) (hs : size ≤ 2) (hm : most ≤ 100000) (hz : z = 1 ∨ b = []) (hb : b.length ≤ 1000000000) (Post : PV → List (Nat × Blk) → Prop)
  (h : ∀ n b' e', OutN (lift e (numP size most b)) n b' e' → 0 ≤ n → n ≤ most → b'.length ≤ b.length → (z = 1 ∨ b' = []) → (e' ≠ 0 → n = 0) → ∀ t', Post (.int .i64 n) (tp z b' t' e')) : Spec K 58 [.ptr 0 0, .int .i64 size, .int .i64 most] (tp z b t e) Post := by
 refine is58.specW K_ok K_mix false (by simp) (by simp [keys]) ?_
 by_cases he : e = 0
 rotate_left
 ·have h1 : (e == 0) = false := by simpa using he
  have h2 : (e != 0) = true := by simpa using he
  (conv => whnf); repeat ((first | (apply And.intro;· exact Cl4) | apply T1 | apply T2 | apply T3 | apply T4 | apply T6 | apply T5); conv => whnf)
  rw [h1]
  (conv => whnf); repeat ((first | (apply And.intro;· exact Cl4) | apply T1 | apply T2 | apply T3 | apply T4 | apply T6 | apply T5); conv => whnf)
  rw [h2]
  (conv => whnf); repeat ((first | (apply And.intro;· exact Cl4) | apply T1 | apply T2 | apply T3 | apply T4 | apply T6 | apply T5); conv => whnf)
  exact h 0 b e (.inr ⟨liftE he _, he⟩) (by omega) (by omega) (Nat.le_refl _) hz (fun _ => rfl) t
 subst he
 (conv => whnf); repeat ((first | (apply And.intro;· exact Cl4) | apply T1 | apply T2 | apply T3 | apply T4 | apply T6 | apply T5); conv => whnf)
 rw [bs_len]
 by_cases hl : b.length < size
 ·rw [decide_eq_true (show (b.length : Int) < (size : Int) by omega)]
  (conv => whnf); repeat ((first | (apply And.intro;· exact Cl4) | apply T1 | apply T2 | apply T3 | apply T4 | apply T6 | apply T5); conv => whnf)
  exact h 0 b 3 (.inr ⟨by rw [lift0]; unfold numP; rw [takeP, if_pos hl], by decide⟩) (by omega) (by omega) (Nat.le_refl _) hz (fun _ => rfl) t
 rw [decide_eq_false (show ¬ (b.length : Int) < (size : Int) by omega)]
 have hz2 : z = 1 ∨ bs b = [] := hz.imp id fun h => by rw [h]; rfl
 have hb1 : True → (0 : Int) ≤ (size : Int) ∧ (size : Int) ≤ ((bs b).length : Int) := fun _ => ⟨by omega, by rw [bs_len]; omega⟩
 have hsl : (b.take size).length = size := by rw [List.length_take]; omega
 (conv => whnf); repeat ((first | (apply And.intro;· exact Cl4) | apply T1 | apply T2 | apply T3 | apply T4 | apply T6 | apply T5); conv => whnf)
 refine ⟨Nat, fun i => ⟨63, [(8, .int .i64 i), (7, .int .i64 (n8 (b.take i))), (6, .int .i64 0), (2, .int .i64 most), (1, .int .i64 size), (0, .ptr 0 0)], tp z b t 0, [0]⟩, fun i => i ≤ size, fun i => size - i, ⟨[], 0, Nat.zero_le _, ?_⟩, fun i hi => ?_⟩
 ·simp [meets, ghosts, St.le, St.get, look, keys, PV.labs, labsL, lookB, Blk.labs, n8]
 conv => (arg 5; dsimp only)
 (conv => whnf); repeat ((first | (apply And.intro;· exact Cl4) | apply T1 | apply T2 | apply T3 | apply T4 | apply T6 | apply T5); conv => whnf)
 by_cases hix : i < size
 ·rw [decide_eq_true (show (i : Int) < (size : Int) by omega)]
  have hib : i < b.length := by omega
  have hi2 : i < (bs b).length := by rw [bs_len]; exact hib
  (conv => whnf); repeat ((first | (apply And.intro;· exact Cl4) | apply T1 | apply T2 | apply T3 | apply T4 | apply T6 | apply T5); conv => whnf)
  rw [Int.toNat_natCast, nth_bs hib]
  (conv => whnf); repeat ((first | (apply And.intro;· exact Cl4) | apply T1 | apply T2 | apply T3 | apply T4 | apply T6 | apply T5); conv => whnf)
  have hlt := b[i].toNat_lt
  have hsm := n8_small (b.take i) (by rw [List.length_take]; omega)
  have hadd : n8 (b.take (i + 1)) = n8 (b.take i) * 256 + b[i].toNat := by
   rw [List.take_succ_eq_append_getElem hib]
   exact n8_add _ _ (by rw [List.length_take]; omega)
  rw [wrap64 (n := (i : Int) + 1) (by omega) (by omega), wrap64 (n := n8 (List.take i b) * 256) (by omega) (by omega), wrap64 (n := (b[i].toNat : Int)) (by omega) (by omega), wrap64 (n := n8 (List.take i b) * 256 + (b[i].toNat : Int)) (by omega) (by omega)]
  refine ⟨[], i + 1, hix, by show size - (i + 1) < size - i; omega, ?_⟩
  simp [meets, ghosts, St.le, St.get, look, keys, PV.labs, labsL, lookB, Blk.labs, hadd]
 obtain rfl : i = size := by omega
 rw [decide_eq_false (show ¬ (i : Int) < (i : Int) by omega)]
 obtain ⟨k0, k1⟩ := n8_small (b.take i) (by omega)
 (conv => whnf); repeat ((first | (apply And.intro;· exact Cl4) | apply T1 | apply T2 | apply T3 | apply T4 | apply T6 | apply T5); conv => whnf)
 have hdr : List.drop (i : Int).toNat (List.take (bs b).length (bs b)) = bs (b.drop i) := by rw [List.take_length, Int.toNat_natCast, bs_drop]
 rw [hdr]
 have hlt : numP i most b = if (most : Int) < n8 (b.take i) then .error 5 else .ok (n8 (b.take i), b.drop i) := by
  unfold numP; rw [takeP, if_neg hl]
 have hz3 : z = 1 ∨ b.drop i = [] := hz.imp id fun h => by rw [h]; simp
 by_cases hgt : (most : Int) < n8 (b.take i)
 ·rw [decide_eq_true hgt]
  (conv => whnf); repeat ((first | (apply And.intro;· exact Cl4) | apply T1 | apply T2 | apply T3 | apply T4 | apply T6 | apply T5); conv => whnf)
  exact h 0 (b.drop i) 5 (.inr ⟨by rw [lift0, hlt, if_pos hgt], by decide⟩) (by omega) (by omega) (by simp) hz3 (fun _ => rfl) _
 ·rw [decide_eq_false hgt]
  (conv => whnf); repeat ((first | (apply And.intro;· exact Cl4) | apply T1 | apply T2 | apply T3 | apply T4 | apply T6 | apply T5); conv => whnf)
  exact h (n8 (b.take i)) (b.drop i) 0 (.inl ⟨by rw [lift0, hlt, if_neg hgt], rfl⟩) k0 (by omega) (by simp) hz3 (fun h => absurd rfl h) _
set_option maxHeartbeats 8000000 in
theorem textR_m (z : Nat) (b : List UInt8) (t : Bool) (e : Int) (n : Nat) (hz : z = 1 ∨ b = []) (hb : b.length ≤ 1000000000) (hn : n ≤ 1000) (Post : PV → List (Nat × Blk) → Prop)
  (h : ∀ s b' e', OutN (lift e (takeP n b)) s b' e' → s.length ≤ n → b'.length ≤ b.length → (z = 1 ∨ b' = []) → ∀ t', Post (.str s) (tp z b' t' e')) : Spec K 87 [.ptr 0 0, .int .i64 n] (tp z b t e) Post := by
 refine is87.specW K_ok K_mix false (by simp) (by simp [keys]) ?_
 by_cases he : e = 0
 rotate_left
 ·have h1 : (e == 0) = false := by simpa using he
  have h2 : (e != 0) = true := by simpa using he
  (conv => whnf); repeat ((first | (apply And.intro;· exact Cl4) | apply T1 | apply T2 | apply T3 | apply T4 | apply T6 | apply T5); conv => whnf)
  rw [h1]
  (conv => whnf); repeat ((first | (apply And.intro;· exact Cl4) | apply T1 | apply T2 | apply T3 | apply T4 | apply T6 | apply T5); conv => whnf)
  rw [h2]
  (conv => whnf); repeat ((first | (apply And.intro;· exact Cl4) | apply T1 | apply T2 | apply T3 | apply T4 | apply T6 | apply T5); conv => whnf)
  exact h [] b e (.inr ⟨liftE he _, he⟩) (by simp) (Nat.le_refl _) hz t
 subst he
 (conv => whnf); repeat ((first | (apply And.intro;· exact Cl4) | apply T1 | apply T2 | apply T3 | apply T4 | apply T6 | apply T5); conv => whnf)
 rw [bs_len]
 by_cases hl : b.length < n
 ·rw [decide_eq_true (show (b.length : Int) < (n : Int) by omega)]
  (conv => whnf); repeat ((first | (apply And.intro;· exact Cl4) | apply T1 | apply T2 | apply T3 | apply T4 | apply T6 | apply T5); conv => whnf)
  exact h [] b 3 (.inr ⟨by rw [lift0, takeP, if_pos hl], by decide⟩) (by simp) (Nat.le_refl _) hz t
 rw [decide_eq_false (show ¬ (b.length : Int) < (n : Int) by omega)]
 have hz2 : z = 1 ∨ bs b = [] := hz.imp id fun h => by rw [h]; rfl
 have hb1 : True → (0 : Int) ≤ (n : Int) ∧ (n : Int) ≤ ((bs b).length : Int) := fun _ => ⟨by omega, by rw [bs_len]; omega⟩
 (conv => whnf); repeat ((first | (apply And.intro;· exact Cl4) | apply T1 | apply T2 | apply T3 | apply T4 | apply T6 | apply T5); conv => whnf)
 rw [Int.toNat_natCast, List.drop_zero, bs_take]
 refine ⟨bs_int _, ?_⟩
 rw [str_bs]
 (conv => whnf); repeat ((first | (apply And.intro;· exact Cl4) | apply T1 | apply T2 | apply T3 | apply T4 | apply T6 | apply T5); conv => whnf)
 have hdr : List.drop (n : Int).toNat (List.take (bs b).length (bs b)) = bs (b.drop n) := by rw [List.take_length, Int.toNat_natCast, bs_drop]
 rw [hdr]
 exact h (b.take n) (b.drop n) 0 (.inl ⟨by rw [lift0, takeP, if_neg hl], rfl⟩) (by simp; omega) (by simp) (hz.imp id fun h => by rw [h]; simp) _
end Go.Vc
namespace Go.Vc
open Go Go.Proofs
set_option maxRecDepth 100000
set_option maxHeartbeats 8000000 in
theorem takeV_r (b : List UInt8) (z : Nat) (t : Bool) (hz : z = 1 ∨ b = []) (hb : b.length ≤ 1000000000) (Post : PV → List (Nat × Blk) → Prop)
  (h : ∀ v r e z1 lp z2 z, VO v z1 lp z2 → (z = 1 ∨ r = []) → OutZ V0 (takeV b) v r e → Post (.tup [.agg (vc v z1 lp false z2 false), .sl z (bs r) false true, .int .i64 e]) []) : Spec K 86 [.sl z (bs b) t true] [] Post := by
 refine is86.specW K_ok K_mix false (by simp) (by simp [keys]) ?_
 (conv => whnf); repeat ((first | (apply And.intro;· exact Cl4) | apply T1 | apply T2 | apply T3 | apply T4 | apply T6 | apply T5); conv => whnf)
 refine value_ref 8 (by omega) b 0 z t 0 rfl (.inl rfl) hz hb _ (fun v b' e' t' z1 lp z2 hv hb' hz' ho => ?_)
 rw [lift0] at ho
 (conv => whnf); repeat ((first | (apply And.intro;· exact Cl4) | apply T1 | apply T2 | apply T3 | apply T4 | apply T6 | apply T5); conv => whnf)
 rcases ho with ⟨ho, rfl⟩ | ⟨ho, he⟩
 ·(conv => whnf); repeat ((first | (apply And.intro;· exact Cl4) | apply T1 | apply T2 | apply T3 | apply T4 | apply T6 | apply T5); conv => whnf)
  have hbk := parse_bulk _ _ _ _ ho
  refine may_spec v z1 z2 lp _ _ _ (hv.va (by omega)) ?_
  cases hm : mayV v
  ·(conv => whnf); repeat ((first | (apply And.intro;· exact Cl4) | apply T1 | apply T2 | apply T3 | apply T4 | apply T6 | apply T5); conv => whnf)
   (conv => whnf); repeat' (first | ((first | (apply And.intro;· exact Cl4) | apply T1 | apply T2 | apply T3 | apply T4 | apply T6 | apply T5); conv => whnf) | (fail; conv => whnf) | ((refine Both.mk ?_ ?_ <;> fail_if_success (intro _)) <;> conv => whnf))
   all_goals exact h V0 [] 2 0 [] 0 _ VO0 (.inr rfl) (.inr ⟨by rw [takeV, ho]; simp [hm], by decide, rfl, rfl⟩)
  ·(conv => whnf); repeat ((first | (apply And.intro;· exact Cl4) | apply T1 | apply T2 | apply T3 | apply T4 | apply T6 | apply T5); conv => whnf)
   (conv => whnf); repeat' (first | ((first | (apply And.intro;· exact Cl4) | apply T1 | apply T2 | apply T3 | apply T4 | apply T6 | apply T5); conv => whnf) | (refine copyB_spec b' z t' (by omega) _ ?_; conv => whnf) | ((refine Both.mk ?_ ?_ <;> fail_if_success (intro _)) <;> conv => whnf))
   all_goals exact h v b' 0 z1 lp z2 1 hv (.inl rfl) (.inl ⟨by rw [takeV, ho]; simp [hm], rfl⟩)
 ·have h1 : (e' == 0) = false := by simpa using is345_ne he
  have h2 : (e' != 0) = true := by simpa using is345_ne he
  rw [h1]
  (conv => whnf); repeat ((first | (apply And.intro;· exact Cl4) | apply T1 | apply T2 | apply T3 | apply T4 | apply T6 | apply T5); conv => whnf)
  rw [h2]
  (conv => whnf); repeat ((first | (apply And.intro;· exact Cl4) | apply T1 | apply T2 | apply T3 | apply T4 | apply T6 | apply T5); conv => whnf)
  (conv => whnf); repeat' (first | ((first | (apply And.intro;· exact Cl4) | apply T1 | apply T2 | apply T3 | apply T4 | apply T6 | apply T5); conv => whnf) | (fail; conv => whnf) | ((refine Both.mk ?_ ?_ <;> fail_if_success (intro _)) <;> conv => whnf))
  all_goals exact h V0 [] e' 0 [] 0 _ VO0 (.inr rfl) (.inr ⟨by rw [takeV, ho], is345_ne he, rfl, rfl⟩)
set_option maxHeartbeats 8000000 in
theorem valueR_m (z : Nat) (b : List UInt8) (t : Bool) (e : Int) (hz : z = 1 ∨ b = []) (hb : b.length ≤ 1000000000) (Post : PV → List (Nat × Blk) → Prop)
  (h : ∀ v b' e' t' z1 lp z2 z', OutN (lift e (takeV b)) v b' e' → VO v z1 lp z2 → bulkV v ≤ b.length + 10 → b'.length ≤ b.length → (z' = 1 ∨ b' = []) → Post (.agg (vc v z1 lp false z2 false)) (tp z' b' t' e')) : Spec K 59 [.ptr 0 0] (tp z b t e) Post := by
 refine is59.specW K_ok K_mix false (by simp) (by simp [keys]) ?_
 by_cases he : e = 0
 rotate_left
 ·have h2 : (e != 0) = true := by simpa using he
  (conv => whnf); repeat ((first | (apply And.intro;· exact Cl4) | apply T1 | apply T2 | apply T3 | apply T4 | apply T6 | apply T5); conv => whnf)
  rw [h2]
  (conv => whnf); repeat ((first | (apply And.intro;· exact Cl4) | apply T1 | apply T2 | apply T3 | apply T4 | apply T6 | apply T5); conv => whnf)
  exact h V0 b e t 0 [] 0 z (.inr ⟨liftE he _, he⟩) VO0 (Nat.le_trans (show bulkV V0 ≤ 10 by decide) (by omega)) (Nat.le_refl _) hz
 subst he
 (conv => whnf); repeat ((first | (apply And.intro;· exact Cl4) | apply T1 | apply T2 | apply T3 | apply T4 | apply T6 | apply T5); conv => whnf)
 refine takeV_r b z t hz hb _ (fun v r e z1 lp z2 z' hv hz' ho => ?_)
 rcases ho with ⟨ho, rfl⟩ | ⟨ho, he, rfl, rfl⟩
 ·have := take_len ho
  (conv => whnf); repeat ((first | (apply And.intro;· exact Cl4) | apply T1 | apply T2 | apply T3 | apply T4 | apply T6 | apply T5); conv => whnf)
  exact h v r 0 false z1 lp z2 z' (.inl ⟨by rw [lift0]; exact ho, rfl⟩) hv (by omega) (by omega) hz'
 ·have h2 : (e != 0) = true := by simpa using he
  (conv => whnf); repeat ((first | (apply And.intro;· exact Cl4) | apply T1 | apply T2 | apply T3 | apply T4 | apply T6 | apply T5); conv => whnf)
  rw [h2]
  (conv => whnf); repeat ((first | (apply And.intro;· exact Cl4) | apply T1 | apply T2 | apply T3 | apply T4 | apply T6 | apply T5); conv => whnf)
  exact h V0 b e t 0 [] 0 z (.inr ⟨by rw [lift0]; exact ho, he⟩) VO0 (Nat.le_trans (show bulkV V0 ≤ 10 by decide) (by omega)) (Nat.le_refl _) hz
set_option maxHeartbeats 16000000 in
theorem fnR_m (z : Nat) (b : List UInt8) (t : Bool) (e : Int) (hz : z = 1 ∨ b = []) (hb : b.length ≤ 1000000000) (Post : PV → List (Nat × Blk) → Prop)
  (h : ∀ f b' e' z' t', OutN (lift e (funP b)) f b' e' → FB f → (z' = 3 ∨ f.code = []) → b'.length ≤ b.length → (z = 1 ∨ b' = []) → Post (.agg (fdc f z' false)) (tp z b' t' e')) : Spec K 60 [.ptr 0 0] (tp z b t e) Post := by
 refine is60.specW K_ok K_mix false (by simp) (by simp [keys]) ?_
 (conv => whnf); repeat ((first | (apply And.intro;· exact Cl4) | apply T1 | apply T2 | apply T3 | apply T4 | apply T6 | apply T5); conv => whnf)
 refine numR_m z b t e 1 16 (by decide) (by decide) hz hb _ (fun n1 b1 e1 o1 p1 q1 hb1 hz1 _ t1 => ?_)
 obtain ⟨k1, rfl⟩ : ∃ k : Nat, n1 = k := ⟨n1.toNat, by omega⟩
 (conv => whnf); repeat ((first | (apply And.intro;· exact Cl4) | apply T1 | apply T2 | apply T3 | apply T4 | apply T6 | apply T5); conv => whnf)
 refine textR_m z b1 t1 e1 k1 hz1 (by omega) (by omega) _ (fun nm b2 e2 o2 hnl hb2 hz2 t2 => ?_)
 (conv => whnf); repeat ((first | (apply And.intro;· exact Cl4) | apply T1 | apply T2 | apply T3 | apply T4 | apply T6 | apply T5); conv => whnf)
 refine numR_m z b2 t2 e2 1 255 (by decide) (by decide) hz2 (by omega) _ (fun n3 b3 e3 o3 p3 q3 hb3 hz3 _ t3 => ?_)
 (conv => whnf); repeat ((first | (apply And.intro;· exact Cl4) | apply T1 | apply T2 | apply T3 | apply T4 | apply T6 | apply T5); conv => whnf)
 refine numR_m z b3 t3 e3 1 255 (by decide) (by decide) hz3 (by omega) _ (fun n4 b4 e4 o4 p4 q4 hb4 hz4 _ t4 => ?_)
 (conv => whnf); repeat ((first | (apply And.intro;· exact Cl4) | apply T1 | apply T2 | apply T3 | apply T4 | apply T6 | apply T5); conv => whnf)
 refine numR_m z b4 t4 e4 2 512 (by decide) (by decide) hz4 (by omega) _ (fun n5 b5 e5 o5 p5 q5 hb5 hz5 _ t5 => ?_)
 obtain ⟨k5, rfl⟩ : ∃ k : Nat, n5 = k := ⟨n5.toNat, by omega⟩
 rw [numP_255] at o3 o4
 (conv => whnf); repeat ((first | (apply And.intro;· exact Cl4) | apply T1 | apply T2 | apply T3 | apply T4 | apply T6 | apply T5); conv => whnf)
 refine ⟨List IN × List UInt8 × Int × Bool, fun x => ⟨52, [(6, .int .i64 x.1.length), (5, .int .i64 k5), (3, .ptr 2 0), (2, .ptr 1 0), (0, .ptr 0 0)], [(0, .box [.sl z (bs x.2.1) x.2.2.2 true, .int .i64 x.2.2.1]), (1, .box [.str [], .int .i64 0, .int .i64 0, .sl 0 [] true false]), (2, .box [.str nm, .int .i64 n3, .int .i64 n4, .ref 3 3 0 x.1.length]), (3, .row 69 3 (x.1.map INP) false)], [0]⟩,
  fun x => ListI insP k5 b5 e5 x.1 x.2.1 x.2.2.1 ∧ (∀ y ∈ x.1, i64 y.op ∧ i64 y.a ∧ i64 y.b) ∧ x.2.1.length ≤ b5.length ∧ (z = 1 ∨ x.2.1 = []), fun x => k5 - x.1.length, ⟨[.cell 2 3 69], ([], b5, e5, t5), ⟨.zero _ _ _ _, fun y hy => (by cases hy), Nat.le_refl _, hz5⟩, ?_⟩, fun x hI => ?_⟩
 ·simp [meets, ghosts, ghost, St.le, St.get, St.put, look, keys, PV.labs, labsL, lookB, updB, Blk.labs, fresh, nth]
  exact rfl
 obtain ⟨l, b6, e6, t6⟩ := x
 obtain ⟨hI, hx, hb6, hz6⟩ := hI
 have hle := hI.le
 simp only at hI hx hb6 hz6 hle
 have hlm : (l.map INP).length = l.length := List.length_map _
 conv => (arg 5; dsimp only)
 (conv => whnf); repeat ((first | (apply And.intro;· exact Cl4) | apply T1 | apply T2 | apply T3 | apply T4 | apply T6 | apply T5); conv => whnf)
 by_cases hgo : l.length < k5 ∧ e6 = 0
 ·obtain ⟨hlt, rfl⟩ := hgo
  rw [decide_eq_true (show (l.length : Int) < (k5 : Int) by omega)]
  (conv => whnf); repeat ((first | (apply And.intro;· exact Cl4) | apply T1 | apply T2 | apply T3 | apply T4 | apply T6 | apply T5); conv => whnf)
  refine numR_m z b6 t6 0 1 255 (by decide) (by decide) hz6 (by omega) _ (fun m1 c1 f1 r1 u1 v1 hc1 hy1 _ s1 => ?_)
  (conv => whnf); repeat ((first | (apply And.intro;· exact Cl4) | apply T1 | apply T2 | apply T3 | apply T4 | apply T6 | apply T5); conv => whnf)
  refine numR_m z c1 s1 f1 2 65535 (by decide) (by decide) hy1 (by omega) _ (fun m2 c2 f2 r2 u2 v2 hc2 hy2 _ s2 => ?_)
  (conv => whnf); repeat ((first | (apply And.intro;· exact Cl4) | apply T1 | apply T2 | apply T3 | apply T4 | apply T6 | apply T5); conv => whnf)
  refine numR_m z c2 s2 f2 2 65535 (by decide) (by decide) hy2 (by omega) _ (fun m3 c3 f3 r3 u3 v3 hc3 hy3 _ s3 => ?_)
  rw [numP_255] at r1
  rw [numP_65535] at r2 r3
  (conv => whnf); repeat ((first | (apply And.intro;· exact Cl4) | apply T1 | apply T2 | apply T3 | apply T4 | apply T6 | apply T5); conv => whnf)
  refine ⟨by show (l.length + 1) * 25 ≤ _; omega, ?_⟩
  (conv => whnf); repeat ((first | (apply And.intro;· exact Cl4) | apply T1 | apply T2 | apply T3 | apply T4 | apply T6 | apply T5); conv => whnf)
  rw [wrap64 (n := (l.length : Int) + 1) (by omega) (by omega)]
  have ho : OutN (insP b6) ⟨m1, m2, m3⟩ c3 f3 := by
   rw [lift0] at r1
   unfold insP
   refine r1.bind ?_
   rw [lift_bind]
   refine r2.bind ?_
   rw [lift_bind]
   exact r3.bind (.ret _ _ _)
  refine ⟨[], (l ++ [⟨m1, m2, m3⟩], c3, f3, s3), ⟨hI.step hlt ho, fun y hy => ?_, by show c3.length ≤ b5.length; omega, hy3⟩, by show k5 - (l ++ [_]).length < k5 - l.length; rw [List.length_append, List.length_singleton]; omega, ?_⟩
  ·rcases List.mem_append.1 hy with hy | hy
   ·exact hx y hy
   ·obtain rfl := List.mem_singleton.1 hy
    unfold i64; show (_ ∧ _) ∧ (_ ∧ _) ∧ (_ ∧ _); dsimp only; omega
  ·simp [meets, ghosts, St.le, St.get, look, keys, PV.labs, labsL, lookB, Blk.labs, INP]
   exact List.take_of_length_le (by rw [List.length_map]; omega)
 have htk : List.take l.length (List.drop 0 (l.map INP)) = l.map INP := by rw [List.drop_zero, List.take_of_length_le (by omega)]
 have hd : e6 ≠ 0 ∨ l.length = k5 := by
  by_cases he : e6 = 0
  ·exact .inr (by have := fun h => hgo ⟨h, he⟩; omega)
  ·exact .inl he
 have fin : ∀ zz tt, (zz = 3 ∨ l = []) → Post (.agg (fdc ⟨nm, n3, n4, l⟩ zz false)) (tp z b6 tt e6) := fun zz tt hzz => by
  refine h ⟨nm, n3, n4, l⟩ b6 e6 zz tt ?_ ⟨by show nm.length ≤ _; omega, by show i64 n3; unfold i64; omega, by show i64 n4; unfold i64; omega, by show l.length ≤ _; omega, hx⟩ hzz (by omega) hz6
  unfold funP
  rw [lift_bind]
  refine OutN.bind (a := nm) (b1 := b2) (e1 := e2) ?_ ?_
  ·unfold nameP
   rw [lift_bind]
   exact o1.bind (by rw [Int.toNat_natCast]; exact o2)
  rw [lift_bind]
  refine o3.bind ?_
  rw [lift_bind]
  refine o4.bind ?_
  rw [lift_bind]
  refine OutN.bind (a := l) (b1 := b6) (e1 := e6) ?_ (.ret _ _ _)
  unfold codeP
  rw [lift_bind]
  exact o5.bind (by rw [Int.toNat_natCast]; exact hI.out hd)
 by_cases hlt : l.length < k5
 ·have he : (e6 == 0) = false := by simpa using hd.resolve_right (by omega)
  rw [decide_eq_true (show (l.length : Int) < (k5 : Int) by omega)]
  (conv => whnf); repeat ((first | (apply And.intro;· exact Cl4) | apply T1 | apply T2 | apply T3 | apply T4 | apply T6 | apply T5); conv => whnf)
  rw [he]
  (conv => whnf); repeat ((first | (apply And.intro;· exact Cl4) | apply T1 | apply T2 | apply T3 | apply T4 | apply T6 | apply T5); conv => whnf)
  rw [htk]
  exact fin 3 t6 (.inl rfl)
 ·rw [decide_eq_false (show ¬ (l.length : Int) < (k5 : Int) by omega)]
  (conv => whnf); repeat ((first | (apply And.intro;· exact Cl4) | apply T1 | apply T2 | apply T3 | apply T4 | apply T6 | apply T5); conv => whnf)
  rw [htk]
  exact fin 3 t6 (.inl rfl)
end Go.Vc
