/- What is proved here: contracts of functions of the program: of each function what it hands back and what it leaves in memory. Conditions: those that each theorem names. -/
import Derived.Lib.ItoaNum
import Derived.Test.YthhokabbanhllaaDoorTAp
set_option linter.unusedVariables false
set_option linter.unusedSimpArgs false
set_option linter.unusedSectionVars false
namespace Go.Vc
open Go Go.Proofs
set_option maxRecDepth 100000
theorem cmpI_eq {a b : Int} : cmpI a b = 0 ↔ a = b := ⟨fun h => Classical.byContradiction fun hn => cmpI_ne hn h, fun h => by subst h; simp [cmpI]⟩
theorem cmpI_anti (a b : Int) : cmpI b a = - cmpI a b := by
 unfold cmpI
 split <;> split <;> first | omega | (split <;> omega) | rfl | skip
theorem cmpI_lt {a b : Int} : cmpI a b < 0 ↔ a < b := by
 unfold cmpI
 split
 ·simpa
 ·split <;> simp <;> omega
theorem bl_irr : ∀ a : List UInt8, Op.bytesLess a a = false
 | [] => rfl
 | a :: r => by simp [Op.bytesLess, bl_irr r]
theorem bl_tot : ∀ {a b : List UInt8}, Op.bytesLess a b = false → a ≠ b → Op.bytesLess b a = true
 | [], [], _, h => absurd rfl h
 | [], _ :: _, h, _ => by simp [Op.bytesLess] at h
 | _ :: _, [], _, _ => rfl
 | a :: r, b :: q, h, hn => by
  simp only [Op.bytesLess, Bool.or_eq_false_iff, decide_eq_false_iff_not] at h ⊢
  by_cases e : a = b
  ·subst e
   have h2 : Op.bytesLess r q = false := by simpa using h.2
   have := bl_tot h2 (fun e => hn (by rw [e]))
   simp [this]
  ·have : b < a := by
    have h1 := h.1
    rcases UInt8.lt_or_lt_of_ne e with h3 | h3
    ·exact absurd h3 h1
    ·exact h3
   simp [this]
theorem bl_asym : ∀ {a b : List UInt8}, Op.bytesLess a b = true → Op.bytesLess b a = false
 | _, [], h => by simp [Op.bytesLess] at h
 | [], _ :: _, _ => rfl
 | a :: r, b :: q, h => by
  simp only [Op.bytesLess, Bool.or_eq_true, decide_eq_true_eq, Bool.and_eq_true, beq_iff_eq] at h
  simp only [Op.bytesLess, Bool.or_eq_false_iff, decide_eq_false_iff_not]
  rcases h with h | ⟨rfl, h⟩
  ·refine ⟨fun h2 => ?_, ?_⟩
   ·exact absurd (UInt8.lt_trans h h2) (UInt8.lt_irrefl _)
   ·have : ¬ b = a := fun e => by subst e; exact absurd h (UInt8.lt_irrefl _)
    simp [this]
  ·exact ⟨UInt8.lt_irrefl _, by simp [bl_asym h]⟩
theorem bl_trans : ∀ {a b c : List UInt8}, Op.bytesLess a b = true → Op.bytesLess b c = true → Op.bytesLess a c = true
 | _, [], _, h, _ => by simp [Op.bytesLess] at h
 | _, _ :: _, [], _, h => by simp [Op.bytesLess] at h
 | [], _ :: _, _ :: _, _, _ => rfl
 | a :: r, b :: q, c :: t, h, h2 => by
  simp only [Op.bytesLess, Bool.or_eq_true, decide_eq_true_eq, Bool.and_eq_true, beq_iff_eq] at h h2 ⊢
  rcases h with h | ⟨rfl, h⟩
  ·rcases h2 with h2 | ⟨rfl, h2⟩
   ·exact .inl (UInt8.lt_trans h h2)
   ·exact .inl h
  ·rcases h2 with h2 | ⟨rfl, h2⟩
   ·exact .inl h2
   ·exact .inr ⟨rfl, bl_trans h h2⟩
theorem cmpS_lt {a b : List UInt8} : cmpS a b < 0 ↔ Op.bytesLess a b = true := by
 unfold cmpS
 split
 ·simpa
 ·split <;> simp_all
theorem cmpS_eq {a b : List UInt8} : cmpS a b = 0 ↔ a = b := ⟨fun h => Classical.byContradiction fun hn => cmpS_ne hn h, fun h => by subst h; simp [cmpS, bl_irr]⟩
theorem cmpS_anti (a b : List UInt8) : cmpS b a = - cmpS a b := by
 by_cases e : a = b
 ·subst e; rw [cmpS_eq.2 rfl]; rfl
 ·cases h : Op.bytesLess a b with
  | true =>
   have h2 := bl_asym h
   have e2 : ¬ b = a := fun e2 => e e2.symm
   simp [cmpS, h, h2, e2]
  | false =>
   have h2 := bl_tot h e
   simp [cmpS, h, h2, e]
theorem cmpNs_anti : ∀ a b : List (List UInt8), cmpNs b a = - cmpNs a b
 | [], [] => rfl
 | [], _ :: _ => rfl
 | _ :: _, [] => rfl
 | a :: r, b :: q => by
  rw [cmpNs, cmpNs]
  by_cases e : a = b
  ·rw [if_pos e, if_pos e.symm]; exact cmpNs_anti r q
  ·rw [if_neg e, if_neg (fun h => e h.symm)]; exact cmpS_anti a b
theorem cmpNs_trans : ∀ {a b c : List (List UInt8)}, cmpNs a b < 0 → cmpNs b c < 0 → cmpNs a c < 0
 | [], [], _, h, _ => by simp [cmpNs] at h
 | [], _ :: _, [], _, h => by simp [cmpNs] at h
 | [], _ :: _, _ :: _, _, _ => by simp [cmpNs]
 | _ :: _, [], _, h, _ => by simp [cmpNs] at h
 | _ :: _, _ :: _, [], _, h => by simp [cmpNs] at h
 | a :: r, b :: q, c :: t, h, h2 => by
  rw [cmpNs] at h h2 ⊢
  by_cases e : a = b
  ·subst e
   rw [if_pos rfl] at h
   by_cases e2 : a = c
   ·rw [if_pos e2] at h2 ⊢; exact cmpNs_trans h h2
   ·rw [if_neg e2] at h2 ⊢; exact h2
  ·rw [if_neg e] at h
   by_cases e2 : b = c
   ·subst e2; rw [if_neg e]; exact h
   ·rw [if_neg e2] at h2
    have h3 := bl_trans (cmpS_lt.1 h) (cmpS_lt.1 h2)
    have e3 : ¬ a = c := fun e3 => by subst e3; rw [bl_irr] at h3; cases h3
    rw [if_neg e3]; exact cmpS_lt.2 h3
mutual
theorem cmpV_eq : ∀ {v w : V}, cmpV v w = 0 → v = w
 | .mk k n s l ns, .mk k' n' s' l' ns', h => by
  rw [cmpV_mk] at h
  by_cases h1 : k = k'
  ·rw [if_neg (fun h => h h1)] at h
   by_cases h2 : n = n'
   ·rw [if_neg (fun h => h h2)] at h
    by_cases h3 : s = s'
    ·rw [if_neg (fun h => h h3)] at h
     by_cases h4 : cmpNs ns ns' = 0
     ·rw [if_neg (fun h => h h4)] at h
      rw [h1, h2, h3, cmpNs_eq.1 h4, cmpVs_eq h]
     ·rw [if_pos h4] at h; exact absurd h h4
    ·rw [if_pos h3] at h; exact absurd h (cmpS_ne h3)
   ·rw [if_pos h2] at h; exact absurd h (cmpI_ne h2)
  ·rw [if_pos h1] at h; exact absurd h (cmpI_ne h1)
theorem cmpVs_eq : ∀ {a b : List V}, cmpVs a b = 0 → a = b
 | [], [], _ => rfl
 | [], _ :: _, h => by simp [cmpVs] at h
 | _ :: _, [], h => by simp [cmpVs] at h
 | v :: r, w :: q, h => by
  rw [cmpVs] at h
  by_cases h1 : cmpV v w = 0
  ·rw [if_neg (fun h => h h1)] at h
   rw [cmpV_eq h1, cmpVs_eq h]
  ·rw [if_pos h1] at h; exact absurd h h1
end
mutual
theorem cmpV_anti : ∀ v w : V, cmpV w v = - cmpV v w
 | .mk k n s l ns, .mk k' n' s' l' ns' => by
  rw [cmpV_mk, cmpV_mk]
  by_cases h1 : k = k'
  ·subst h1
   rw [if_neg (show ¬ k ≠ k from fun h => h rfl), if_neg (show ¬ k ≠ k from fun h => h rfl)]
   by_cases h2 : n = n'
   ·subst h2
    rw [if_neg (show ¬ n ≠ n from fun h => h rfl), if_neg (show ¬ n ≠ n from fun h => h rfl)]
    by_cases h3 : s = s'
    ·subst h3
     rw [if_neg (show ¬ s ≠ s from fun h => h rfl), if_neg (show ¬ s ≠ s from fun h => h rfl)]
     by_cases h4 : cmpNs ns ns' = 0
     ·have h5 : cmpNs ns' ns = 0 := by rw [cmpNs_anti, h4]; rfl
      rw [if_neg (show ¬ cmpNs ns' ns ≠ 0 from fun h => h h5), if_neg (show ¬ cmpNs ns ns' ≠ 0 from fun h => h h4)]
      exact cmpVs_anti l l'
     ·have h5 : cmpNs ns' ns ≠ 0 := by rw [cmpNs_anti]; omega
      rw [if_pos h5, if_pos h4]
      exact cmpNs_anti ns ns'
    ·rw [if_pos (show s' ≠ s from fun h => h3 h.symm), if_pos h3]; exact cmpS_anti s s'
   ·rw [if_pos (show n' ≠ n from fun h => h2 h.symm), if_pos h2]; exact cmpI_anti n n'
  ·rw [if_pos (show k' ≠ k from fun h => h1 h.symm), if_pos h1]; exact cmpI_anti k k'
theorem cmpVs_anti : ∀ a b : List V, cmpVs b a = - cmpVs a b
 | [], [] => by simp [cmpVs]
 | [], _ :: _ => by simp [cmpVs]
 | _ :: _, [] => by simp [cmpVs]
 | v :: r, w :: q => by
  rw [cmpVs, cmpVs]
  have h := cmpV_anti v w
  by_cases h1 : cmpV v w = 0
  ·have h2 : cmpV w v = 0 := by rw [h, h1]; rfl
   rw [if_neg (show ¬ cmpV w v ≠ 0 from fun h => h h2), if_neg (show ¬ cmpV v w ≠ 0 from fun h => h h1)]
   exact cmpVs_anti r q
  ·have h2 : cmpV w v ≠ 0 := by omega
   rw [if_pos h2, if_pos h1]; exact h
end
mutual
theorem cmpV_trans : ∀ {u v w : V}, cmpV u v < 0 → cmpV v w < 0 → cmpV u w < 0
 | .mk k n s l ns, .mk k' n' s' l' ns', .mk k2 n2 s2 l2 ns2, h, g => by
  rw [cmpV_mk] at h g ⊢
  by_cases h1 : k = k'
  ·subst h1
   rw [if_neg (fun h => h rfl)] at h
   by_cases g1 : k = k2
   ·rw [if_neg (fun h => h g1)] at g
    rw [if_neg (fun h => h g1)]
    by_cases h2 : n = n'
    ·subst h2
     rw [if_neg (fun h => h rfl)] at h
     by_cases g2 : n = n2
     ·rw [if_neg (fun h => h g2)] at g
      rw [if_neg (fun h => h g2)]
      by_cases h3 : s = s'
      ·subst h3
       rw [if_neg (fun h => h rfl)] at h
       by_cases g3 : s = s2
       ·rw [if_neg (fun h => h g3)] at g
        rw [if_neg (fun h => h g3)]
        by_cases h4 : cmpNs ns ns' = 0
        ·rw [if_neg (fun h => h h4)] at h
         have := cmpNs_eq.1 h4
         subst this
         by_cases g4 : cmpNs ns ns2 = 0
         ·rw [if_neg (fun h => h g4)] at g
          rw [if_neg (fun h => h g4)]
          exact cmpVs_trans h g
         ·rw [if_pos g4] at g
          rw [if_pos g4]; exact g
        ·rw [if_pos h4] at h
         by_cases g4 : cmpNs ns' ns2 = 0
         ·have := cmpNs_eq.1 g4
          subst this
          rw [if_pos h4]; exact h
         ·rw [if_pos g4] at g
          have := cmpNs_trans h g
          rw [if_pos (by omega)]; exact this
       ·rw [if_pos g3] at g
        rw [if_pos g3]; exact g
      ·rw [if_pos h3] at h
       by_cases g3 : s' = s2
       ·subst g3; rw [if_pos h3]; exact h
       ·rw [if_pos g3] at g
        have h4 := bl_trans (cmpS_lt.1 h) (cmpS_lt.1 g)
        rw [if_pos (fun e => by subst e; rw [bl_irr] at h4; cases h4)]; exact cmpS_lt.2 h4
     ·rw [if_pos g2] at g
      rw [if_pos g2]; exact g
    ·rw [if_pos h2] at h
     by_cases g2 : n' = n2
     ·subst g2; rw [if_pos h2]; exact h
     ·rw [if_pos g2] at g
      have h4 := cmpI_lt.1 h
      have g4 := cmpI_lt.1 g
      rw [if_pos (by omega)]; exact cmpI_lt.2 (by omega)
   ·rw [if_pos g1] at g
    rw [if_pos g1]; exact g
  ·rw [if_pos h1] at h
   by_cases g1 : k' = k2
   ·subst g1; rw [if_pos h1]; exact h
   ·rw [if_pos g1] at g
    have h4 := cmpI_lt.1 h
    have g4 := cmpI_lt.1 g
    rw [if_pos (by omega)]; exact cmpI_lt.2 (by omega)
theorem cmpVs_trans : ∀ {a b c : List V}, cmpVs a b < 0 → cmpVs b c < 0 → cmpVs a c < 0
 | [], [], _, h, _ => by simp [cmpVs] at h
 | [], _ :: _, [], _, h => by simp [cmpVs] at h
 | [], _ :: _, _ :: _, _, _ => by simp [cmpVs]
 | _ :: _, [], _, h, _ => by simp [cmpVs] at h
 | _ :: _, _ :: _, [], _, h => by simp [cmpVs] at h
 | u :: p, v :: r, w :: q, h, g => by
  rw [cmpVs] at h g ⊢
  by_cases h1 : cmpV u v = 0
  ·rw [if_neg (fun h => h h1)] at h
   have := cmpV_eq h1
   subst this
   by_cases g1 : cmpV u w = 0
   ·rw [if_neg (fun h => h g1)] at g
    rw [if_neg (fun h => h g1)]
    exact cmpVs_trans h g
   ·rw [if_pos g1] at g
    rw [if_pos g1]; exact g
  ·rw [if_pos h1] at h
   by_cases g1 : cmpV v w = 0
   ·have := cmpV_eq g1
    subst this
    rw [if_pos h1]; exact h
   ·rw [if_pos g1] at g
    have := cmpV_trans h g
    rw [if_pos (by omega)]; exact this
end
theorem cmpV_self (v : V) : cmpV v v = 0 := by have := cmpV_anti v v; omega
def lineB (a b c : V) : Bool :=
 (cmpV b a == - cmpV a b && ((cmpV a b == 0) == sameV a b) && (cmpV a a == 0)) && (decide (0 < cmpV a b) || decide (0 < cmpV b c) || decide (cmpV a c ≤ 0)) && (decide (0 ≤ cmpV a b) || decide (0 < cmpV b c) || decide (cmpV a c < 0))
theorem line_holds (a b c : V) : lineB a b c = true := by
 have h1 := cmpV_anti a b
 have h2 := cmpV_self a
 have h3 : cmpV a b < 0 → cmpV b c < 0 → cmpV a c < 0 := cmpV_trans
 have h4 : cmpV a b = 0 → cmpV a c = cmpV b c := fun h => by rw [cmpV_eq h]
 have h5 : cmpV b c = 0 → cmpV a c = cmpV a b := fun h => by rw [cmpV_eq h]
 simp only [lineB, sameV, Bool.and_eq_true, Bool.or_eq_true, decide_eq_true_eq, beq_iff_eq]
 refine ⟨⟨⟨⟨h1, trivial⟩, h2⟩, ?_⟩, ?_⟩ <;> omega
end Go.Vc
namespace Go.Vc
open Go Go.Proofs
set_option maxRecDepth 100000
def hexD (n : Nat) : UInt8 := UInt8.ofNat (if n < 10 then 48 + n else 87 + n)
def escB (c : UInt8) : Bool := decide (c.toNat < 32) || decide (126 < c.toNat) || c.toNat == 34 || c.toNat == 92
def quoC (c : UInt8) : List UInt8 := if escB c = true then [92, hexD (c.toNat / 16), hexD (c.toNat % 16)] else [c]
def quoT (s : List UInt8) : List UInt8 := 34 :: (s.flatMap quoC ++ [34])
def joinC : List (List UInt8) → List UInt8
 | [] => []
 | [a] => a
 | a :: r => a ++ 44 :: joinC r
mutual
def showV : V → List UInt8
 | .mk k n s l ns => if k = 0 then [110, 111, 110, 101] else if k = 1 then Lib.itoa n else if k = 2 then (if n = 1 then [116, 114, 117, 101] else [102, 97, 108, 115, 101]) else if k = 3 then quoT s
  else if k = 6 then 35 :: Lib.itoa n else if k = 5 then 123 :: (joinC (showR ns l) ++ [125]) else 91 :: (joinC (showL l) ++ [93])
def showL : List V → List (List UInt8)
 | [] => []
 | v :: r => showV v :: showL r
def showR : List (List UInt8) → List V → List (List UInt8)
 | _, [] => []
 | ns, v :: r => (ns.headD [] ++ 58 :: showV v) :: showR ns.tail r
end
theorem joinC_cons {a : List UInt8} {r : List (List UInt8)} (h : r ≠ []) : joinC (a :: r) = a ++ 44 :: joinC r := by
 cases r with
 | nil => exact absurd rfl h
 | cons b q => rfl
def numC (c : UInt8) : Bool := decide (48 ≤ c.toNat) && decide (c.toNat ≤ 57) || c.toNat == 45
theorem dec_chars (u : Nat) : (∀ c ∈ Lib.decDigits u, 48 ≤ c.toNat ∧ c.toNat ≤ 57) ∧ Lib.decDigits u ≠ [] := by
 induction u using Nat.strongRecOn with
 | _ u ih =>
  rw [Lib.decDigits]
  split
  ·refine ⟨fun c hc => ?_, by simp⟩
   obtain rfl := List.mem_singleton.1 hc
   show 48 ≤ (48 + u) % 256 ∧ (48 + u) % 256 ≤ 57
   omega
  ·rename_i h
   refine ⟨fun c hc => ?_, by simp⟩
   rcases List.mem_append.1 hc with hc | hc
   ·exact (ih _ (by omega)).1 c hc
   ·obtain rfl := List.mem_singleton.1 hc
    show 48 ≤ (48 + u % 10) % 256 ∧ (48 + u % 10) % 256 ≤ 57
    omega
def decV (l : List UInt8) : Nat := l.foldl (fun a c => 10 * a + (c.toNat - 48)) 0
theorem dec_val (u : Nat) : decV (Lib.decDigits u) = u := by
 induction u using Nat.strongRecOn with
 | _ u ih =>
  rw [Lib.decDigits]
  split
  ·show 10 * 0 + ((48 + u) % 256 - 48) = u
   omega
  ·unfold decV
   rw [List.foldl_append]
   show 10 * decV (Lib.decDigits (u / 10)) + ((48 + u % 10) % 256 - 48) = u
   rw [ih _ (by omega)]
   omega
theorem itoa_inj {n m : Int} (h : Lib.itoa n = Lib.itoa m) : n = m := by
 have no45 : ∀ u r, Lib.decDigits u ≠ 45 :: r := fun u r e => by
  have := (dec_chars u).1 45 (by rw [e]; simp)
  exact absurd this.1 (by decide)
 unfold Lib.itoa at h
 split at h <;> split at h
 ·have := congrArg decV (List.cons.inj h).2
  rw [dec_val, dec_val] at this
  omega
 ·exact absurd h.symm (no45 _ _)
 ·exact absurd h (no45 _ _)
 ·have := congrArg decV h
  rw [dec_val, dec_val] at this
  omega
theorem itoa_chars (n : Int) : (∀ c ∈ Lib.itoa n, numC c = true) ∧ Lib.itoa n ≠ [] := by
 unfold Lib.itoa
 have hd : ∀ u, ∀ c ∈ Lib.decDigits u, numC c = true := fun u c hc => by
  have := (dec_chars u).1 c hc
  simp [numC, this]
 split
 ·refine ⟨fun c hc => ?_, by simp⟩
  rcases List.mem_cons.1 hc with rfl | hc
  ·rfl
  ·exact hd _ c hc
 ·exact ⟨hd _, (dec_chars _).2⟩
theorem span_inj {P : UInt8 → Bool} : ∀ {a b x y : List UInt8}, (∀ c ∈ a, P c = true) → (∀ c ∈ b, P c = true) → (∀ c r, x = c :: r → P c = false) → (∀ c r, y = c :: r → P c = false) → a ++ x = b ++ y → a = b ∧ x = y
 | [], [], _, _, _, _, _, _, h => ⟨rfl, h⟩
 | [], c :: b, x, y, _, hb, hx, _, h => by
  have := hx c (b ++ y) h
  rw [hb c (by simp)] at this; cases this
 | c :: a, [], x, y, ha, _, _, hy, h => by
  have := hy c (a ++ x) h.symm
  rw [ha c (by simp)] at this; cases this
 | c :: a, d :: b, x, y, ha, hb, hx, hy, h => by
  obtain ⟨h1, h2⟩ := List.cons.inj h
  obtain ⟨h3, h4⟩ := span_inj (fun c hc => ha c (by simp [hc])) (fun c hc => hb c (by simp [hc])) hx hy h2
  exact ⟨by rw [h1, h3], h4⟩
theorem hexD_inj {a b : Nat} (ha : a < 16) (hb : b < 16) (h : hexD a = hexD b) : a = b := by
 have : (hexD a).toNat = (hexD b).toNat := by rw [h]
 unfold hexD at this
 have e : ∀ n, (UInt8.ofNat n).toNat = n % 256 := fun n => rfl
 rw [e, e] at this
 split at this <;> split at this <;> omega
theorem quo_inj : ∀ {s t x y : List UInt8}, s.flatMap quoC ++ 34 :: x = t.flatMap quoC ++ 34 :: y → s = t ∧ x = y
 | [], [], x, y, h => ⟨rfl, (List.cons.inj h).2⟩
 | [], c :: t, x, y, h => by
  exfalso
  rw [List.flatMap_cons, quoC] at h
  split at h
  ·exact absurd (List.cons.inj h).1 (by decide)
  ·rename_i he
   have := (List.cons.inj h).1
   subst this
   exact he (by decide)
 | c :: s, [], x, y, h => by
  exfalso
  rw [List.flatMap_cons, quoC] at h
  split at h
  ·exact absurd (List.cons.inj h).1 (by decide)
  ·rename_i he
   have := (List.cons.inj h).1
   subst this
   exact he (by decide)
 | c :: s, d :: t, x, y, h => by
  rw [List.flatMap_cons, List.flatMap_cons, quoC, quoC] at h
  split at h <;> split at h
  ·simp only [List.cons_append, List.nil_append, List.append_assoc] at h
   obtain ⟨_, h⟩ := List.cons.inj h
   obtain ⟨h1, h⟩ := List.cons.inj h
   obtain ⟨h2, h⟩ := List.cons.inj h
   have hc := c.toNat_lt
   have hd := d.toNat_lt
   have g1 := hexD_inj (by omega) (by omega) h1
   have g2 := hexD_inj (by omega) (by omega) h2
   have : c = d := UInt8.toNat.inj (by omega)
   obtain ⟨h3, h4⟩ := quo_inj h
   exact ⟨by rw [this, h3], h4⟩
  ·exfalso
   rename_i he
   have := (List.cons.inj h).1
   subst this
   exact he (by decide)
  ·exfalso
   rename_i he _
   have := (List.cons.inj h).1
   subst this
   exact he (by decide)
  ·simp only [List.cons_append, List.nil_append, List.append_assoc] at h
   obtain ⟨h1, h⟩ := List.cons.inj h
   obtain ⟨h3, h4⟩ := quo_inj h
   exact ⟨by rw [h1, h3], h4⟩
def stopB (x : List UInt8) : Prop := ∀ c r, x = c :: r → c = 44 ∨ c = 93 ∨ c = 125
theorem stop_num {x : List UInt8} (h : stopB x) : ∀ c r, x = c :: r → numC c = false := fun c r e => by
 rcases h c r e with rfl | rfl | rfl <;> rfl
def kindB (c : UInt8) : Int := if c = 110 then 0 else if numC c = true then 1 else if c = 116 ∨ c = 102 then 2 else if c = 34 then 3 else if c = 91 then 4 else if c = 123 then 5 else if c = 35 then 6 else 7
theorem ownB_kind' {k n : Int} {s : List UInt8} {ll : Nat} {ns : List (List UInt8)} (h : ownB k n s ll ns = true) : k = 0 ∨ k = 1 ∨ k = 2 ∨ k = 3 ∨ k = 4 ∨ k = 5 ∨ k = 6 := by
 unfold ownB at h
 by_cases h0 : k = 0; · exact .inl h0
 by_cases h1 : k = 1; · exact .inr (.inl h1)
 by_cases h2 : k = 2; · exact .inr (.inr (.inl h2))
 by_cases h3 : k = 3; · exact .inr (.inr (.inr (.inl h3)))
 by_cases h4 : k = 4; · exact .inr (.inr (.inr (.inr (.inl h4))))
 by_cases h5 : k = 5; · exact .inr (.inr (.inr (.inr (.inr (.inl h5)))))
 by_cases h6 : k = 6; · exact .inr (.inr (.inr (.inr (.inr (.inr h6)))))
 simp [h0, h1, h2, h3, h4, h5, h6] at h
theorem show_head {v : V} (h : allV v = true) : ∃ c r, showV v = c :: r ∧ kindB c = v.k ∧ c ≠ 44 ∧ c ≠ 93 ∧ c ≠ 125 := by
 obtain ⟨k, n, s, l, ns⟩ := v
 simp only [allV, Bool.and_eq_true] at h
 have hi : ∃ c r, Lib.itoa n = c :: r ∧ numC c = true := by
  have := itoa_chars n
  cases e : Lib.itoa n with
  | nil => exact absurd e this.2
  | cons c r => exact ⟨c, r, rfl, this.1 c (by rw [e]; simp)⟩
 rcases ownB_kind' h.1 with rfl | rfl | rfl | rfl | rfl | rfl | rfl
 ·exact ⟨110, _, rfl, rfl, by decide, by decide, by decide⟩
 ·obtain ⟨c, r, e, hc⟩ := hi
  refine ⟨c, r, by rw [showV, if_neg (by decide), if_pos rfl, e], ?_, ?_, ?_, ?_⟩
  ·have : ¬ c = 110 := fun e => by subst e; exact absurd hc (by decide)
   simp [kindB, this, hc, V.k]
  all_goals (intro e; subst e; exact absurd hc (by decide))
 ·by_cases hn : n = 1
  ·exact ⟨116, _, by rw [showV, if_neg (by decide), if_neg (by decide), if_pos rfl, if_pos hn], rfl, by decide, by decide, by decide⟩
  ·exact ⟨102, _, by rw [showV, if_neg (by decide), if_neg (by decide), if_pos rfl, if_neg hn], rfl, by decide, by decide, by decide⟩
 ·exact ⟨34, _, by rw [showV, if_neg (by decide), if_neg (by decide), if_neg (by decide), if_pos rfl, quoT], rfl, by decide, by decide, by decide⟩
 ·exact ⟨91, _, by rw [showV, if_neg (by decide), if_neg (by decide), if_neg (by decide), if_neg (by decide), if_neg (by decide), if_neg (by decide)], rfl, by decide, by decide, by decide⟩
 ·exact ⟨123, _, by rw [showV, if_neg (by decide), if_neg (by decide), if_neg (by decide), if_neg (by decide), if_neg (by decide), if_pos rfl], rfl, by decide, by decide, by decide⟩
 ·exact ⟨35, _, by rw [showV, if_neg (by decide), if_neg (by decide), if_neg (by decide), if_neg (by decide), if_pos rfl], rfl, by decide, by decide, by decide⟩
theorem rise_names : ∀ {d : List UInt8} {ns : List (List UInt8)}, rise d ns = true → ∀ n ∈ ns, isName n = true
 | _, [], _, n, hn => by cases hn
 | d, a :: ns, h, n, hn => by
  simp only [rise, Bool.and_eq_true] at h
  rcases List.mem_cons.1 hn with rfl | hn
  ·exact h.1.2
  ·exact rise_names h.2 n hn
theorem names_no58 : ∀ {n : List UInt8} (f : Bool), inNames f n = true → ∀ c ∈ n, (c != 58) = true
 | [], _, _, c, hc => by cases hc
 | a :: r, f, h2, c, hc => by
  simp only [inNames, Bool.and_eq_true] at h2
  rcases List.mem_cons.1 hc with rfl | hc
  ·rw [bne_iff_ne]
   intro e; subst e
   have := h2.1
   cases f <;> exact absurd this (by decide)
  ·exact names_no58 false h2.2 c hc
theorem name_no58 {n : List UInt8} (h : isName n = true) : ∀ c ∈ n, (c != 58) = true := by
 simp only [isName, Bool.and_eq_true] at h
 exact names_no58 true h.2
theorem name_head2 {n : List UInt8} (h : isName n = true) : ∃ c r, n = c :: r ∧ c ≠ 125 ∧ c ≠ 44 := by
 cases n with
 | nil => simp [isName] at h
 | cons c r =>
  simp only [isName, Bool.and_eq_true, inNames] at h
  refine ⟨c, r, rfl, ?_, ?_⟩ <;> (intro e; subst e; exact absurd h.2.1 (by decide))
mutual
theorem show_inj : ∀ {v w : V}, allV v = true → allV w = true → ∀ {x y : List UInt8}, stopB x → stopB y → showV v ++ x = showV w ++ y → v = w ∧ x = y
 | .mk k n s l ns, .mk k' n' s' l' ns', hv, hw, x, y, hx, hy, h => by
  obtain ⟨c, r, e1, e2, _⟩ := show_head hv
  obtain ⟨c', r', f1, f2, _⟩ := show_head hw
  have hk : k = k' := by
   rw [e1, f1] at h
   have := (List.cons.inj h).1
   subst this
   exact e2.symm.trans f2
  clear e1 e2 f1 f2
  subst hk
  simp only [allV, Bool.and_eq_true] at hv hw
  obtain ⟨ov, av⟩ := hv
  obtain ⟨ow, aw⟩ := hw
  rcases ownB_kind' ov with rfl | rfl | rfl | rfl | rfl | rfl | rfl
  ·simp [ownB] at ov ow
   simp only [showV, if_true] at h
   have := List.append_cancel_left h
   refine ⟨?_, this⟩
   rw [ov.1, ow.1, ov.2.1.1, ow.2.1.1, ov.2.1.2, ow.2.1.2, ov.2.2, ow.2.2]
  ·simp [ownB] at ov ow
   simp only [showV, show ¬ (1 : Int) = 0 by decide, if_false, if_true] at h
   obtain ⟨h1, h2⟩ := span_inj (P := numC) (itoa_chars n).1 (itoa_chars n').1 (stop_num hx) (stop_num hy) h
   refine ⟨?_, h2⟩
   rw [itoa_inj h1, ov.1.1, ow.1.1, ov.1.2, ow.1.2, ov.2, ow.2]
  ·simp [ownB] at ov ow
   simp only [showV, show ¬ (2 : Int) = 0 by decide, show ¬ (2 : Int) = 1 by decide, if_false, if_true] at h
   have hn : n = n' ∧ x = y := by
    rcases ov.1 with rfl | rfl <;> rcases ow.1 with rfl | rfl
    ·exact ⟨rfl, List.append_cancel_left h⟩
    ·exact absurd (List.cons.inj h).1 (by decide)
    ·exact absurd (List.cons.inj h).1 (by decide)
    ·exact ⟨rfl, List.append_cancel_left h⟩
   refine ⟨?_, hn.2⟩
   rw [hn.1, ov.2.1.1, ow.2.1.1, ov.2.1.2, ow.2.1.2, ov.2.2, ow.2.2]
  ·simp [ownB] at ov ow
   simp only [showV, show ¬ (3 : Int) = 0 by decide, show ¬ (3 : Int) = 1 by decide, show ¬ (3 : Int) = 2 by decide, if_false, if_true, quoT] at h
   obtain ⟨h1, h2⟩ := quo_inj (s := s) (t := s') (x := x) (y := y) (by simpa using h)
   refine ⟨?_, h2⟩
   rw [h1, ov.1.1, ow.1.1, ov.2.1, ow.2.1, ov.2.2, ow.2.2]
  ·simp [ownB] at ov ow
   simp only [showV, show ¬ (4 : Int) = 0 by decide, show ¬ (4 : Int) = 1 by decide, show ¬ (4 : Int) = 2 by decide, show ¬ (4 : Int) = 3 by decide, show ¬ (4 : Int) = 5 by decide, show ¬ (4 : Int) = 6 by decide, if_false, if_true] at h
   obtain ⟨h1, h2⟩ := showL_inj av aw (x := x) (y := y) (by simpa using h)
   refine ⟨?_, h2⟩
   rw [h1, ov.1.1, ow.1.1, ov.2.1, ow.2.1, ov.2.2, ow.2.2]
  ·simp only [ownB, show ¬ (5 : Int) = 0 by decide, show ¬ (5 : Int) = 1 by decide, show ¬ (5 : Int) = 2 by decide, show ¬ (5 : Int) = 3 by decide, show ¬ (5 : Int) = 4 by decide, show ¬ (5 : Int) = 6 by decide, if_false, if_true, Bool.and_eq_true, beq_iff_eq, List.isEmpty_iff] at ov ow
   simp only [showV, show ¬ (5 : Int) = 0 by decide, show ¬ (5 : Int) = 1 by decide, show ¬ (5 : Int) = 2 by decide, show ¬ (5 : Int) = 3 by decide, show ¬ (5 : Int) = 6 by decide, if_false, if_true] at h
   obtain ⟨h1, h2, h3⟩ := showR_inj av aw ov.1.1.1.2 ow.1.1.1.2 (rise_names ov.2) (rise_names ow.2) (x := x) (y := y) (by simpa using h)
   refine ⟨?_, h3⟩
   rw [h1, h2, ov.1.1.1.1, ow.1.1.1.1, ov.1.2, ow.1.2]
  ·simp [ownB] at ov ow
   simp only [showV, show ¬ (6 : Int) = 0 by decide, show ¬ (6 : Int) = 1 by decide, show ¬ (6 : Int) = 2 by decide, show ¬ (6 : Int) = 3 by decide, if_false, if_true] at h
   obtain ⟨h1, h2⟩ := span_inj (P := numC) (itoa_chars n).1 (itoa_chars n').1 (stop_num hx) (stop_num hy) (List.cons.inj h).2
   refine ⟨?_, h2⟩
   rw [itoa_inj h1, ov.2.1.1, ow.2.1.1, ov.2.1.2, ow.2.1.2, ov.2.2, ow.2.2]
theorem showL_inj : ∀ {l l' : List V}, allVs l = true → allVs l' = true → ∀ {x y : List UInt8}, joinC (showL l) ++ 93 :: x = joinC (showL l') ++ 93 :: y → l = l' ∧ x = y
 | [], [], _, _, _, _, h => ⟨rfl, (List.cons.inj h).2⟩
 | [], w :: q, _, hw, x, y, h => by
  exfalso
  simp only [allVs, Bool.and_eq_true] at hw
  obtain ⟨c, r, e, _, _, hc, _⟩ := show_head hw.1
  cases q with
  | nil => simp only [showL, joinC, e] at h; exact hc (List.cons.inj h).1.symm
  | cons u q => rw [showL, showL, joinC, joinC_cons (show showL (u :: q) ≠ [] by simp [showL]), e] at h; exact hc (List.cons.inj h).1.symm
 | v :: r, [], hv, _, x, y, h => by
  exfalso
  simp only [allVs, Bool.and_eq_true] at hv
  obtain ⟨c, q, e, _, _, hc, _⟩ := show_head hv.1
  cases r with
  | nil => simp only [showL, joinC, e] at h; exact hc (List.cons.inj h).1
  | cons u r => rw [show joinC (showL (v :: u :: r)) = showV v ++ 44 :: joinC (showL (u :: r)) from joinC_cons (by simp [showL]), e] at h; exact hc (List.cons.inj h).1
 | v :: r, w :: q, hv, hw, x, y, h => by
  simp only [allVs, Bool.and_eq_true] at hv hw
  have e1 : ∀ (v : V) (r : List V) (x : List UInt8), ∃ z, joinC (showL (v :: r)) ++ 93 :: x = showV v ++ z ∧ stopB z ∧ (r = [] → z = 93 :: x) ∧ (r ≠ [] → z = 44 :: (joinC (showL r) ++ 93 :: x)) := fun v r x => by
   cases r with
   | nil => exact ⟨93 :: x, rfl, fun c r h => .inr (.inl (List.cons.inj h).1.symm), fun _ => rfl, fun h => absurd rfl h⟩
   | cons u r => exact ⟨44 :: (joinC (showL (u :: r)) ++ 93 :: x), by rw [show joinC (showL (v :: u :: r)) = showV v ++ 44 :: joinC (showL (u :: r)) from joinC_cons (by simp [showL])]; simp, fun c r h => .inl (List.cons.inj h).1.symm, fun h => (by cases h), fun _ => rfl⟩
  obtain ⟨z, a1, a2, a3, a4⟩ := e1 v r x
  obtain ⟨z', b1, b2, b3, b4⟩ := e1 w q y
  rw [a1, b1] at h
  obtain ⟨h1, h2⟩ := show_inj hv.1 hw.1 a2 b2 h
  by_cases hr : r = []
  ·by_cases hq : q = []
   ·rw [a3 hr, b3 hq] at h2
    exact ⟨by rw [h1, hr, hq], (List.cons.inj h2).2⟩
   ·rw [a3 hr, b4 hq] at h2
    exact absurd (List.cons.inj h2).1 (by decide)
  ·by_cases hq : q = []
   ·rw [a4 hr, b3 hq] at h2
    exact absurd (List.cons.inj h2).1 (by decide)
   ·rw [a4 hr, b4 hq] at h2
    obtain ⟨h3, h4⟩ := showL_inj hv.2 hw.2 (List.cons.inj h2).2
    exact ⟨by rw [h1, h3], h4⟩
theorem showR_inj : ∀ {l l' : List V}, allVs l = true → allVs l' = true → ∀ {ns ns' : List (List UInt8)}, l.length = ns.length → l'.length = ns'.length → (∀ n ∈ ns, isName n = true) → (∀ n ∈ ns', isName n = true) → ∀ {x y : List UInt8}, joinC (showR ns l) ++ 125 :: x = joinC (showR ns' l') ++ 125 :: y → l = l' ∧ ns = ns' ∧ x = y
 | [], [], _, _, ns, ns', h1, h2, _, _, _, _, h => ⟨rfl, by rw [List.length_eq_zero_iff.1 h1.symm, List.length_eq_zero_iff.1 h2.symm], (List.cons.inj h).2⟩
 | [], w :: q, _, _, _, [], _, h2, _, _, _, _, _ => by simp at h2
 | [], w :: q, _, _, ns, b :: ns', _, _, _, hn, x, y, h => by
  exfalso
  obtain ⟨c, r, e, hc, _⟩ := name_head2 (hn b (by simp))
  cases q with
  | nil => rw [showR, showR, showR, joinC, joinC, List.headD_cons, e] at h; exact hc (List.cons.inj h).1.symm
  | cons u q => rw [showR, showR, joinC, joinC_cons (show showR (b :: ns').tail (u :: q) ≠ [] by simp [showR]), List.headD_cons, e] at h; exact hc (List.cons.inj h).1.symm
 | v :: r, [], _, _, [], _, h1, _, _, _, _, _, _ => by simp at h1
 | v :: r, [], _, _, a :: ns, ns', _, _, hn, _, x, y, h => by
  exfalso
  obtain ⟨c, q, e, hc, _⟩ := name_head2 (hn a (by simp))
  cases r with
  | nil => rw [showR, showR, showR, joinC, joinC, List.headD_cons, e] at h; exact hc (List.cons.inj h).1
  | cons u r => rw [show joinC (showR (a :: ns) (v :: u :: r)) = (a ++ 58 :: showV v) ++ 44 :: joinC (showR ns (u :: r)) from joinC_cons (by simp [showR]), e] at h; exact hc (List.cons.inj h).1
 | v :: r, w :: q, _, _, [], _, h1, _, _, _, _, _, _ => by simp at h1
 | v :: r, w :: q, _, _, _ :: _, [], _, h2, _, _, _, _, _ => by simp at h2
 | v :: r, w :: q, hv, hw, a :: ns, b :: ns', l1, l2, hn, hn', x, y, h => by
  simp only [allVs, Bool.and_eq_true] at hv hw
  have e1 : ∀ (a : List UInt8) (ns : List (List UInt8)) (v : V) (r : List V) (x : List UInt8), ∃ z, joinC (showR (a :: ns) (v :: r)) ++ 125 :: x = a ++ (58 :: (showV v ++ z)) ∧ stopB z ∧ (r = [] → z = 125 :: x) ∧ (r ≠ [] → z = 44 :: (joinC (showR ns r) ++ 125 :: x)) := fun a ns v r x => by
   cases r with
   | nil => exact ⟨125 :: x, by simp [showR, joinC], fun c r h => .inr (.inr (List.cons.inj h).1.symm), fun _ => rfl, fun h => absurd rfl h⟩
   | cons u r => exact ⟨44 :: (joinC (showR ns (u :: r)) ++ 125 :: x), by rw [show joinC (showR (a :: ns) (v :: u :: r)) = (a ++ 58 :: showV v) ++ 44 :: joinC (showR ns (u :: r)) from joinC_cons (by simp [showR])]; simp, fun c r h => .inl (List.cons.inj h).1.symm, fun h => (by cases h), fun _ => rfl⟩
  obtain ⟨z, a1, a2, a3, a4⟩ := e1 a ns v r x
  obtain ⟨z', b1, b2, b3, b4⟩ := e1 b ns' w q y
  rw [a1, b1] at h
  have p58 : ∀ (t : List UInt8) (c : UInt8) (r : List UInt8), 58 :: t = c :: r → (c != 58) = false := fun t c r e => by rw [← (List.cons.inj e).1]; rfl
  obtain ⟨h0, h⟩ := span_inj (P := fun c => c != 58) (name_no58 (hn a (by simp))) (name_no58 (hn' b (by simp))) (p58 _) (p58 _) h
  obtain ⟨h1, h2⟩ := show_inj hv.1 hw.1 a2 b2 (List.cons.inj h).2
  have m1 : r.length = ns.length := by simpa using l1
  have m2 : q.length = ns'.length := by simpa using l2
  by_cases hr : r = []
  ·by_cases hq : q = []
   ·rw [a3 hr, b3 hq] at h2
    rw [hr] at m1
    rw [hq] at m2
    exact ⟨by rw [h1, hr, hq], by rw [h0, List.length_eq_zero_iff.1 m1.symm, List.length_eq_zero_iff.1 m2.symm], (List.cons.inj h2).2⟩
   ·rw [a3 hr, b4 hq] at h2
    exact absurd (List.cons.inj h2).1 (by decide)
  ·by_cases hq : q = []
   ·rw [a4 hr, b3 hq] at h2
    exact absurd (List.cons.inj h2).1 (by decide)
   ·rw [a4 hr, b4 hq] at h2
    obtain ⟨h3, h4, h5⟩ := showR_inj hv.2 hw.2 m1 m2 (fun n h => hn n (by simp [h])) (fun n h => hn' n (by simp [h])) (List.cons.inj h2).2
    exact ⟨by rw [h1, h3], by rw [h0, h4], h5⟩
end
theorem shown_same {v w : V} (hv : allV v = true) (hw : allV w = true) : (showV v == showV w) = sameV v w := by
 rw [Bool.eq_iff_iff, beq_iff_eq, sameV, beq_iff_eq]
 constructor
 ·intro h
  have hs : stopB [] := fun c r h => by cases h
  have := (show_inj hv hw hs hs (by rw [h])).1
  subst this
  exact cmpV_self v
 ·intro h
  rw [cmpV_eq h]
theorem show_ne {v : V} (hv : allV v = true) : showV v ≠ [] := by
 obtain ⟨c, r, e, _⟩ := show_head hv
 rw [e]; simp
end Go.Vc
