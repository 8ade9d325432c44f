/- What is proved here: contracts of functions of the program: of each function what it hands back and what it leaves in memory. Conditions: those that each theorem names. -/
import Derived.Lib.ItoaNum
import Derived.Test.YthhokabbanhllaaDoorTAp
set_option linter.unusedVariables false
set_option linter.unusedSimpArgs false
set_option linter.unusedSectionVars false
namespace Go.Vc
open Go Go.Proofs
set_option maxRecDepth 100000
theorem cmpI_eq {a b : Int} : cmpI a b = 0 ↔ a = b := ⟨fun h => Classical.byContradiction fun hn => cmpI_ne hn h, fun h => by subst h; simp [cmpI]⟩
theorem cmpI_anti (a b : Int) : cmpI b a = - cmpI a b := by
 unfold cmpI
 split <;> split <;> first | omega | (split <;> omega) | rfl | skip
theorem cmpI_lt {a b : Int} : cmpI a b < 0 ↔ a < b := by
 unfold cmpI
 split
 ·simpa
 ·split <;> simp <;> omega
theorem bl_irr : ∀ a : List UInt8, Op.bytesLess a a = false
 | [] => rfl
 | a :: r => by simp [Op.bytesLess, bl_irr r]
theorem bl_tot : ∀ {a b : List UInt8}, Op.bytesLess a b = false → a ≠ b → Op.bytesLess b a = true
 | [], [], _, h => absurd rfl h
 | [], _ :: _, h, _ => by simp [Op.bytesLess] at h
 | _ :: _, [], _, _ => rfl
 | a :: r, b :: q, h, hn => by
  simp only [Op.bytesLess, Bool.or_eq_false_iff, decide_eq_false_iff_not] at h ⊢
  by_cases e : a = b
  ·subst e
   have h2 : Op.bytesLess r q = false := by simpa using h.2
   have := bl_tot h2 (fun e => hn (by rw [e]))
   simp [this]
  ·have : b < a := by
    have h1 := h.1
    rcases UInt8.lt_or_lt_of_ne e with h3 | h3
    ·exact absurd h3 h1
    ·exact h3
   simp [this]
theorem bl_asym : ∀ {a b : List UInt8}, Op.bytesLess a b = true → Op.bytesLess b a = false
 | _, [], h => by simp [Op.bytesLess] at h
 | [], _ :: _, _ => rfl
 | a :: r, b :: q, h => by
  simp only [Op.bytesLess, Bool.or_eq_true, decide_eq_true_eq, Bool.and_eq_true, beq_iff_eq] at h
  simp only [Op.bytesLess, Bool.or_eq_false_iff, decide_eq_false_iff_not]
  rcases h with h | ⟨rfl, h⟩
  ·refine ⟨fun h2 => ?_, ?_⟩
   ·exact absurd (UInt8.lt_trans h h2) (UInt8.lt_irrefl _)
   ·have : ¬ b = a := fun e => by subst e; exact absurd h (UInt8.lt_irrefl _)
    simp [this]
  ·exact ⟨UInt8.lt_irrefl _, by simp [bl_asym h]⟩
theorem bl_trans : ∀ {a b c : List UInt8}, Op.bytesLess a b = true → Op.bytesLess b c = true → Op.bytesLess a c = true
 | _, [], _, h, _ => by simp [Op.bytesLess] at h
 | _, _ :: _, [], _, h => by simp [Op.bytesLess] at h
 | [], _ :: _, _ :: _, _, _ => rfl
 | a :: r, b :: q, c :: t, h, h2 => by
  simp only [Op.bytesLess, Bool.or_eq_true, decide_eq_true_eq, Bool.and_eq_true, beq_iff_eq] at h h2 ⊢
  rcases h with h | ⟨rfl, h⟩
  ·rcases h2 with h2 | ⟨rfl, h2⟩
   ·exact .inl (UInt8.lt_trans h h2)
   ·exact .inl h
  ·rcases h2 with h2 | ⟨rfl, h2⟩
   ·exact .inl h2
   ·exact .inr ⟨rfl, bl_trans h h2⟩
theorem cmpS_lt {a b : List UInt8} : cmpS a b < 0 ↔ Op.bytesLess a b = true := by
 unfold cmpS
 split
 ·simpa
 ·split <;> simp_all
theorem cmpS_eq {a b : List UInt8} : cmpS a b = 0 ↔ a = b := ⟨fun h => Classical.byContradiction fun hn => cmpS_ne hn h, fun h => by subst h; simp [cmpS, bl_irr]⟩
theorem cmpS_anti (a b : List UInt8) : cmpS b a = - cmpS a b := by
 by_cases e : a = b
 ·subst e; rw [cmpS_eq.2 rfl]; rfl
 ·cases h : Op.bytesLess a b with
  | true =>
   have h2 := bl_asym h
   have e2 : ¬ b = a := fun e2 => e e2.symm
   simp [cmpS, h, h2, e2]
  | false =>
   have h2 := bl_tot h e
   simp [cmpS, h, h2, e]
theorem cmpNs_anti : ∀ a b : List (List UInt8), cmpNs b a = - cmpNs a b
 | [], [] => rfl
 | [], _ :: _ => rfl
 | _ :: _, [] => rfl
 | a :: r, b :: q => by
  rw [cmpNs, cmpNs]
  by_cases e : a = b
  ·rw [if_pos e, if_pos e.symm]; exact cmpNs_anti r q
  ·rw [if_neg e, if_neg (fun h => e h.symm)]; exact cmpS_anti a b
theorem cmpNs_trans : ∀ {a b c : List (List UInt8)}, cmpNs a b < 0 → cmpNs b c < 0 → cmpNs a c < 0
 | [], [], _, h, _ => by simp [cmpNs] at h
 | [], _ :: _, [], _, h => by simp [cmpNs] at h
 | [], _ :: _, _ :: _, _, _ => by simp [cmpNs]
 | _ :: _, [], _, h, _ => by simp [cmpNs] at h
 | _ :: _, _ :: _, [], _, h => by simp [cmpNs] at h
 | a :: r, b :: q, c :: t, h, h2 => by
  rw [cmpNs] at h h2 ⊢
  by_cases e : a = b
  ·subst e
   rw [if_pos rfl] at h
   by_cases e2 : a = c
   ·rw [if_pos e2] at h2 ⊢; exact cmpNs_trans h h2
   ·rw [if_neg e2] at h2 ⊢; exact h2
  ·rw [if_neg e] at h
   by_cases e2 : b = c
   ·subst e2; rw [if_neg e]; exact h
   ·rw [if_neg e2] at h2
    have h3 := bl_trans (cmpS_lt.1 h) (cmpS_lt.1 h2)
    have e3 : ¬ a = c := fun e3 => by subst e3; rw [bl_irr] at h3; cases h3
    rw [if_neg e3]; exact cmpS_lt.2 h3
mutual
theorem cmpV_eq : ∀ {v w : V}, cmpV v w = 0 → v = w
 | .mk k n s l ns, .mk k' n' s' l' ns', h => by
  rw [cmpV_mk] at h
  by_cases h1 : k = k'
  ·rw [if_neg (fun h => h h1)] at h
   by_cases h2 : n = n'
   ·rw [if_neg (fun h => h h2)] at h
    by_cases h3 : s = s'
    ·rw [if_neg (fun h => h h3)] at h
     by_cases h4 : cmpNs ns ns' = 0
     ·rw [if_neg (fun h => h h4)] at h
      rw [h1, h2, h3, cmpNs_eq.1 h4, cmpVs_eq h]
     ·rw [if_pos h4] at h; exact absurd h h4
    ·rw [if_pos h3] at h; exact absurd h (cmpS_ne h3)
   ·rw [if_pos h2] at h; exact absurd h (cmpI_ne h2)
  ·rw [if_pos h1] at h; exact absurd h (cmpI_ne h1)
theorem cmpVs_eq : ∀ {a b : List V}, cmpVs a b = 0 → a = b
 | [], [], _ => rfl
 | [], _ :: _, h => by simp [cmpVs] at h
 | _ :: _, [], h => by simp [cmpVs] at h
 | v :: r, w :: q, h => by
  rw [cmpVs] at h
  by_cases h1 : cmpV v w = 0
  ·rw [if_neg (fun h => h h1)] at h
   rw [cmpV_eq h1, cmpVs_eq h]
  ·rw [if_pos h1] at h; exact absurd h h1
end
mutual
theorem cmpV_anti : ∀ v w : V, cmpV w v = - cmpV v w
 | .mk k n s l ns, .mk k' n' s' l' ns' => by
  rw [cmpV_mk, cmpV_mk]
  by_cases h1 : k = k'
  ·subst h1
   rw [if_neg (show ¬ k ≠ k from fun h => h rfl), if_neg (show ¬ k ≠ k from fun h => h rfl)]
   by_cases h2 : n = n'
   ·subst h2
    rw [if_neg (show ¬ n ≠ n from fun h => h rfl), if_neg (show ¬ n ≠ n from fun h => h rfl)]
    by_cases h3 : s = s'
    ·subst h3
     rw [if_neg (show ¬ s ≠ s from fun h => h rfl), if_neg (show ¬ s ≠ s from fun h => h rfl)]
     by_cases h4 : cmpNs ns ns' = 0
     ·have h5 : cmpNs ns' ns = 0 := by rw [cmpNs_anti, h4]; rfl
      rw [if_neg (show ¬ cmpNs ns' ns ≠ 0 from fun h => h h5), if_neg (show ¬ cmpNs ns ns' ≠ 0 from fun h => h h4)]
      exact cmpVs_anti l l'
     ·have h5 : cmpNs ns' ns ≠ 0 := by rw [cmpNs_anti]; omega
      rw [if_pos h5, if_pos h4]
      exact cmpNs_anti ns ns'
    ·rw [if_pos (show s' ≠ s from fun h => h3 h.symm), if_pos h3]; exact cmpS_anti s s'
   ·rw [if_pos (show n' ≠ n from fun h => h2 h.symm), if_pos h2]; exact cmpI_anti n n'
  ·rw [if_pos (show k' ≠ k from fun h => h1 h.symm), if_pos h1]; exact cmpI_anti k k'
theorem cmpVs_anti : ∀ a b : List V, cmpVs b a = - cmpVs a b
 | [], [] => by simp [cmpVs]
 | [], _ :: _ => by simp [cmpVs]
 | _ :: _, [] => by simp [cmpVs]
 | v :: r, w :: q => by
  rw [cmpVs, cmpVs]
  have h := cmpV_anti v w
  by_cases h1 : cmpV v w = 0
  ·have h2 : cmpV w v = 0 := by rw [h, h1]; rfl
   rw [if_neg (show ¬ cmpV w v ≠ 0 from fun h => h h2), if_neg (show ¬ cmpV v w ≠ 0 from fun h => h h1)]
   exact cmpVs_anti r q
  ·have h2 : cmpV w v ≠ 0 := by omega
   rw [if_pos h2, if_pos h1]; exact h
end
mutual
theorem cmpV_trans : ∀ {u v w : V}, cmpV u v < 0 → cmpV v w < 0 → cmpV u w < 0
 | .mk k n s l ns, .mk k' n' s' l' ns', .mk k2 n2 s2 l2 ns2, h, g => by
  rw [cmpV_mk] at h g ⊢
  by_cases h1 : k = k'
  ·subst h1
   rw [if_neg (fun h => h rfl)] at h
   by_cases g1 : k = k2
   ·rw [if_neg (fun h => h g1)] at g
    rw [if_neg (fun h => h g1)]
    by_cases h2 : n = n'
    ·subst h2
     rw [if_neg (fun h => h rfl)] at h
     by_cases g2 : n = n2
     ·rw [if_neg (fun h => h g2)] at g
      rw [if_neg (fun h => h g2)]
      by_cases h3 : s = s'
      ·subst h3
       rw [if_neg (fun h => h rfl)] at h
       by_cases g3 : s = s2
       ·rw [if_neg (fun h => h g3)] at g
        rw [if_neg (fun h => h g3)]
        by_cases h4 : cmpNs ns ns' = 0
        ·rw [if_neg (fun h => h h4)] at h
         have := cmpNs_eq.1 h4
         subst this
         by_cases g4 : cmpNs ns ns2 = 0
         ·rw [if_neg (fun h => h g4)] at g
          rw [if_neg (fun h => h g4)]
          exact cmpVs_trans h g
         ·rw [if_pos g4] at g
          rw [if_pos g4]; exact g
        ·rw [if_pos h4] at h
         by_cases g4 : cmpNs ns' ns2 = 0
         ·have := cmpNs_eq.1 g4
          subst this
          rw [if_pos h4]; exact h
         ·rw [if_pos g4] at g
          have := cmpNs_trans h g
          rw [if_pos (by omega)]; exact this
       ·rw [if_pos g3] at g
        rw [if_pos g3]; exact g
      ·rw [if_pos h3] at h
       by_cases g3 : s' = s2
       ·subst g3; rw [if_pos h3]; exact h
       ·rw [if_pos g3] at g
        have h4 := bl_trans (cmpS_lt.1 h) (cmpS_lt.1 g)
        rw [if_pos (fun e => by subst e; rw [bl_irr] at h4; cases h4)]; exact cmpS_lt.2 h4
     ·rw [if_pos g2] at g
      rw [if_pos g2]; exact g
    ·rw [if_pos h2] at h
     by_cases g2 : n' = n2
     ·subst g2; rw [if_pos h2]; exact h
     ·rw [if_pos g2] at g
      have h4 := cmpI_lt.1 h
      have g4 := cmpI_lt.1 g
      rw [if_pos (by omega)]; exact cmpI_lt.2 (by omega)
   ·rw [if_pos g1] at g
    rw [if_pos g1]; exact g
  ·rw [if_pos h1] at h
   by_cases g1 : k' = k2
   ·subst g1; rw [if_pos h1]; exact h
   ·rw [if_pos g1] at g
    have h4 := cmpI_lt.1 h
    have g4 := cmpI_lt.1 g
    rw [if_pos (by omega)]; exact cmpI_lt.2 (by omega)
theorem cmpVs_trans : ∀ {a b c : List V}, cmpVs a b < 0 → cmpVs b c < 0 → cmpVs a c < 0
 | [], [], _, h, _ => by simp [cmpVs] at h
 | [], _ :: _, [], _, h => by simp [cmpVs] at h
 | [], _ :: _, _ :: _, _, _ => by simp [cmpVs]
 | _ :: _, [], _, h, _ => by simp [cmpVs] at h
 | _ :: _, _ :: _, [], _, h => by simp [cmpVs] at h
 | u :: p, v :: r, w :: q, h, g => by
  rw [cmpVs] at h g ⊢
  by_cases h1 : cmpV u v = 0
  ·rw [if_neg (fun h => h h1)] at h
   have := cmpV_eq h1
   subst this
   by_cases g1 : cmpV u w = 0
   ·rw [if_neg (fun h => h g1)] at g
    rw [if_neg (fun h => h g1)]
    exact cmpVs_trans h g
   ·rw [if_pos g1] at g
    rw [if_pos g1]; exact g
  ·rw [if_pos h1] at h
   by_cases g1 : cmpV v w = 0
   ·have := cmpV_eq g1
    subst this
    rw [if_pos h1]; exact h
   ·rw [if_pos g1] at g
    have := cmpV_trans h g
    rw [if_pos (by omega)]; exact this
end
theorem cmpV_self (v : V) : cmpV v v = 0 := by have := cmpV_anti v v; omega
def lineB (a b c : V) : Bool :=
 (cmpV b a == - cmpV a b && ((cmpV a b == 0) == sameV a b) && (cmpV a a == 0)) && (decide (0 < cmpV a b) || decide (0 < cmpV b c) || decide (cmpV a c ≤ 0)) && (decide (0 ≤ cmpV a b) || decide (0 < cmpV b c) || decide (cmpV a c < 0))
theorem line_holds (a b c : V) : lineB a b c = true := by
 have h1 := cmpV_anti a b
 have h2 := cmpV_self a
 have h3 : cmpV a b < 0 → cmpV b c < 0 → cmpV a c < 0 := cmpV_trans
 have h4 : cmpV a b = 0 → cmpV a c = cmpV b c := fun h => by rw [cmpV_eq h]
 have h5 : cmpV b c = 0 → cmpV a c = cmpV a b := fun h => by rw [cmpV_eq h]
 simp only [lineB, sameV, Bool.and_eq_true, Bool.or_eq_true, decide_eq_true_eq, beq_iff_eq]
 refine ⟨⟨⟨⟨h1, trivial⟩, h2⟩, ?_⟩, ?_⟩ <;> omega
end Go.Vc
namespace Go.Vc
open Go Go.Proofs
set_option maxRecDepth 100000
def hexD (n : Nat) : UInt8 := UInt8.ofNat (if n < 10 then 48 + n else 87 + n)
def escB (c : UInt8) : Bool := decide (c.toNat < 32) || decide (126 < c.toNat) || c.toNat == 34 || c.toNat == 92
def quoC (c : UInt8) : List UInt8 := if escB c = true then [92, hexD (c.toNat / 16), hexD (c.toNat % 16)] else [c]
def quoT (s : List UInt8) : List UInt8 := 34 :: (s.flatMap quoC ++ [34])
def joinC : List (List UInt8) → List UInt8
 | [] => []
 | [a] => a
 | a :: r => a ++ 44 :: joinC r
mutual
def showV : V → List UInt8
 | .mk k n s l ns => if k = 0 then [110, 111, 110, 101] else if k = 1 then Lib.itoa n else if k = 2 then (if n = 1 then [116, 114, 117, 101] else [102, 97, 108, 115, 101]) else if k = 3 then quoT s
  else if k = 6 then 35 :: Lib.itoa n else if k = 5 then 123 :: (joinC (showR ns l) ++ [125]) else 91 :: (joinC (showL l) ++ [93])
def showL : List V → List (List UInt8)
 | [] => []
 | v :: r => showV v :: showL r
def showR : List (List UInt8) → List V → List (List UInt8)
 | _, [] => []
 | ns, v :: r => (ns.headD [] ++ 58 :: showV v) :: showR ns.tail r
end
theorem joinC_cons {a : List UInt8} {r : List (List UInt8)} (h : r ≠ []) : joinC (a :: r) = a ++ 44 :: joinC r := by
 cases r with
 | nil => exact absurd rfl h
 | cons b q => rfl
end Go.Vc
