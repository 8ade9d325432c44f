/- What is proved here: contracts of functions of the program: of each function what it hands back and what it leaves in memory. Conditions: those that each theorem names. -/
import Derived.Test.YthhokabbanhllaaGreatDoorTAq
set_option linter.unusedVariables false
set_option linter.unusedSimpArgs false
set_option linter.unusedSectionVars false
namespace Go.Vc
open Go Go.Proofs
set_option maxRecDepth 100000
theorem cmpI_eq {a b : Int} : cmpI a b = 0 ↔ a = b := ⟨fun h => Classical.byContradiction fun hn => cmpI_ne hn h, fun h => by subst h; simp [cmpI]⟩
theorem cmpI_anti (a b : Int) : cmpI b a = - cmpI a b := by
 unfold cmpI
 split <;> split <;> first | omega | (split <;> omega) | rfl | skip
theorem bl_irr : ∀ a : List UInt8, Op.bytesLess a a = false
 | [] => rfl
 | a :: r => by simp [Op.bytesLess, bl_irr r]
theorem bl_tot : ∀ {a b : List UInt8}, Op.bytesLess a b = false → a ≠ b → Op.bytesLess b a = true
 | [], [], _, h => absurd rfl h
 | [], _ :: _, h, _ => by simp [Op.bytesLess] at h
 | _ :: _, [], _, _ => rfl
 | a :: r, b :: q, h, hn => by
  simp only [Op.bytesLess, Bool.or_eq_false_iff, decide_eq_false_iff_not] at h ⊢
  by_cases e : a = b
  ·subst e
   have h2 : Op.bytesLess r q = false := by simpa using h.2
   have := bl_tot h2 (fun e => hn (by rw [e]))
   simp [this]
  ·have : b < a := by
    have h1 := h.1
    rcases UInt8.lt_or_lt_of_ne e with h3 | h3
    ·exact absurd h3 h1
    ·exact h3
   simp [this]
theorem bl_asym : ∀ {a b : List UInt8}, Op.bytesLess a b = true → Op.bytesLess b a = false
 | _, [], h => by simp [Op.bytesLess] at h
 | [], _ :: _, _ => rfl
 | a :: r, b :: q, h => by
  simp only [Op.bytesLess, Bool.or_eq_true, decide_eq_true_eq, Bool.and_eq_true, beq_iff_eq] at h
  simp only [Op.bytesLess, Bool.or_eq_false_iff, decide_eq_false_iff_not]
  rcases h with h | ⟨rfl, h⟩
  ·refine ⟨fun h2 => ?_, ?_⟩
   ·exact absurd (UInt8.lt_trans h h2) (UInt8.lt_irrefl _)
   ·have : ¬ b = a := fun e => by subst e; exact absurd h (UInt8.lt_irrefl _)
    simp [this]
  ·exact ⟨UInt8.lt_irrefl _, by simp [bl_asym h]⟩
theorem cmpS_eq {a b : List UInt8} : cmpS a b = 0 ↔ a = b := ⟨fun h => Classical.byContradiction fun hn => cmpS_ne hn h, fun h => by subst h; simp [cmpS, bl_irr]⟩
theorem cmpS_anti (a b : List UInt8) : cmpS b a = - cmpS a b := by
 by_cases e : a = b
 ·subst e; rw [cmpS_eq.2 rfl]; rfl
 ·cases h : Op.bytesLess a b with
  | true =>
   have h2 := bl_asym h
   have e2 : ¬ b = a := fun e2 => e e2.symm
   simp [cmpS, h, h2, e2]
  | false =>
   have h2 := bl_tot h e
   simp [cmpS, h, h2, e]
theorem cmpNs_anti : ∀ a b : List (List UInt8), cmpNs b a = - cmpNs a b
 | [], [] => rfl
 | [], _ :: _ => rfl
 | _ :: _, [] => rfl
 | a :: r, b :: q => by
  rw [cmpNs, cmpNs]
  by_cases e : a = b
  ·rw [if_pos e, if_pos e.symm]; exact cmpNs_anti r q
  ·rw [if_neg e, if_neg (fun h => e h.symm)]; exact cmpS_anti a b
mutual
theorem cmpV_anti : ∀ v w : V, cmpV w v = - cmpV v w
 | .mk k n s l ns, .mk k' n' s' l' ns' => by
  rw [cmpV_mk, cmpV_mk]
  by_cases h1 : k = k'
  ·subst h1
   rw [if_neg (show ¬ k ≠ k from fun h => h rfl), if_neg (show ¬ k ≠ k from fun h => h rfl)]
   by_cases h2 : n = n'
   ·subst h2
    rw [if_neg (show ¬ n ≠ n from fun h => h rfl), if_neg (show ¬ n ≠ n from fun h => h rfl)]
    by_cases h3 : s = s'
    ·subst h3
     rw [if_neg (show ¬ s ≠ s from fun h => h rfl), if_neg (show ¬ s ≠ s from fun h => h rfl)]
     by_cases h4 : cmpNs ns ns' = 0
     ·have h5 : cmpNs ns' ns = 0 := by rw [cmpNs_anti, h4]; rfl
      rw [if_neg (show ¬ cmpNs ns' ns ≠ 0 from fun h => h h5), if_neg (show ¬ cmpNs ns ns' ≠ 0 from fun h => h h4)]
      exact cmpVs_anti l l'
     ·have h5 : cmpNs ns' ns ≠ 0 := by rw [cmpNs_anti]; omega
      rw [if_pos h5, if_pos h4]
      exact cmpNs_anti ns ns'
    ·rw [if_pos (show s' ≠ s from fun h => h3 h.symm), if_pos h3]; exact cmpS_anti s s'
   ·rw [if_pos (show n' ≠ n from fun h => h2 h.symm), if_pos h2]; exact cmpI_anti n n'
  ·rw [if_pos (show k' ≠ k from fun h => h1 h.symm), if_pos h1]; exact cmpI_anti k k'
theorem cmpVs_anti : ∀ a b : List V, cmpVs b a = - cmpVs a b
 | [], [] => by simp [cmpVs]
 | [], _ :: _ => by simp [cmpVs]
 | _ :: _, [] => by simp [cmpVs]
 | v :: r, w :: q => by
  rw [cmpVs, cmpVs]
  have h := cmpV_anti v w
  by_cases h1 : cmpV v w = 0
  ·have h2 : cmpV w v = 0 := by rw [h, h1]; rfl
   rw [if_neg (show ¬ cmpV w v ≠ 0 from fun h => h h2), if_neg (show ¬ cmpV v w ≠ 0 from fun h => h h1)]
   exact cmpVs_anti r q
  ·have h2 : cmpV w v ≠ 0 := by omega
   rw [if_pos h2, if_pos h1]; exact h
end
theorem cmpV_self (v : V) : cmpV v v = 0 := by have := cmpV_anti v v; omega
end Go.Vc
