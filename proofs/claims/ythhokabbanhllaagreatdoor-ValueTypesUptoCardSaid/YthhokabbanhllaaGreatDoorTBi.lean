/- What is proved here: contracts of functions of the program: of each function what it hands back and what it leaves in memory. Conditions: those that each theorem names. -/
import Derived.Test.YthhokabbanhllaaGreatDoorTBg
import Derived.Test.YthhokabbanhllaaGreatDoorTBh
set_option linter.unusedVariables false
set_option linter.unusedSimpArgs false
set_option linter.unusedSectionVars false
namespace Go.Vc
open Go Go.Proofs
set_option maxRecDepth 100000
theorem read_all : ∀ n, ReadC n ∧ RecC n := by
 intro n
 induction n using Nat.strongRecOn with
 | _ n ih =>
  have hr : ReadC n := by
   cases n with
   | zero => intro t ht; omega
   | succ n => exact read_step (ih n (by omega)).1 (ih n (by omega)).2
  exact ⟨hr, rec_step fun m hm => (ih m hm).1⟩
theorem typed_spec (s : List UInt8) (hl : s.length ≤ 1000000000) (Post : PV → List (Nat × Blk) → Prop) (h : ∀ k z1 L1 z2 L2, (fitsT s = true → ShP (treeT s) (shp k z1 L1 z2 L2)) → Post (.tup [shp k z1 L1 z2 L2, .bool (fitsT s)]) []) : Spec K 45 [.str s] [] Post := by
 refine is45.specW K_ok K_mix false (by simp) (by simp [keys]) ?_
 (conv => whnf); repeat ((first | (apply And.intro;· exact Cl4) | apply T1 | apply T2 | apply T3 | apply T4 | apply T6 | apply T5); conv => whnf)
 by_cases h64 : 64 < s.length
 ·rw [decide_eq_true (show (64 : Int) < (s.length : Int) by omega)]
  have hf : fitsT s = false := by unfold fitsT; rw [decide_eq_false (show ¬ s.length ≤ 64 by omega)]; rfl
  rw [hf] at h
  (conv => whnf); repeat ((first | (apply And.intro;· exact Cl4) | apply T1 | apply T2 | apply T3 | apply T4 | apply T6 | apply T5); conv => whnf)
  (conv => whnf); repeat' (first | ((first | (apply And.intro;· exact Cl4) | apply T1 | apply T2 | apply T3 | apply T4 | apply T6 | apply T5); conv => whnf) | (fail; conv => whnf) | ((refine Both.mk ?_ ?_ <;> fail_if_success (intro _)) <;> conv => whnf))
  all_goals exact h _ _ _ _ _ (fun h => by cases h)
 ·rw [decide_eq_false (show ¬ (64 : Int) < (s.length : Int) by omega)]
  have hf : fitsT s = ((readM (2 * s.length + 1) s).2 && (readM (2 * s.length + 1) s).1.isEmpty) := by unfold fitsT; rw [decide_eq_true (show s.length ≤ 64 by omega)]; rfl
  (conv => whnf); repeat ((first | (apply And.intro;· exact Cl4) | apply T1 | apply T2 | apply T3 | apply T4 | apply T6 | apply T5); conv => whnf)
  refine (read_all (2 * s.length + 1)).1 s (Nat.le_refl _) (by omega) _ (fun k z1 L1 z2 L2 hsh => ?_)
  have h := h k z1 L1 z2 L2 (fun hfit => by
   rw [hf, Bool.and_eq_true, List.isEmpty_iff] at hfit
   obtain ⟨x, w, g1, g2, g3⟩ := hsh hfit.1
   rw [hfit.2, List.append_nil] at g2
   rw [g2, tree_of g1]; exact g3)
  rw [hf] at h
  clear hf hsh
  generalize readM (2 * s.length + 1) s = x at h
  obtain ⟨l, ok⟩ := x
  (conv => whnf); repeat ((first | (apply And.intro;· exact Cl4) | apply T1 | apply T2 | apply T3 | apply T4 | apply T6 | apply T5); conv => whnf)
  (conv => whnf); repeat' (first | ((first | (apply And.intro;· exact Cl4) | apply T1 | apply T2 | apply T3 | apply T4 | apply T6 | apply T5); conv => whnf) | (fail; conv => whnf) | ((refine Both.mk ?_ ?_ <;> fail_if_success (intro _)) <;> conv => whnf))
  all_goals (cases ok <;> cases l <;> exact h)
def FitsC : Prop := ∀ s : List UInt8, s.length ≤ 1000000000 → ∀ Post : PV → List (Nat × Blk) → Prop, Post (.bool (fitsT s)) [] → Spec K 24 [.str s] [] Post
theorem fits_all : FitsC := by
 intro s hl Post h
 refine is24.specW K_ok K_mix false (by simp) (by simp [keys]) ?_
 (conv => whnf); repeat ((first | (apply And.intro;· exact Cl4) | apply T1 | apply T2 | apply T3 | apply T4 | apply T6 | apply T5); conv => whnf)
 refine typed_spec s hl _ (fun k z1 L1 z2 L2 _ => ?_)
 (conv => whnf); repeat ((first | (apply And.intro;· exact Cl4) | apply T1 | apply T2 | apply T3 | apply T4 | apply T6 | apply T5); conv => whnf)
 exact h
end Go.Vc
