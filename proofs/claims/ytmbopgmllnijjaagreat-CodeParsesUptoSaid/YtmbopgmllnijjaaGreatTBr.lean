/- What is proved here: contracts of functions of the program: of each function what it hands back and what it leaves in memory. Conditions: those that each theorem names. -/
import Derived.Test.YtmbopgmllnijjaaGreatTBq
import Derived.Test.YtmbopgmllnijjaaGreatTAq
import Derived.Test.YtmbopgmllnijjaaGreatTBi
import Derived.Test.YtmbopgmllnijjaaGreatTBn
set_option linter.unusedVariables false
set_option linter.unusedSimpArgs false
set_option linter.unusedSectionVars false
namespace Go.Vc
open Go Go.Proofs
set_option maxRecDepth 100000
theorem read_all : ∀ n, ReadC n ∧ RecC n := by
 intro n
 induction n using Nat.strongRecOn with
 | _ n ih =>
  have hr : ReadC n := by
   cases n with
   | zero => intro t ht; omega
   | succ n => exact read_step (ih n (by omega)).1 (ih n (by omega)).2
  exact ⟨hr, rec_step fun m hm => (ih m hm).1⟩
theorem typed_spec (s : List UInt8) (hl : s.length ≤ 1000000000) (Post : PV → List (Nat × Blk) → Prop) (h : ∀ k z1 L1 z2 L2, Post (.tup [shp k z1 L1 z2 L2, .bool (fitsT s)]) []) : Spec K 134 [.str s] [] Post := by
 refine is134.specW K_ok K_mix false (by simp) (by simp [keys]) ?_
 unfold fitsT at h
 (conv => whnf); repeat ((first | (apply And.intro;· exact Cl4) | apply T1 | apply T2 | apply T3 | apply T4 | apply T6 | apply T5); conv => whnf)
 by_cases h64 : 64 < s.length
 ·rw [decide_eq_true (show (64 : Int) < (s.length : Int) by omega)]
  rw [decide_eq_false (show ¬ s.length ≤ 64 by omega)] at h
  (conv => whnf); repeat ((first | (apply And.intro;· exact Cl4) | apply T1 | apply T2 | apply T3 | apply T4 | apply T6 | apply T5); conv => whnf)
  (conv => whnf); repeat' (first | ((first | (apply And.intro;· exact Cl4) | apply T1 | apply T2 | apply T3 | apply T4 | apply T6 | apply T5); conv => whnf) | (fail; conv => whnf) | ((refine Both.mk ?_ ?_ <;> fail_if_success (intro _)) <;> conv => whnf))
  all_goals exact h _ _ _ _ _
 ·rw [decide_eq_false (show ¬ (64 : Int) < (s.length : Int) by omega)]
  rw [decide_eq_true (show s.length ≤ 64 by omega)] at h
  (conv => whnf); repeat ((first | (apply And.intro;· exact Cl4) | apply T1 | apply T2 | apply T3 | apply T4 | apply T6 | apply T5); conv => whnf)
  refine (read_all (2 * s.length + 1)).1 s (Nat.le_refl _) (by omega) _ (fun k z1 L1 z2 L2 => ?_)
  generalize readM (2 * s.length + 1) s = x at h
  obtain ⟨l, ok⟩ := x
  (conv => whnf); repeat ((first | (apply And.intro;· exact Cl4) | apply T1 | apply T2 | apply T3 | apply T4 | apply T6 | apply T5); conv => whnf)
  (conv => whnf); repeat' (first | ((first | (apply And.intro;· exact Cl4) | apply T1 | apply T2 | apply T3 | apply T4 | apply T6 | apply T5); conv => whnf) | (fail; conv => whnf) | ((refine Both.mk ?_ ?_ <;> fail_if_success (intro _)) <;> conv => whnf))
  all_goals (cases ok <;> cases l <;> exact h _ _ _ _ _)
theorem fits_all : FitsC := by
 intro s hl Post h
 refine is121.specW K_ok K_mix false (by simp) (by simp [keys]) ?_
 (conv => whnf); repeat ((first | (apply And.intro;· exact Cl4) | apply T1 | apply T2 | apply T3 | apply T4 | apply T6 | apply T5); conv => whnf)
 refine typed_spec s hl _ (fun k z1 L1 z2 L2 => ?_)
 (conv => whnf); repeat ((first | (apply And.intro;· exact Cl4) | apply T1 | apply T2 | apply T3 | apply T4 | apply T6 | apply T5); conv => whnf)
 exact h
end Go.Vc
namespace Go.Vc
open Go Go.Proofs
theorem same_law : SameC := fun p zf lf tf zc lc tc yf mf uf yc mc uc hp hq Post h => same_refl p zf lf tf zc lc tc yf mf uf yc mc uc hp hq Post h
theorem works15_law : WorksD := works15_spec fits_all same_law
end Go.Vc
