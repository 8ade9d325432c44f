/- What is proved here: contracts of functions of the program: of each function what it hands back and what it leaves in memory. Conditions: those that each theorem names. -/
import Derived.Test.YthhokabbanhllaaGreatDoorTAq
set_option linter.unusedVariables false
set_option linter.unusedSimpArgs false
set_option linter.unusedSectionVars false
namespace Go.Vc
open Go Go.Proofs
set_option maxRecDepth 100000
set_option maxHeartbeats 8000000 in
theorem sameP_spec (N : Nat) : ∀ (v w : V), bulkV v ≤ N → N ≤ 100000000000 → bulkV w ≤ 100000000000 → ∀ (z1 z2 : Nat) (lp : List PV) (t1 t2 : Bool) (x1 x2 : Nat) (mp : List PV) (u1 u2 : Bool) (Post : PV → List (Nat × Blk) → Prop), VPs v.l lp → (z1 = 5 ∨ v.l = []) → (z2 = 1 ∨ v.ns = []) → VPs w.l mp → (x1 = 5 ∨ w.l = []) → (x2 = 1 ∨ w.ns = []) →
  Post (.bool (sameV v w)) [] → Spec K 38 [.agg (vc v z1 lp t1 z2 t2), .agg (vc w x1 mp u1 x2 u2)] [] Post := by
 induction N with
 | zero => intro v w h; exact absurd (bulkV_pos v) (by omega)
 | succ N ih =>
  intro v w hs hN hw z1 z2 lp t1 t2 x1 x2 mp u1 u2 Post hl hz1 hz2 hm hx1 hx2 h
  obtain ⟨k, n, s, l, ns⟩ := v
  obtain ⟨k', n', s', l', ns'⟩ := w
  simp only [V.k, V.n, V.s, V.l, V.ns, vc] at *
  rw [same_mk] at h
  simp only [V.k, V.n, V.s, V.l, V.ns] at h
  simp only [bulkV] at hs hw
  have hnb := nsBulk_le ns
  have hnb' := nsBulk_le ns'
  refine is38.specW K_ok K_mix false (by simp) (by simp [keys]) ?_
  (conv => whnf); repeat ((first | (apply And.intro;· exact Cl3) | apply T1 | apply T2 | apply T3 | apply T4 | apply T6 | apply T5); conv => whnf)
  cases hg : (bif bif k == k' then n == n' else false then s == s' else false)
  ·(conv => whnf); repeat ((first | (apply And.intro;· exact Cl3) | apply T1 | apply T2 | apply T3 | apply T4 | apply T6 | apply T5); conv => whnf)
   refine (congrArg (fun r => Post (.bool r) []) ?_).mpr h
   revert hg
   generalize (k == k') = b1
   generalize (n == n') = b2
   generalize (s == s') = b3
   generalize (cmpNs ns ns' == 0) = b4
   generalize (cmpVs l l' == 0) = b5
   clear h ih
   revert b1 b2 b3 b4 b5
   decide
  ·have hg' : (k == k' && n == n' && s == s') = true := by
    revert hg
    generalize (k == k') = b1
    generalize (n == n') = b2
    generalize (s == s') = b3
    clear h ih
    revert b1 b2 b3
    decide
   rw [hg', Bool.true_and] at h
   (conv => whnf); repeat ((first | (apply And.intro;· exact Cl3) | apply T1 | apply T2 | apply T3 | apply T4 | apply T6 | apply T5); conv => whnf)
   refine equal_spec ns ns' z2 x2 t2 u2 hz2 hx2 (by omega) (by omega) _ ?_
   cases hn : (cmpNs ns ns' == 0)
   ·rw [hn] at h
    (conv => whnf); repeat ((first | (apply And.intro;· exact Cl3) | apply T1 | apply T2 | apply T3 | apply T4 | apply T6 | apply T5); conv => whnf)
    exact h
   ·rw [hn, Bool.true_and] at h
    (conv => whnf); repeat ((first | (apply And.intro;· exact Cl3) | apply T1 | apply T2 | apply T3 | apply T4 | apply T6 | apply T5); conv => whnf)
    refine eqFunc_spec l l' lp mp z1 x1 t1 u1 hl hm hz1 hx1 (by omega) (by omega) (fun v w hv hw' => ih v w (by omega) (by omega) hw') _ ?_
    (conv => whnf); repeat ((first | (apply And.intro;· exact Cl3) | apply T1 | apply T2 | apply T3 | apply T4 | apply T6 | apply T5); conv => whnf)
    exact h
end Go.Vc
