/- What is proved here: contracts of functions of the program: of each function what it hands back and what it leaves in memory. Conditions: those that each theorem names. -/
import Derived.Test.YtmbopgmllnijjaaGreatTAh
import Derived.Test.YtmbopgmllnijjaaGreatTAi
import Derived.Test.YtmbopgmllnijjaaGreatTAj
import Derived.Test.YtmbopgmllnijjaaGreatTAk
set_option linter.unusedVariables false
set_option linter.unusedSimpArgs false
set_option linter.unusedSectionVars false
namespace Go.Vc
open Go Go.Proofs
set_option maxRecDepth 100000
theorem eq_spec (a b : List UInt8) (z1 z2 : Nat) (t1 o1 t2 o2 : Bool) (h1 : z1 = 1 ∨ bs a = []) (h2 : z2 = 1 ∨ bs b = []) (ha : a.length ≤ 1000000000) (Post : PV → List (Nat × Blk) → Prop) (h : Post (.bool (a == b)) []) :
  Spec K 21 [.sl z1 (bs a) t1 o1, .sl z2 (bs b) t2 o2] [] Post := by
 refine is21.spec K_ok K_mix true (by simp) (by simp [keys]) ?_
 (conv => whnf); repeat ((apply And.intro;· exact Cl1); conv => whnf)
 refine ⟨fun hc => ?_, fun hc => ?_⟩
 ·(conv => whnf); repeat ((apply And.intro;· exact Cl1); conv => whnf)
  have : (a == b) = false := by
   simp only [bs_len] at hc
   rw [beq_eq_false_iff_ne]
   rintro rfl
   simp at hc
  rwa [this] at h
 ·(conv => whnf); repeat ((apply And.intro;· exact Cl1); conv => whnf)
  simp only [bs_len] at hc
  have hlen : a.length = b.length := by simp at hc; omega
  refine ⟨Nat, fun i => ⟨26, [(5, .int .i64 i), (4, .bool false), (0, .sl z1 (bs a) t1 o1), (1, .sl z2 (bs b) t2 o2)], [], []⟩, fun i => i ≤ a.length ∧ a.take i = b.take i, fun i => a.length - i, ⟨[], 0, ⟨by omega, rfl⟩, ?_⟩, fun i ⟨hi, ht⟩ => ?_⟩
  ·simp [meets, ghosts, St.le, St.get, look, keys, PV.labs, labsL]
  ·(conv => whnf); repeat ((apply And.intro;· exact Cl1); conv => whnf)
   refine ⟨fun hd => ?_, fun hd => ?_⟩
   ·simp only [bs_len, decide_eq_true_eq] at hd
    have hi' : i < a.length := by omega
    (conv => whnf); repeat ((apply And.intro;· exact Cl1); conv => whnf)
    refine ⟨h1, fun _ => by rw [bs_len]; omega, ?_⟩
    (conv => whnf); repeat ((apply And.intro;· exact Cl1); conv => whnf)
    refine ⟨h2, fun _ => by rw [bs_len]; omega, ?_⟩
    (conv => whnf); repeat ((apply And.intro;· exact Cl1); conv => whnf)
    rw [Int.toNat_natCast, nth_bs hi', nth_bs (show i < b.length by omega)]
    refine ⟨?_, ?_⟩
    all_goals
     (conv => whnf); repeat ((apply And.intro;· exact Cl1); conv => whnf)
     refine ⟨fun he => ?_, fun he => ?_⟩
     ·(conv => whnf); repeat ((apply And.intro;· exact Cl1); conv => whnf)
      have : (a == b) = false := by
       rw [beq_eq_false_iff_ne]
       rintro rfl
       simp at he
      rwa [this] at h
     ·(conv => whnf); repeat ((apply And.intro;· exact Cl1); conv => whnf)
      rw [wrap64 (by omega) (by omega)]
      have he' : a[i] = b[i] := by
       rw [bne_eq_false_iff_eq] at he
       exact UInt8.toNat_inj.1 (by omega)
      refine ⟨[], i + 1, ⟨by omega, ?_⟩, by show a.length - (i + 1) < a.length - i; omega, ?_⟩
      ·rw [List.take_add_one, List.take_add_one, ht, List.getElem?_eq_getElem hi', List.getElem?_eq_getElem (show i < b.length by omega), he']
      ·simp [meets, ghosts, St.le, St.get, look, keys, PV.labs, labsL]
   ·simp only [bs_len, decide_eq_false_iff_not] at hd
    (conv => whnf); repeat ((apply And.intro;· exact Cl1); conv => whnf)
    have : (a == b) = true := by
     rw [beq_iff_eq]
     have hi' : i = a.length := by omega
     subst hi'
     rw [List.take_length] at ht
     rw [ht, hlen, List.take_length]
    rwa [this] at h
end Go.Vc
