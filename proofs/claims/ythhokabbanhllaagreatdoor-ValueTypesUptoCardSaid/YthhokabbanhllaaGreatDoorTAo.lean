/- What is proved here: contracts of functions of the program: of each function what it hands back and what it leaves in memory. Conditions: those that each theorem names. -/
import Derived.Test.YthhokabbanhllaaGreatDoorTAn
set_option linter.unusedVariables false
set_option linter.unusedSimpArgs false
set_option linter.unusedSectionVars false
namespace Go.Vc
open Go Go.Proofs
set_option maxRecDepth 100000
def rise : List UInt8 → List (List UInt8) → Bool
 | _, [] => true
 | last, s :: r => !(Op.bytesLess s last || s == last) && isName s && rise s r
theorem rising_spec (ns : List (List UInt8)) (z : Nat) (t : Bool) (hz : z = 1 ∨ ns = []) (hl : ns.length ≤ 1000000000000) (Post : PV → List (Nat × Blk) → Prop) (h : Post (.bool (rise [] ns)) []) : Spec K 81 [.sl z (strs ns) t true] [] Post := by
 refine is81.specW K_ok K_mix false (by simp) (by simp [keys]) ?_
 have hz2 : z = 1 ∨ strs ns = [] := hz.imp (fun h => h) fun h => by rw [h]; rfl
 (conv => whnf); repeat ((apply And.intro;· exact Cl1); conv => whnf)
 refine ⟨Nat × List UInt8, fun x => ⟨22, [(8, .int .i64 x.1), (7, .int .i64 ns.length), (6, .sl z (strs ns) t true), (3, .str x.2), (2, .bool false)], [], []⟩, fun x => x.1 ≤ ns.length ∧ rise [] ns = rise x.2 (ns.drop x.1), fun x => ns.length - x.1,
  ⟨[], (0, []), ⟨Nat.zero_le _, rfl⟩, ?_⟩, fun ⟨i, last⟩ ⟨hi, hin⟩ => ?_⟩
 ·simp [meets, ghosts, St.le, St.get, look, keys, PV.labs, labsL, strs_len]
 ·(conv => whnf); repeat ((apply And.intro;· exact Cl1); conv => whnf)
  refine ⟨fun h1 => ?_, fun h1 => ?_⟩
  ·have hix : i < ns.length := by have := of_decide_eq_true h1; omega
   have hdr : ns.drop i = ns[i] :: ns.drop (i + 1) := List.drop_eq_getElem_cons hix
   (conv => whnf); repeat ((apply And.intro;· exact Cl1); conv => whnf)
   refine ⟨hz2, fun _ => ⟨by omega, by rw [strs_len]; omega⟩, ?_⟩
   (conv => whnf); repeat ((apply And.intro;· exact Cl1); conv => whnf)
   rw [Int.toNat_natCast, nth_strs hix]
   (conv => whnf); repeat ((apply And.intro;· exact Cl1); conv => whnf)
   refine ⟨fun _ hL => ?_, fun hL => ?_⟩
   ·rw [hL]
    (conv => whnf); repeat ((apply And.intro;· exact Cl1); conv => whnf)
    refine named_spec ns[i] _ ?_
    (conv => whnf); repeat ((apply And.intro;· exact Cl1); conv => whnf)
    refine ⟨fun h2 => ?_, fun h2 => ?_⟩
    ·have hnm : isName ns[i] = false := by simpa using h2
     (conv => whnf); repeat ((apply And.intro;· exact Cl1); conv => whnf)
     simp only [hdr] at hin
     rw [hin] at h
     simpa [rise, hnm] using h
    ·have hnm : isName ns[i] = true := by simpa using h2
     (conv => whnf); repeat ((apply And.intro;· exact Cl1); conv => whnf)
     rw [wrap64 (by omega) (by omega)]
     refine ⟨[], (i + 1, ns[i]), ⟨hix, ?_⟩, by show ns.length - (i + 1) < ns.length - i; omega, ?_⟩
     ·simp only [hdr] at hin
      rw [hin, rise, hnm, hL]; rfl
     ·simp [meets, ghosts, St.le, St.get, look, keys, PV.labs, labsL]
   ·have hL' := hL rfl
    rw [hL']
    (conv => whnf); repeat ((apply And.intro;· exact Cl1); conv => whnf)
    refine ⟨fun h2 => ?_, fun h2 => by cases h2⟩
    (conv => whnf); repeat ((apply And.intro;· exact Cl1); conv => whnf)
    simp only [hdr] at hin
    have hL2 : (Op.bytesLess ns[i] last || ns[i] == last) = true := hL'
    rw [hin, rise, hL2] at h
    exact h
  ·have hix : i = ns.length := by have := of_decide_eq_false h1; omega
   (conv => whnf); repeat ((apply And.intro;· exact Cl1); conv => whnf)
   simp only [hix, List.drop_length] at hin
   rw [hin] at h
   exact h
end Go.Vc
