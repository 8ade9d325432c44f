/- What is proved here: contracts of functions of the program: of each function what it hands back and what it leaves in memory. Conditions: those that each theorem names. -/
import Derived.Test.YthhokabbanhllaaDoorTBp
import Derived.Test.YthhokabbanhllaaDoorTBj
import Derived.Test.YthhokabbanhllaaDoorTBl
import Derived.Test.YthhokabbanhllaaDoorTBi
set_option linter.unusedVariables false
set_option linter.unusedSimpArgs false
set_option linter.unusedSectionVars false
namespace Go.Vc
open Go Go.Proofs
set_option maxRecDepth 100000
theorem lists_end {x : Bool} {n : Nat} (h : (!x || decide (62 < n)) = true) : LawPost (.bool (bif !x then true else decide ((62 : Int) < (n : Int)))) [] := by
 refine ⟨congrArg PV.bool ?_, rfl⟩
 rw [show decide ((62 : Int) < (n : Int)) = decide (62 < n) by rw [decide_eq_decide]; omega]
 cases x
 ·rfl
 ·exact h
set_option maxHeartbeats 16000000 in
theorem lists_law (l : List V) (lp : List PV) (z0 : Nat) (t0 : Bool) (s : List UInt8) (hz0 : z0 = 5 ∨ l = []) (hl : VPs l lp) (hbl : bulkVs l ≤ 2000000) (hs : s.length ≤ 2000000) :
  CSpec K 8 [.sl z0 lp t0 true, .str s] [] LawPost := by
 have hlp := VPs_len hl
 have hz1' : z0 = 5 ∨ lp = [] := hz0.imp (fun h => h) fun h => by rw [h] at hlp; exact List.length_eq_zero_iff.1 hlp
 have hsb := sizes_bulk l
 have hlb := len_sizeVs l
 have hla : ∀ z2, VA (.mk 4 0 [] l []) z0 lp z2 := fun z2 => ⟨hl, hz0, .inr rfl, ⟨by show (-9223372036854775808 : Int) ≤ 0; decide, by show (0 : Int) ≤ _; decide⟩, by simp only [bulkV, nsBulk, List.length_nil]; omega⟩
 have hend := lists_holds l s (.inr (.inr trivial))
 refine is8.cspec K_ok K_mix false (by simp) (by simp [keys]) ?_
 (conv => whnf); repeat ((first | (apply And.intro;· exact Cl4) | apply T1 | apply T2 | apply T3 | apply T4 | apply T6 | apply T5); conv => whnf)
 refine works_spec _ ?_
 (conv => whnf); repeat ((first | (apply And.intro;· exact Cl4) | apply T1 | apply T2 | apply T3 | apply T4 | apply T6 | apply T5); conv => whnf)
 refine ⟨Nat, fun i => ⟨57, [(6, .int .i64 i), (5, .bool ((l.take i).all fun w => isVB w s)), (1, .str s), (0, .sl z0 lp t0 true)], [], []⟩, fun i => i ≤ l.length, fun i => l.length - i,
  ⟨[], 0, Nat.zero_le _, ?_⟩, fun i hI => ?_⟩
 ·simp [meets, ghosts, St.le, St.get, look, keys, PV.labs, labsL]
 ·have hI : i ≤ l.length := hI
  conv => (arg 5; dsimp only)
  (conv => whnf); repeat ((first | (apply And.intro;· exact Cl4) | apply T1 | apply T2 | apply T3 | apply T4 | apply T6 | apply T5); conv => whnf)
  rw [hlp]
  (conv => whnf); repeat ((first | (apply And.intro;· exact Cl4) | apply T1 | apply T2 | apply T3 | apply T4 | apply T6 | apply T5); conv => whnf)
  by_cases hix : i < l.length
  ·rw [decide_eq_true (show (i : Int) < (l.length : Int) by omega)]
   obtain ⟨y1, mp, u1, o1, y2, u2, o2, hp, hq, g1, g2, g3⟩ := (VPs_nth hl hix).out
   have hbm := bulkVs_mem hix
   have htk : (l.take (i + 1)).all (fun w => isVB w s) = ((l.take i).all (fun w => isVB w s) && isVB l[i] s) := by
    rw [List.take_succ_eq_append_getElem hix, List.all_append]; simp
   have va : VA l[i] y1 mp y2 := ⟨hq, g1, g2, g3, by omega⟩
   cases ha : (l.take i).all (fun w => isVB w s)
   ·rw [ha, Bool.false_and] at htk
    (conv => whnf); repeat ((first | (apply And.intro;· exact Cl4) | apply T1 | apply T2 | apply T3 | apply T4 | apply T6 | apply T5); conv => whnf)
    rw [Int.toNat_natCast, hp]
    (conv => whnf); repeat ((first | (apply And.intro;· exact Cl4) | apply T1 | apply T2 | apply T3 | apply T4 | apply T6 | apply T5); conv => whnf)
    rw [wrap64 (n := (i : Int) + 1) (by omega) (by omega)]
    refine ⟨[], i + 1, hix, by show l.length - (i + 1) < l.length - i; omega, ?_⟩
    simp [meets, ghosts, St.le, St.get, look, keys, PV.labs, labsL, htk]
   ·rw [ha, Bool.true_and] at htk
    (conv => whnf); repeat ((first | (apply And.intro;· exact Cl4) | apply T1 | apply T2 | apply T3 | apply T4 | apply T6 | apply T5); conv => whnf)
    rw [Int.toNat_natCast, hp]
    (conv => whnf); repeat ((first | (apply And.intro;· exact Cl4) | apply T1 | apply T2 | apply T3 | apply T4 | apply T6 | apply T5); conv => whnf)
    refine is_spec l[i] s (by omega) y1 y2 mp _ _ va _ ?_
    (conv => whnf); repeat ((first | (apply And.intro;· exact Cl4) | apply T1 | apply T2 | apply T3 | apply T4 | apply T6 | apply T5); conv => whnf)
    rw [wrap64 (n := (i : Int) + 1) (by omega) (by omega)]
    refine ⟨[], i + 1, hix, by show l.length - (i + 1) < l.length - i; omega, ?_⟩
    simp [meets, ghosts, St.le, St.get, look, keys, PV.labs, labsL, htk]
  ·obtain rfl : i = l.length := by omega
   rw [decide_eq_false (show ¬ (l.length : Int) < (l.length : Int) by omega), List.take_length]
   (conv => whnf); repeat ((first | (apply And.intro;· exact Cl4) | apply T1 | apply T2 | apply T3 | apply T4 | apply T6 | apply T5); conv => whnf)
   refine list_val l _ lp _ _ (fun z2 => ?_)
   (conv => whnf); repeat ((first | (apply And.intro;· exact Cl4) | apply T1 | apply T2 | apply T3 | apply T4 | apply T6 | apply T5); conv => whnf)
   have va := hla z2
   cases hm : mayV (.mk 4 0 [] l [])
   ·refine check_f _ hm z0 z2 lp _ _ _ va ?_
    (conv => whnf); repeat ((first | (apply And.intro;· exact Cl4) | apply T1 | apply T2 | apply T3 | apply T4 | apply T6 | apply T5); conv => whnf)
    refine ⟨fun _ => by show 1 + s.length ≤ _; omega, ?_⟩
    (conv => whnf); repeat ((first | (apply And.intro;· exact Cl4) | apply T1 | apply T2 | apply T3 | apply T4 | apply T6 | apply T5); conv => whnf)
    refine ⟨fun _ => by show (91 :: s).length + 1 ≤ _; rw [List.length_cons]; omega, ?_⟩
    (conv => whnf); repeat ((first | (apply And.intro;· exact Cl4) | apply T1 | apply T2 | apply T3 | apply T4 | apply T6 | apply T5); conv => whnf)
    refine is_spec _ (91 :: (s ++ [93])) (by simp; omega) z0 z2 lp _ _ va _ ?_
    (conv => whnf); repeat ((first | (apply And.intro;· exact Cl4) | apply T1 | apply T2 | apply T3 | apply T4 | apply T6 | apply T5); conv => whnf)
    rw [if_pos (.inl hm)] at hend
    exact lists_end hend
   ·refine check_t _ hm z0 z2 lp _ _ _ va ?_
    (conv => whnf); repeat ((first | (apply And.intro;· exact Cl4) | apply T1 | apply T2 | apply T3 | apply T4 | apply T6 | apply T5); conv => whnf)
    by_cases hsl : 62 < s.length
    ·rw [decide_eq_true (show (62 : Int) < (s.length : Int) by omega)]
     (conv => whnf); repeat ((first | (apply And.intro;· exact Cl4) | apply T1 | apply T2 | apply T3 | apply T4 | apply T6 | apply T5); conv => whnf)
     refine ⟨fun _ => by show 1 + s.length ≤ _; omega, ?_⟩
     (conv => whnf); repeat ((first | (apply And.intro;· exact Cl4) | apply T1 | apply T2 | apply T3 | apply T4 | apply T6 | apply T5); conv => whnf)
     refine ⟨fun _ => by show (91 :: s).length + 1 ≤ _; rw [List.length_cons]; omega, ?_⟩
     (conv => whnf); repeat ((first | (apply And.intro;· exact Cl4) | apply T1 | apply T2 | apply T3 | apply T4 | apply T6 | apply T5); conv => whnf)
     refine is_spec _ (91 :: (s ++ [93])) (by simp; omega) z0 z2 lp _ _ va _ ?_
     (conv => whnf); repeat ((first | (apply And.intro;· exact Cl4) | apply T1 | apply T2 | apply T3 | apply T4 | apply T6 | apply T5); conv => whnf)
     rw [if_pos (.inr hsl)] at hend
     exact lists_end hend
    ·rw [decide_eq_false (show ¬ (62 : Int) < (s.length : Int) by omega)]
     (conv => whnf); repeat ((first | (apply And.intro;· exact Cl4) | apply T1 | apply T2 | apply T3 | apply T4 | apply T6 | apply T5); conv => whnf)
     refine ⟨fun _ => by show 1 + s.length ≤ _; omega, ?_⟩
     (conv => whnf); repeat ((first | (apply And.intro;· exact Cl4) | apply T1 | apply T2 | apply T3 | apply T4 | apply T6 | apply T5); conv => whnf)
     refine ⟨fun _ => by show (91 :: s).length + 1 ≤ _; rw [List.length_cons]; omega, ?_⟩
     (conv => whnf); repeat ((first | (apply And.intro;· exact Cl4) | apply T1 | apply T2 | apply T3 | apply T4 | apply T6 | apply T5); conv => whnf)
     refine is_spec _ (91 :: (s ++ [93])) (by simp; omega) z0 z2 lp _ _ va _ ?_
     (conv => whnf); repeat ((first | (apply And.intro;· exact Cl4) | apply T1 | apply T2 | apply T3 | apply T4 | apply T6 | apply T5); conv => whnf)
     have hneg : ¬ (mayV (.mk 4 0 [] l []) = false ∨ 62 < s.length) := by
      rintro (h | h)
      ·rw [hm] at h; cases h
      ·exact hsl h
     rw [if_neg hneg] at hend
     cases ha : l.all (fun w => isVB w s)
     ·rw [ha] at hend
      (conv => whnf); repeat ((first | (apply And.intro;· exact Cl4) | apply T1 | apply T2 | apply T3 | apply T4 | apply T6 | apply T5); conv => whnf)
      exact ⟨congrArg PV.bool hend, rfl⟩
     ·rw [ha] at hend
      (conv => whnf); repeat ((first | (apply And.intro;· exact Cl4) | apply T1 | apply T2 | apply T3 | apply T4 | apply T6 | apply T5); conv => whnf)
      refine fits_all s (by omega) _ ?_
      (conv => whnf); repeat ((first | (apply And.intro;· exact Cl4) | apply T1 | apply T2 | apply T3 | apply T4 | apply T6 | apply T5); conv => whnf)
      exact ⟨congrArg PV.bool hend, rfl⟩
end Go.Vc
