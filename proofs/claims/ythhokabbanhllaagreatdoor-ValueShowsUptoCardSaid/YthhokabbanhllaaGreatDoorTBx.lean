/- What is proved here: contracts of functions of the program: of each function what it hands back and what it leaves in memory. Conditions: those that each theorem names. -/
import Derived.Test.YthhokabbanhllaaGreatDoorTAp
set_option linter.unusedVariables false
set_option linter.unusedSimpArgs false
set_option linter.unusedSectionVars false
namespace Go.Vc
open Go Go.Proofs
set_option maxRecDepth 100000
theorem tk1 (x : PV) : List.take 1 (List.drop 0 [x]) = [x] := rfl
set_option maxHeartbeats 16000000 in
theorem writeR_spec (N : Nat) : ∀ (k n : Int) (s : List UInt8) (l : List V) (ns : List (List UInt8)), bulkV (.mk k n s l ns) ≤ N → N ≤ 100000000000 → ∀ (z1 z2 : Nat) (lp : List PV) (t1 t2 : Bool) (Post : PV → List (Nat × Blk) → Prop),
  VPs l lp → (z1 = 5 ∨ l = []) → (z2 = 1 ∨ ns = []) → allV (.mk k n s l ns) = true → Post (.sl 1 (bs (writeV (.mk k n s l ns))) false true) [] →
  Spec K 41 [.agg [.int .i64 k, .int .i64 n, .str s, .sl z1 lp t1 true, .sl z2 (strs ns) t2 true]] [] Post := by
 induction N with
 | zero => intro k n s l ns h; exact absurd (bulkV_pos (.mk k n s l ns)) (by omega)
 | succ N ih =>
  intro k n s l ns hs hN z1 z2 lp t1 t2 Post hl hz1 hz2 hall h
  have hz2' : z2 = 1 ∨ strs ns = [] := hz2.imp (fun h => h) fun h => by rw [h]; rfl
  have hlp := VPs_len hl
  have hz1' : z1 = 5 ∨ lp = [] := hz1.imp (fun h => h) fun h => by rw [h] at hlp; exact List.length_eq_zero_iff.1 hlp
  have hs' := hs
  simp only [bulkV] at hs'
  have hnb := nsBulk_le ns
  have hlb := len_sizeVs l
  have hsb := sizes_bulk l
  refine is41.specW K_ok K_mix false (by simp) (by simp [keys]) ?_
  (conv => whnf); repeat ((apply And.intro;· exact Cl2); conv => whnf)
  refine ⟨fun h1 => ?_, fun h1 => ?_⟩
  ·obtain rfl : k = 1 := by simpa using h1
   (conv => whnf); repeat ((apply And.intro;· exact Cl2); conv => whnf)
   refine ⟨Nat, fun j => ⟨97, [(4, .int .i64 ((j : Int) - 1)), (3, .ref 1 1 0 (9 - j)), (1, .ptr 0 0)], [(0, .box [.int .i64 1, .int .i64 n, .str s, .sl z1 lp t1 true, .sl z2 (strs ns) t2 true]), (1, .row 5 1 (bs (ub 1 :: (be8 n).take (8 - j))) false)], []⟩,
    fun j => j ≤ 8, fun j => j, ⟨[], 8, Nat.le_refl _, ?_⟩, fun j hI => ?_⟩
   ·simp [meets, ghosts, St.le, St.get, look, keys, PV.labs, labsL, lookB, Blk.labs, ub1]
   ·have hI : j ≤ 8 := hI
    conv => (arg 5; dsimp only)
    (conv => whnf); repeat ((apply And.intro;· exact Cl2); conv => whnf)
    refine ⟨fun h2 => ?_, fun h2 => ?_⟩
    ·have hj : 0 < j := by have := of_decide_eq_true h2; omega
     obtain ⟨j, rfl⟩ : ∃ i, j = i + 1 := ⟨j - 1, by omega⟩
     (conv => whnf); repeat ((apply And.intro;· exact Cl2); conv => whnf)
     have e1 : IntKind.i64.wrap (8 * (((j + 1 : Nat) : Int) - 1)) = ((8 * j : Nat) : Int) := by rw [wrap64 (by omega) (by omega)]; omega
     rw [e1]
     refine ⟨fun _ => by omega, ?_⟩
     (conv => whnf); repeat ((apply And.intro;· exact Cl2); conv => whnf)
     have e2 : n.fdiv (2 ^ min (((8 * j : Nat) : Int)).toNat IntKind.i64.bits) = n / 2 ^ (8 * (7 - (7 - j))) := by
      rw [Int.toNat_natCast, Nat.min_eq_left (by show _ ≤ 64; omega), Int.fdiv_eq_ediv_of_nonneg _ (Int.pow_nonneg (by omega)), show 7 - (7 - j) = j by omega]
     rw [e2]
     (conv => whnf); repeat ((apply And.intro;· exact Cl2); conv => whnf)
     refine ⟨by show (9 - (j + 1) + 1) * 2 ≤ _; omega, ?_⟩
     (conv => whnf); repeat ((apply And.intro;· exact Cl2); conv => whnf)
     rw [wrapub, wrap64 (by omega) (by omega), List.take_of_length_le (l := bs _) (by rw [bs_len]; simp [be8_len]; omega), tk1, show [PV.int .u8 ((ub (n / 2 ^ (8 * (7 - (7 - j))))).toNat : Int)] = bs [ub (n / 2 ^ (8 * (7 - (7 - j))))] from rfl, ← bs_app]
     have e3 := be8_take n (i := 7 - j) (by omega)
     rw [show 7 - j + 1 = 8 - j by omega] at e3
     refine ⟨[], j, by show j ≤ 8; omega, by show j < j + 1; omega, ?_⟩
     rw [show 8 - (j + 1) = 7 - j by omega, List.cons_append, ← e3, show 9 - (j + 1) + (bs [ub (n / 2 ^ (8 * (7 - (7 - j))))]).length = 9 - j by rw [bs_len]; show _ + 1 = _; omega]
     simp [meets, ghosts, St.le, St.get, look, keys, PV.labs, labsL, lookB, Blk.labs]
    ·have hj : j = 0 := by have := of_decide_eq_false h2; omega
     subst hj
     (conv => whnf); repeat ((apply And.intro;· exact Cl2); conv => whnf)
     rw [List.take_of_length_le (by rw [List.drop_zero, bs_len]; simp [be8_len])]
     rw [List.drop_zero, List.take_of_length_le (l := be8 n) (by rw [be8_len]; omega)]
     simpa [writeV] using h
  ·have h1' : k ≠ 1 := by simpa using h1
   (conv => whnf); repeat ((apply And.intro;· exact Cl2); conv => whnf)
   refine ⟨fun h2 => ?_, fun h2 => ?_⟩
   ·obtain rfl : k = 2 := by simpa using h2
    (conv => whnf); repeat ((first | (apply And.intro;· exact Cl3) | apply T1 | apply T2 | apply T3 | apply T4 | apply T6 | apply T5); conv => whnf)
    simpa [writeV, wrapub, bs] using h
   ·have h2' : k ≠ 2 := by simpa using h2
    (conv => whnf); repeat ((apply And.intro;· exact Cl2); conv => whnf)
    refine ⟨fun h3 => ?_, fun h3 => ?_⟩
    ·obtain rfl : k = 6 := by simpa using h3
     (conv => whnf); repeat ((first | (apply And.intro;· exact Cl3) | apply T1 | apply T2 | apply T3 | apply T4 | apply T6 | apply T5); conv => whnf)
     simpa [writeV, wrapub, bs] using h
    ·have h3' : k ≠ 6 := by simpa using h3
     (conv => whnf); repeat ((apply And.intro;· exact Cl2); conv => whnf)
     refine ⟨fun h4 => ?_, fun h4 => ?_⟩
     ·obtain rfl : k = 3 := by simpa using h4
      (conv => whnf); repeat ((first | (apply And.intro;· exact Cl3) | apply T1 | apply T2 | apply T3 | apply T4 | apply T6 | apply T5); conv => whnf)
      refine ⟨by omega, rfl, ?_⟩
      (conv => whnf); repeat ((first | (apply And.intro;· exact Cl3) | apply T1 | apply T2 | apply T3 | apply T4 | apply T6 | apply T5); conv => whnf)
      refine ⟨by rw [srcStr, bs_len]; show (1 + 1 + s.length) * 2 ≤ _; omega, ?_⟩
      (conv => whnf); repeat ((first | (apply And.intro;· exact Cl3) | apply T1 | apply T2 | apply T3 | apply T4 | apply T6 | apply T5); conv => whnf)
      refine (congrArg (fun r => Post (.sl 1 r false true) []) ?_).mpr h
      simp [writeV, countedB, wrapub, bs]
      exact List.take_of_length_le (by simp; omega)
     ·have h4' : k ≠ 3 := by simpa using h4
      simp only [allV, Bool.and_eq_true] at hall
      have halls := hall.2
      (conv => whnf); repeat ((apply And.intro;· exact Cl2); conv => whnf)
      refine ⟨fun h5 => ?_, fun h5 => ?_⟩
      ·obtain rfl : k = 4 := by simpa using h5
       (conv => whnf); repeat ((first | (apply And.intro;· exact Cl3) | apply T1 | apply T2 | apply T3 | apply T4 | apply T6 | apply T5); conv => whnf)
       have hpost : Post (.sl 1 (bs (ub 4 :: ub l.length :: writeVs false l ns)) false true) [] := by simpa [writeV] using h
       refine ⟨Nat × List UInt8 × Bool, fun x => ⟨97, [(5, .int .i64 x.1), (3, .ref 1 1 0 (2 + x.2.1.length)), (1, .ptr 0 0)], [(0, .box [.int .i64 4, .int .i64 n, .str s, .sl z1 lp t1 true, .sl z2 (strs ns) t2 true]), (1, .row 5 1 (bs (ub 4 :: ub l.length :: x.2.1)) x.2.2)], []⟩,
        fun x => x.1 ≤ l.length ∧ x.2.1 ++ writeVs false (l.drop x.1) (ns.drop x.1) = writeVs false l ns, fun x => l.length - x.1, ⟨[], (0, [], false), ⟨Nat.zero_le _, rfl⟩, ?_⟩, fun x hI => ?_⟩
       ·simp [meets, ghosts, St.le, St.get, look, keys, PV.labs, labsL, lookB, Blk.labs, hlp, wrapub, bs]
       ·obtain ⟨i, acc, o⟩ := x
        obtain ⟨hi, hacc⟩ := hI
        simp only at hi hacc
        have hwt := writeVs_len false l ns
        have hal := congrArg List.length hacc
        simp only [List.length_append] at hal
        cases o <;> (
         conv => (arg 5; dsimp only)
         (conv => whnf); repeat ((first | (apply And.intro;· exact Cl3) | apply T1 | apply T2 | apply T3 | apply T4 | apply T6 | apply T5); conv => whnf)
         rw [hlp]
         refine ⟨fun h7 => ?_, fun h7 => ?_⟩
         ·have hix : i < l.length := by have := of_decide_eq_true h7; omega
          have hdr : l.drop i = l[i] :: l.drop (i + 1) := List.drop_eq_getElem_cons hix
          obtain ⟨y1, mp, u1, o1, y2, u2, o2, hp, hq, g1, g2, g3⟩ := (VPs_nth hl hix).out
          have hbm := bulkVs_mem hix
          have hwl := writeV_len l[i]
          have halv := allVs_mem hix halls
          rw [hdr, writeVs] at hacc
          have hac2 := congrArg List.length hacc
          simp only [List.length_append, cond_true, cond_false, List.headD_cons, List.tail_cons, List.length_nil] at hac2
          have hbl : 2 + acc.length ≤ 3000000000000 := by omega
          (conv => whnf); repeat ((first | (apply And.intro;· exact Cl3) | apply T1 | apply T2 | apply T3 | apply T4 | apply T6 | apply T5); conv => whnf)
          refine ⟨fun _ => ⟨by omega, by rw [hlp]; omega⟩, ?_⟩
          (conv => whnf); repeat ((first | (apply And.intro;· exact Cl3) | apply T1 | apply T2 | apply T3 | apply T4 | apply T6 | apply T5); conv => whnf)
          rw [Int.toNat_natCast, hp]
          (conv => whnf); repeat ((first | (apply And.intro;· exact Cl3) | apply T1 | apply T2 | apply T3 | apply T4 | apply T6 | apply T5); conv => whnf)
          refine ih l[i].k l[i].n l[i].s l[i].l l[i].ns (by rw [V.eta]; omega) (by omega) y1 y2 mp u1 u2 _ hq g1 g2 (by rw [V.eta]; exact halv) ?_
          rw [V.eta]
          (conv => whnf); repeat ((first | (apply And.intro;· exact Cl3) | apply T1 | apply T2 | apply T3 | apply T4 | apply T6 | apply T5); conv => whnf)
          refine ⟨by rw [bs_len]; show (2 + (acc).length + (writeV l[i]).length) * 2 ≤ _; simp only [countedB, List.length_append, List.length_cons] at *; omega, ?_⟩
          (conv => whnf); repeat ((first | (apply And.intro;· exact Cl3) | apply T1 | apply T2 | apply T3 | apply T4 | apply T6 | apply T5); conv => whnf)
          rw [List.take_of_length_le (l := bs _) (by rw [bs_len]; simp; omega), ← bs_app, bs_len, wrap64 (by omega) (by omega)]
          refine ⟨[], (i + 1, acc ++ writeV l[i], true), ⟨hix, ?_⟩, by show l.length - (i + 1) < l.length - i; omega, ?_⟩
          ·rw [← hacc]
           simp only [List.tail_drop, List.tail_cons, List.headD_cons, cond_true, cond_false, List.append_assoc, List.nil_append, List.append_nil]
          ·simp [meets, ghosts, St.le, St.get, look, keys, PV.labs, labsL, lookB, Blk.labs]
           try omega
         ·have hix : i = l.length := by have := of_decide_eq_false h7; omega
          simp only [hix, List.drop_length, writeVs, List.append_nil] at hacc
          rw [← hacc] at hpost
          (conv => whnf); repeat ((first | (apply And.intro;· exact Cl3) | apply T1 | apply T2 | apply T3 | apply T4 | apply T6 | apply T5); conv => whnf)
          rw [List.drop_zero, List.take_of_length_le (by rw [bs_len]; simp; omega)]
          exact hpost)
      ·have h5' : k ≠ 4 := by simpa using h5
       (conv => whnf); repeat ((apply And.intro;· exact Cl2); conv => whnf)
       refine ⟨fun h6 => ?_, fun h6 => ?_⟩
       ·obtain rfl : k = 5 := by simpa using h6
        have hnl : l.length = ns.length := by
         have := hall.1
         simp [ownB] at this
         exact this.1.1.1.2
        (conv => whnf); repeat ((first | (apply And.intro;· exact Cl3) | apply T1 | apply T2 | apply T3 | apply T4 | apply T6 | apply T5); conv => whnf)
        have hpost : Post (.sl 1 (bs (ub 5 :: ub l.length :: writeVs true l ns)) false true) [] := by simpa [writeV] using h
        refine ⟨Nat × List UInt8 × Bool, fun x => ⟨97, [(5, .int .i64 x.1), (3, .ref 1 1 0 (2 + x.2.1.length)), (1, .ptr 0 0)], [(0, .box [.int .i64 5, .int .i64 n, .str s, .sl z1 lp t1 true, .sl z2 (strs ns) t2 true]), (1, .row 5 1 (bs (ub 5 :: ub l.length :: x.2.1)) x.2.2)], []⟩,
         fun x => x.1 ≤ l.length ∧ x.2.1 ++ writeVs true (l.drop x.1) (ns.drop x.1) = writeVs true l ns, fun x => l.length - x.1, ⟨[], (0, [], false), ⟨Nat.zero_le _, rfl⟩, ?_⟩, fun x hI => ?_⟩
        ·simp [meets, ghosts, St.le, St.get, look, keys, PV.labs, labsL, lookB, Blk.labs, hlp, wrapub, bs]
        ·obtain ⟨i, acc, o⟩ := x
         obtain ⟨hi, hacc⟩ := hI
         simp only at hi hacc
         have hwt := writeVs_len true l ns
         have hal := congrArg List.length hacc
         simp only [List.length_append] at hal
         cases o <;> (
          conv => (arg 5; dsimp only)
          (conv => whnf); repeat ((first | (apply And.intro;· exact Cl3) | apply T1 | apply T2 | apply T3 | apply T4 | apply T6 | apply T5); conv => whnf)
          rw [hlp]
          refine ⟨fun h7 => ?_, fun h7 => ?_⟩
          ·have hix : i < l.length := by have := of_decide_eq_true h7; omega
           have hdr : l.drop i = l[i] :: l.drop (i + 1) := List.drop_eq_getElem_cons hix
           have hin : i < ns.length := by omega
           have hdn : ns.drop i = ns[i] :: ns.drop (i + 1) := List.drop_eq_getElem_cons hin
           have hnm := nsLen_mem hin
           obtain ⟨y1, mp, u1, o1, y2, u2, o2, hp, hq, g1, g2, g3⟩ := (VPs_nth hl hix).out
           have hbm := bulkVs_mem hix
           have hwl := writeV_len l[i]
           have halv := allVs_mem hix halls
           rw [hdr, hdn, writeVs] at hacc
           have hac2 := congrArg List.length hacc
           simp only [List.length_append, cond_true, cond_false, List.headD_cons, List.tail_cons, List.length_nil] at hac2
           have hbl : 2 + acc.length ≤ 3000000000000 := by omega
           (conv => whnf); repeat ((first | (apply And.intro;· exact Cl3) | apply T1 | apply T2 | apply T3 | apply T4 | apply T6 | apply T5); conv => whnf)
           refine ⟨fun _ => ⟨by omega, by rw [strs_len]; omega⟩, ?_⟩
           (conv => whnf); repeat ((first | (apply And.intro;· exact Cl3) | apply T1 | apply T2 | apply T3 | apply T4 | apply T6 | apply T5); conv => whnf)
           rw [Int.toNat_natCast, nth_strs hin]
           (conv => whnf); repeat ((first | (apply And.intro;· exact Cl3) | apply T1 | apply T2 | apply T3 | apply T4 | apply T6 | apply T5); conv => whnf)
           refine ⟨by show (2 + acc.length + 1) * 2 ≤ _; omega, ?_⟩
           (conv => whnf); repeat ((first | (apply And.intro;· exact Cl3) | apply T1 | apply T2 | apply T3 | apply T4 | apply T6 | apply T5); conv => whnf)
           refine ⟨fun _ => ⟨by omega, by rw [strs_len]; omega⟩, ?_⟩
           (conv => whnf); repeat ((first | (apply And.intro;· exact Cl3) | apply T1 | apply T2 | apply T3 | apply T4 | apply T6 | apply T5); conv => whnf)
           rw [Int.toNat_natCast, nth_strs hin]
           (conv => whnf); repeat ((first | (apply And.intro;· exact Cl3) | apply T1 | apply T2 | apply T3 | apply T4 | apply T6 | apply T5); conv => whnf)
           refine ⟨by omega, rfl, ?_⟩
           (conv => whnf); repeat ((first | (apply And.intro;· exact Cl3) | apply T1 | apply T2 | apply T3 | apply T4 | apply T6 | apply T5); conv => whnf)
           refine ⟨by rw [srcStr, bs_len]; show (2 + acc.length + 1 + ns[i].length) * 2 ≤ _; omega, ?_⟩
           (conv => whnf); repeat ((first | (apply And.intro;· exact Cl3) | apply T1 | apply T2 | apply T3 | apply T4 | apply T6 | apply T5); conv => whnf)
           rw [tk1, ub1, srcStr, List.take_of_length_le (l := bs _) (by rw [bs_len]; simp; omega), ← bs_app, List.take_of_length_le (l := bs _) (by rw [bs_len, bs_len]; simp; omega), ← bs_app, show 2 + acc.length + (bs [ub ns[i].length]).length + (bs ns[i]).length = 2 + (acc ++ countedB ns[i]).length by rw [bs_len, bs_len]; simp [countedB]; omega,
            show (ub 5 :: ub l.length :: acc) ++ [ub ns[i].length] ++ ns[i] = ub 5 :: ub l.length :: (acc ++ countedB ns[i]) by simp [countedB]]
           refine ⟨fun _ => ⟨by omega, by rw [hlp]; omega⟩, ?_⟩
           (conv => whnf); repeat ((first | (apply And.intro;· exact Cl3) | apply T1 | apply T2 | apply T3 | apply T4 | apply T6 | apply T5); conv => whnf)
           rw [Int.toNat_natCast, hp]
           (conv => whnf); repeat ((first | (apply And.intro;· exact Cl3) | apply T1 | apply T2 | apply T3 | apply T4 | apply T6 | apply T5); conv => whnf)
           refine ih l[i].k l[i].n l[i].s l[i].l l[i].ns (by rw [V.eta]; omega) (by omega) y1 y2 mp u1 u2 _ hq g1 g2 (by rw [V.eta]; exact halv) ?_
           rw [V.eta]
           (conv => whnf); repeat ((first | (apply And.intro;· exact Cl3) | apply T1 | apply T2 | apply T3 | apply T4 | apply T6 | apply T5); conv => whnf)
           refine ⟨by rw [bs_len]; show (2 + ((acc ++ countedB ns[i])).length + (writeV l[i]).length) * 2 ≤ _; simp only [countedB, List.length_append, List.length_cons] at *; omega, ?_⟩
           (conv => whnf); repeat ((first | (apply And.intro;· exact Cl3) | apply T1 | apply T2 | apply T3 | apply T4 | apply T6 | apply T5); conv => whnf)
           rw [List.take_of_length_le (l := bs _) (by rw [bs_len]; simp; omega), ← bs_app, bs_len, wrap64 (by omega) (by omega)]
           refine ⟨[], (i + 1, (acc ++ countedB ns[i]) ++ writeV l[i], true), ⟨hix, ?_⟩, by show l.length - (i + 1) < l.length - i; omega, ?_⟩
           ·rw [← hacc]
            simp only [List.tail_drop, List.tail_cons, List.headD_cons, cond_true, cond_false, List.append_assoc, List.nil_append, List.append_nil]
           ·simp [meets, ghosts, St.le, St.get, look, keys, PV.labs, labsL, lookB, Blk.labs]
            try omega
          ·have hix : i = l.length := by have := of_decide_eq_false h7; omega
           simp only [hix, List.drop_length, writeVs, List.append_nil] at hacc
           rw [← hacc] at hpost
           (conv => whnf); repeat ((first | (apply And.intro;· exact Cl3) | apply T1 | apply T2 | apply T3 | apply T4 | apply T6 | apply T5); conv => whnf)
           rw [List.drop_zero, List.take_of_length_le (by rw [bs_len]; simp; omega)]
           exact hpost)
       ·have h6' : k ≠ 5 := by simpa using h6
        (conv => whnf); repeat ((apply And.intro;· exact Cl2); conv => whnf)
        rw [wrapub]
        simpa [writeV, h1', h2', h3', h4', h5', h6', bs] using h
end Go.Vc
