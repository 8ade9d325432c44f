/- What is proved here: contracts of functions of the program: of each function what it hands back and what it leaves in memory. Conditions: those that each theorem names. -/
import Derived.Test.YthhokabbanhllaaGreatDoorTBq
import Derived.Test.YthhokabbanhllaaGreatDoorTBt
import Derived.Test.YthhokabbanhllaaGreatDoorTBy
import Derived.Test.YthhokabbanhllaaGreatDoorTBz
import Derived.Test.YthhokabbanhllaaGreatDoorTAr
import Derived.Test.YthhokabbanhllaaGreatDoorTBo
import Derived.Test.YthhokabbanhllaaGreatDoorTAp
set_option linter.unusedVariables false
set_option linter.unusedSimpArgs false
set_option linter.unusedSectionVars false
namespace Go.Vc
open Go Go.Proofs
set_option maxRecDepth 100000
theorem eq_v (a b : List UInt8) (v : Bool) (hv : (a == b) = v) (z1 z2 : Nat) (t1 o1 t2 o2 : Bool) (h1 : z1 = 1 ∨ bs a = []) (h2 : z2 = 1 ∨ bs b = []) (ha : a.length ≤ 1000000000) (Post : PV → List (Nat × Blk) → Prop) (h : Post (.bool v) []) :
  Spec K 19 [.sl z1 (bs a) t1 o1, .sl z2 (bs b) t2 o2] [] Post := eq_spec a b z1 z2 t1 o1 t2 o2 h1 h2 ha Post (by rw [hv]; exact h)
set_option maxHeartbeats 16000000 in
theorem bytes_law (v : V) (z1 z2 : Nat) (lp : List PV) (t1 t2 : Bool) (a : VA v z1 lp z2) (hb : bulkV v ≤ 2000000) : CSpec K 4 [.agg (vc v z1 lp t1 z2 t2)] [] LawPost := by
 refine is4.cspec K_ok K_mix false (by simp) (by simp [keys]) ?_
 have hl := writeV_len v
 have hsame := sameV_self v
 (conv => whnf); repeat ((first | (apply And.intro;· exact Cl4) | apply T1 | apply T2 | apply T3 | apply T4 | apply T6 | apply T5); conv => whnf)
 refine copyV_spec v z1 lp _ z2 _ a _ (fun y1 mp y2 hv => ?_)
 have hva := hv.va a.b
 (conv => whnf); repeat ((first | (apply And.intro;· exact Cl4) | apply T1 | apply T2 | apply T3 | apply T4 | apply T6 | apply T5); conv => whnf)
 cases hm : mayV v
 ·refine valueBytes_spec v y1 y2 mp _ _ _ hva (fun hc => by rw [hm] at hc; cases hc) (fun _ => ?_)
  (conv => whnf); repeat ((first | (apply And.intro;· exact Cl4) | apply T1 | apply T2 | apply T3 | apply T4 | apply T6 | apply T5); conv => whnf)
  refine valueBytesR_spec v z1 z2 lp _ _ _ a (fun hc => by rw [hm] at hc; cases hc) (fun _ => ?_)
  (conv => whnf); repeat ((first | (apply And.intro;· exact Cl4) | apply T1 | apply T2 | apply T3 | apply T4 | apply T6 | apply T5); conv => whnf)
  refine eq_v [] [] true rfl 0 0 _ _ _ _ (.inr rfl) (.inr rfl) (by decide) _ ?_
  (conv => whnf); repeat ((first | (apply And.intro;· exact Cl4) | apply T1 | apply T2 | apply T3 | apply T4 | apply T6 | apply T5); conv => whnf)
  refine sameS_x v v true hsame y1 y2 mp _ _ z1 z2 lp _ _ _ hva a ?_
  (conv => whnf); repeat ((first | (apply And.intro;· exact Cl4) | apply T1 | apply T2 | apply T3 | apply T4 | apply T6 | apply T5); conv => whnf)
  refine works_spec _ ?_
  (conv => whnf); repeat ((first | (apply And.intro;· exact Cl4) | apply T1 | apply T2 | apply T3 | apply T4 | apply T6 | apply T5); conv => whnf)
 ·refine valueBytes_spec v y1 y2 mp _ _ _ hva (fun _ => ?_) (fun hc => by rw [hm] at hc; cases hc)
  (conv => whnf); repeat ((first | (apply And.intro;· exact Cl4) | apply T1 | apply T2 | apply T3 | apply T4 | apply T6 | apply T5); conv => whnf)
  refine valueBytesR_spec v z1 z2 lp _ _ _ a (fun _ => ?_) (fun hc => by rw [hm] at hc; cases hc)
  (conv => whnf); repeat ((first | (apply And.intro;· exact Cl4) | apply T1 | apply T2 | apply T3 | apply T4 | apply T6 | apply T5); conv => whnf)
  refine eq_v (writeV v) (writeV v) true (beq_self_eq_true _) 1 1 _ _ _ _ (.inl rfl) (.inl rfl) (by omega) _ ?_
  (conv => whnf); repeat ((first | (apply And.intro;· exact Cl4) | apply T1 | apply T2 | apply T3 | apply T4 | apply T6 | apply T5); conv => whnf)
  refine sameS_x v v true hsame y1 y2 mp _ _ z1 z2 lp _ _ _ hva a ?_
  (conv => whnf); repeat ((first | (apply And.intro;· exact Cl4) | apply T1 | apply T2 | apply T3 | apply T4 | apply T6 | apply T5); conv => whnf)
  refine works_spec _ ?_
  (conv => whnf); repeat ((first | (apply And.intro;· exact Cl4) | apply T1 | apply T2 | apply T3 | apply T4 | apply T6 | apply T5); conv => whnf)
end Go.Vc
namespace Go.Vc
open Go Go.Proofs
set_option maxRecDepth 100000
def hexT : List UInt8 := [48, 49, 50, 51, 52, 53, 54, 55, 56, 57, 97, 98, 99, 100, 101, 102]
theorem quo_len : ∀ s : List UInt8, (s.flatMap quoC).length ≤ 3 * s.length
 | [] => by simp
 | c :: r => by
  have := quo_len r
  have : (quoC c).length ≤ 3 := by unfold quoC; split <;> simp
  simp only [List.flatMap_cons, List.length_append, List.length_cons]; omega
theorem esc_eq (c : UInt8) : (bif bif bif decide ((c.toNat : Int) < 32) then true else decide (126 < (c.toNat : Int)) then true else (c.toNat : Int) == 34 then true else (c.toNat : Int) == 92) = escB c := by
 unfold escB
 rw [show decide ((c.toNat : Int) < 32) = decide (c.toNat < 32) by rw [decide_eq_decide]; omega, show decide (126 < (c.toNat : Int)) = decide (126 < c.toNat) by rw [decide_eq_decide]; omega,
  show ((c.toNat : Int) == 34) = (c.toNat == 34) by rw [Bool.eq_iff_iff]; simp; omega, show ((c.toNat : Int) == 92) = (c.toNat == 92) by rw [Bool.eq_iff_iff]; simp; omega]
 cases decide (c.toNat < 32) <;> cases decide (126 < c.toNat) <;> cases c.toNat == 34 <;> rfl
theorem quo8 {n : Nat} (h : n < 256) : IntKind.u8.wrap ((n : Int).tdiv 16) = ((n / 16 : Nat) : Int) := by
 have : (n : Int).tdiv 16 = ((n / 16 : Nat) : Int) := by rw [Int.tdiv_eq_ediv_of_nonneg (by omega)]; omega
 rw [this]
 exact wrap8 (by omega) (by omega)
theorem inc8 {n : Nat} (h : n < 255) : IntKind.u8.wrap ((n : Int) + 1) = ((n + 1 : Nat) : Int) := by
 rw [wrap8 (by omega) (by omega)]; omega
theorem rem8 {n : Nat} : (n : Int).tmod 16 = ((n % 16 : Nat) : Int) := by
 rw [Int.tmod_eq_emod_of_nonneg (by omega)]; omega
theorem hex_at : ∀ {n : Nat}, n < 16 → List.drop n (List.take (n + 1) hexT) = [hexD n]
 | 0, _ => rfl | 1, _ => rfl | 2, _ => rfl | 3, _ => rfl | 4, _ => rfl | 5, _ => rfl | 6, _ => rfl | 7, _ => rfl
 | 8, _ => rfl | 9, _ => rfl | 10, _ => rfl | 11, _ => rfl | 12, _ => rfl | 13, _ => rfl | 14, _ => rfl | 15, _ => rfl
 | n + 16, h => absurd h (by omega)
set_option maxHeartbeats 16000000 in
theorem quotedR_spec (s : List UInt8) (hs : s.length ≤ 1000000) (Post : PV → List (Nat × Blk) → Prop) (h : Post (.str (quoT s)) []) : Spec K 79 [.str s] [] Post := by
 refine is79.specW K_ok K_mix false (by simp) (by simp [keys]) ?_
 (conv => whnf); repeat ((first | (apply And.intro;· exact Cl4) | apply T1 | apply T2 | apply T3 | apply T4 | apply T6 | apply T5); conv => whnf)
 refine ⟨Nat, fun i => ⟨57, [(5, .int .i64 i), (4, .str (34 :: (s.take i).flatMap quoC)), (3, .str hexT), (0, .str s)], [], []⟩, fun i => i ≤ s.length, fun i => s.length - i, ⟨[], 0, Nat.zero_le _, ?_⟩, fun i hI => ?_⟩
 ·simp [meets, ghosts, St.le, St.get, look, keys, PV.labs, labsL]
  rfl
 ·have hI : i ≤ s.length := hI
  conv => (arg 5; dsimp only)
  (conv => whnf); repeat ((first | (apply And.intro;· exact Cl4) | apply T1 | apply T2 | apply T3 | apply T4 | apply T6 | apply T5); conv => whnf)
  by_cases hix : i < s.length
  ·rw [decide_eq_true (show (i : Int) < (s.length : Int) by omega)]
   (conv => whnf); repeat ((first | (apply And.intro;· exact Cl4) | apply T1 | apply T2 | apply T3 | apply T4 | apply T6 | apply T5); conv => whnf)
   have hg : s.getD i 0 = s[i] := by rw [List.getD_eq_getElem?_getD, List.getElem?_eq_getElem hix]; rfl
   rw [Int.toNat_natCast, hg]
   (conv => whnf); repeat ((first | (apply And.intro;· exact Cl4) | apply T1 | apply T2 | apply T3 | apply T4 | apply T6 | apply T5); conv => whnf)
   have hlt := UInt8.toNat_lt s[i]
   have hqi := quo_len (s.take i)
   rw [List.length_take, Nat.min_eq_left hI] at hqi
   have htk : (s.take (i + 1)).flatMap quoC = (s.take i).flatMap quoC ++ quoC s[i] := by rw [List.take_succ_eq_append_getElem hix, List.flatMap_append]; simp
   have hE : (bif bif bif decide ((s[i].toNat : Int) < 32) then true else decide (126 < (s[i].toNat : Int)) then true else (s[i].toNat : Int) == 34 then true else (s[i].toNat : Int) == 92) = escB s[i] := esc_eq s[i]
   rw [hE]
   cases hc : escB s[i]
   ·have hq : quoC s[i] = [s[i]] := by unfold quoC; rw [hc]; rfl
    (conv => whnf); repeat ((first | (apply And.intro;· exact Cl4) | apply T1 | apply T2 | apply T3 | apply T4 | apply T6 | apply T5); conv => whnf)
    rw [wrap64 (n := (i : Int) + 1) (by omega) (by omega)]
    refine ⟨fun _ => ⟨by omega, by omega⟩, ?_⟩
    (conv => whnf); repeat ((first | (apply And.intro;· exact Cl4) | apply T1 | apply T2 | apply T3 | apply T4 | apply T6 | apply T5); conv => whnf)
    have ed : List.drop (i : Int).toNat (List.take ((i : Int) + 1).toNat s) = [s[i]] := by
     rw [show ((i : Int) + 1).toNat = i + 1 by omega, Int.toNat_natCast, List.take_succ_eq_append_getElem hix, List.drop_append_of_le_length (by simp; omega), List.drop_of_length_le (by rw [List.length_take]; omega)]
     rfl
    rw [ed]
    refine ⟨fun _ => by show (34 :: List.flatMap quoC (List.take i s)).length + 1 ≤ _; rw [List.length_cons]; omega, ?_⟩
    (conv => whnf); repeat ((first | (apply And.intro;· exact Cl4) | apply T1 | apply T2 | apply T3 | apply T4 | apply T6 | apply T5); conv => whnf)
    rw [wrap64 (n := (i : Int) + 1) (by omega) (by omega)]
    rw [hq] at htk
    refine ⟨[], i + 1, hix, by show s.length - (i + 1) < s.length - i; omega, ?_⟩
    simp [meets, ghosts, St.le, St.get, look, keys, PV.labs, labsL, lookB, Blk.labs, htk]
   ·have hq : quoC s[i] = [92, hexD (s[i].toNat / 16), hexD (s[i].toNat % 16)] := by unfold quoC; rw [hc]; rfl
    (conv => whnf); repeat ((first | (apply And.intro;· exact Cl4) | apply T1 | apply T2 | apply T3 | apply T4 | apply T6 | apply T5); conv => whnf)
    refine ⟨fun _ => by show (34 :: List.flatMap quoC (List.take i s)).length + 1 ≤ _; rw [List.length_cons]; omega, ?_⟩
    (conv => whnf); repeat ((first | (apply And.intro;· exact Cl4) | apply T1 | apply T2 | apply T3 | apply T4 | apply T6 | apply T5); conv => whnf)
    rw [quo8 hlt, inc8 (show s[i].toNat / 16 < 255 by omega)]
    refine ⟨fun _ => ⟨by omega, by show ((s[i].toNat / 16 + 1 : Nat) : Int) ≤ 16; omega⟩, ?_⟩
    (conv => whnf); repeat ((first | (apply And.intro;· exact Cl4) | apply T1 | apply T2 | apply T3 | apply T4 | apply T6 | apply T5); conv => whnf)
    rw [Int.toNat_natCast, Int.toNat_natCast, hex_at (show s[i].toNat / 16 < 16 by omega)]
    refine ⟨fun _ => by show (34 :: List.flatMap quoC (List.take i s) ++ [92]).length + 1 ≤ _; rw [List.length_append, List.length_cons, List.length_singleton]; omega, ?_⟩
    (conv => whnf); repeat ((first | (apply And.intro;· exact Cl4) | apply T1 | apply T2 | apply T3 | apply T4 | apply T6 | apply T5); conv => whnf)
    rw [rem8, inc8 (show s[i].toNat % 16 < 255 by omega)]
    refine ⟨fun _ => ⟨by omega, by show ((s[i].toNat % 16 + 1 : Nat) : Int) ≤ 16; omega⟩, ?_⟩
    (conv => whnf); repeat ((first | (apply And.intro;· exact Cl4) | apply T1 | apply T2 | apply T3 | apply T4 | apply T6 | apply T5); conv => whnf)
    rw [Int.toNat_natCast, Int.toNat_natCast, hex_at (show s[i].toNat % 16 < 16 by omega)]
    refine ⟨fun _ => by show (34 :: List.flatMap quoC (List.take i s) ++ [92] ++ [hexD (s[i].toNat / 16)]).length + 1 ≤ _; rw [List.length_append, List.length_append, List.length_cons, List.length_singleton, List.length_singleton]; omega, ?_⟩
    (conv => whnf); repeat ((first | (apply And.intro;· exact Cl4) | apply T1 | apply T2 | apply T3 | apply T4 | apply T6 | apply T5); conv => whnf)
    rw [wrap64 (n := (i : Int) + 1) (by omega) (by omega)]
    rw [hq] at htk
    refine ⟨[], i + 1, hix, by show s.length - (i + 1) < s.length - i; omega, ?_⟩
    simp [meets, ghosts, St.le, St.get, look, keys, PV.labs, labsL, lookB, Blk.labs, htk]
  ·obtain rfl : i = s.length := by omega
   rw [decide_eq_false (show ¬ (s.length : Int) < (s.length : Int) by omega), List.take_length]
   (conv => whnf); repeat ((first | (apply And.intro;· exact Cl4) | apply T1 | apply T2 | apply T3 | apply T4 | apply T6 | apply T5); conv => whnf)
   have hqi := quo_len s
   refine ⟨fun _ => by show (34 :: List.flatMap quoC s).length + 1 ≤ _; rw [List.length_cons]; omega, ?_⟩
   (conv => whnf); repeat ((first | (apply And.intro;· exact Cl4) | apply T1 | apply T2 | apply T3 | apply T4 | apply T6 | apply T5); conv => whnf)
   exact h
end Go.Vc
namespace Go.Vc
open Go Go.Proofs
set_option maxRecDepth 100000
theorem len44 : ({ data := #[44] } : ByteArray).data.toList.length = 1 := rfl
theorem len58 : ({ data := #[58] } : ByteArray).data.toList.length = 1 := rfl
def ShowRC (N : Nat) : Prop := ∀ v : V, bulkV v ≤ N → bulkV v ≤ 100000000000 → allV v = true → sizeV v ≤ 1000 → ∀ (z1 z2 : Nat) (lp : List PV) (t1 t2 : Bool), VA v z1 lp z2 → ∀ (Post : PV → List (Nat × Blk) → Prop), Post (.str (showV v)) [] → Spec K 50 [.agg (vc v z1 lp t1 z2 t2)] [] Post
theorem join_take {p : List (List UInt8)} {i : Nat} {a : List UInt8} (h : p[i]? = some a) : joinC (p.take (i + 1)) = if i = 0 then a else joinC (p.take i) ++ 44 :: a := by
 obtain ⟨hi, he⟩ := List.getElem?_eq_some_iff.1 h
 rw [List.take_succ_eq_append_getElem hi, he, joinC_snoc]
 by_cases h0 : i = 0
 ·subst h0; rfl
 ·rw [if_neg h0, if_neg]
  intro h1
  have := congrArg List.length h1
  rw [List.length_take, List.length_nil] at this
  omega
theorem join_take_len (p : List (List UInt8)) (i : Nat) : (joinC (p.take i)).length ≤ (p.map fun x => x.length + 1).sum := by
 have h1 := joinC_len (p.take i)
 have h2 : ((p.take i).map fun x => x.length + 1).sum ≤ (p.map fun x => x.length + 1).sum := by
  conv => rhs; rw [← List.take_append_drop i p, List.map_append, List.sum_append]
  omega
 omega
set_option maxHeartbeats 16000000 in
theorem showR_step {N : Nat} (ih : ShowRC N) : ShowRC (N + 1) := by
 intro v hs hs9 hav hsz z1 z2 lp t1 t2 ha Post h
 have hnv := ha.nV
 have hsl := show_len v hnv
 obtain ⟨hl, hz1, hz2, hn, _⟩ := ha
 obtain ⟨k, n, s, l, ns⟩ := v
 simp only [V.k, V.n, V.s, V.l, V.ns, vc] at *
 have hlp := VPs_len hl
 have hz1' : z1 = 5 ∨ lp = [] := hz1.imp (fun h => h) fun h => by rw [h] at hlp; exact List.length_eq_zero_iff.1 hlp
 have hz2' : z2 = 1 ∨ strs ns = [] := hz2.imp (fun h => h) fun h => by rw [h]; rfl
 simp only [bulkV] at hs hs9
 simp only [allV, Bool.and_eq_true] at hav
 obtain ⟨how, hal⟩ := hav
 have hnb := nsBulk_le ns
 have hlb := len_sizeVs l
 have hsb := sizes_bulk l
 have hsz' := hsz
 simp only [sizeV] at hsz'
 have hpb : ((partsV k ns l).map fun x => x.length + 1).sum ≤ 26000 := by
  have j2 := showL_len l hnv.2
  have j3 := showR_len ns l hnv.2
  have j4 : ((partsV k ns l).map fun x => x.length + 1).sum ≤ nsLen ns + 25 * sizeVs l := by
   unfold partsV
   split
   ·exact j3
   ·exact Nat.le_trans j2 (by omega)
  omega
 refine is50.specW K_ok K_mix false (by simp) (by simp [keys]) ?_
 rw [showV] at h
 (conv => whnf); repeat ((first | (apply And.intro;· exact Cl4) | apply T1 | apply T2 | apply T3 | apply T4 | apply T6 | apply T5); conv => whnf)
 by_cases h0 : k = 0
 ·subst h0
  rw [if_pos rfl] at h
  (conv => whnf); repeat ((first | (apply And.intro;· exact Cl4) | apply T1 | apply T2 | apply T3 | apply T4 | apply T6 | apply T5); conv => whnf)
  exact h
 rw [show (k == 0) = false by simpa using h0]
 (conv => whnf); repeat ((first | (apply And.intro;· exact Cl4) | apply T1 | apply T2 | apply T3 | apply T4 | apply T6 | apply T5); conv => whnf)
 by_cases h1 : k = 1
 ·subst h1
  rw [if_neg (by decide), if_pos rfl] at h
  (conv => whnf); repeat ((first | (apply And.intro;· exact Cl4) | apply T1 | apply T2 | apply T3 | apply T4 | apply T6 | apply T5); conv => whnf)
  refine itoa_all n hn _ ?_
  (conv => whnf); repeat ((first | (apply And.intro;· exact Cl4) | apply T1 | apply T2 | apply T3 | apply T4 | apply T6 | apply T5); conv => whnf)
  exact h
 rw [show (k == 1) = false by simpa using h1]
 (conv => whnf); repeat ((first | (apply And.intro;· exact Cl4) | apply T1 | apply T2 | apply T3 | apply T4 | apply T6 | apply T5); conv => whnf)
 by_cases h2 : k = 2
 ·subst h2
  rw [if_neg (by decide), if_neg (by decide), if_pos rfl] at h
  (conv => whnf); repeat ((first | (apply And.intro;· exact Cl4) | apply T1 | apply T2 | apply T3 | apply T4 | apply T6 | apply T5); conv => whnf)
  by_cases hn1 : n = 1
  ·subst hn1
   (conv => whnf); repeat ((first | (apply And.intro;· exact Cl4) | apply T1 | apply T2 | apply T3 | apply T4 | apply T6 | apply T5); conv => whnf)
   exact h
  ·rw [if_neg hn1] at h
   rw [show (n == 1) = false by simpa using hn1]
   (conv => whnf); repeat ((first | (apply And.intro;· exact Cl4) | apply T1 | apply T2 | apply T3 | apply T4 | apply T6 | apply T5); conv => whnf)
   exact h
 rw [show (k == 2) = false by simpa using h2]
 (conv => whnf); repeat ((first | (apply And.intro;· exact Cl4) | apply T1 | apply T2 | apply T3 | apply T4 | apply T6 | apply T5); conv => whnf)
 by_cases h3 : k = 3
 ·subst h3
  rw [if_neg (by decide), if_neg (by decide), if_neg (by decide), if_pos rfl] at h
  (conv => whnf); repeat ((first | (apply And.intro;· exact Cl4) | apply T1 | apply T2 | apply T3 | apply T4 | apply T6 | apply T5); conv => whnf)
  refine quotedR_spec s (by omega) _ ?_
  (conv => whnf); repeat ((first | (apply And.intro;· exact Cl4) | apply T1 | apply T2 | apply T3 | apply T4 | apply T6 | apply T5); conv => whnf)
  exact h
 rw [show (k == 3) = false by simpa using h3]
 (conv => whnf); repeat ((first | (apply And.intro;· exact Cl4) | apply T1 | apply T2 | apply T3 | apply T4 | apply T6 | apply T5); conv => whnf)
 by_cases h6 : k = 6
 ·subst h6
  rw [if_neg (by decide), if_neg (by decide), if_neg (by decide), if_neg (by decide), if_pos rfl] at h
  have hil := Lib.itoa_length_le n hn.1 hn.2
  (conv => whnf); repeat ((first | (apply And.intro;· exact Cl4) | apply T1 | apply T2 | apply T3 | apply T4 | apply T6 | apply T5); conv => whnf)
  refine itoa_all n hn _ ?_
  (conv => whnf); repeat ((first | (apply And.intro;· exact Cl4) | apply T1 | apply T2 | apply T3 | apply T4 | apply T6 | apply T5); conv => whnf)
  refine ⟨fun _ => by show 1 + (Lib.itoa n).length ≤ _; omega, ?_⟩
  (conv => whnf); repeat ((first | (apply And.intro;· exact Cl4) | apply T1 | apply T2 | apply T3 | apply T4 | apply T6 | apply T5); conv => whnf)
  exact h
 rw [show (k == 6) = false by simpa using h6]
 rw [if_neg h0, if_neg h1, if_neg h2, if_neg h3, if_neg h6] at h
 have hpn := parts_n k ns l
 (conv => whnf); repeat ((first | (apply And.intro;· exact Cl4) | apply T1 | apply T2 | apply T3 | apply T4 | apply T6 | apply T5); conv => whnf)
 refine ⟨Nat, fun i => ⟨69, [(4, .int .i64 i), (3, .str (joinC ((partsV k ns l).take i))), (1, .ptr 0 0)], [(0, .box [.int .i64 k, .int .i64 n, .str s, .sl z1 lp t1 true, .sl z2 (strs ns) t2 true])], []⟩, fun i => i ≤ l.length, fun i => l.length - i,
  ⟨[], 0, Nat.zero_le _, ?_⟩, fun i hI => ?_⟩
 ·simp [meets, ghosts, ghost, St.le, St.get, St.put, look, keys, PV.labs, labsL, lookB, Blk.labs, joinC]
 ·have hI : i ≤ l.length := hI
  have hjl := join_take_len (partsV k ns l) i
  conv => (arg 5; dsimp only)
  (conv => whnf); repeat ((first | (apply And.intro;· exact Cl4) | apply T1 | apply T2 | apply T3 | apply T4 | apply T6 | apply T5); conv => whnf)
  rw [hlp]
  (conv => whnf); repeat ((first | (apply And.intro;· exact Cl4) | apply T1 | apply T2 | apply T3 | apply T4 | apply T6 | apply T5); conv => whnf)
  by_cases hix : i < l.length
  ·rw [decide_eq_true (show (i : Int) < (l.length : Int) by omega)]
   obtain ⟨y1, mp, u1, o1, y2, u2, o2, hp, hq, g1, g2, g3⟩ := (VPs_nth hl hix).out
   have hbm := bulkVs_mem hix
   have hsm := sizeVs_in (List.getElem_mem hix)
   have hll := show_len l[i] (nVs_mem hnv.2 (List.getElem_mem hix))
   (conv => whnf); repeat ((first | (apply And.intro;· exact Cl4) | apply T1 | apply T2 | apply T3 | apply T4 | apply T6 | apply T5); conv => whnf)
   by_cases h5 : k = 5
   ·subst h5
    have hin : i < ns.length := by have := own_len how; omega
    have hpp : (partsV 5 ns l)[i]? = some ((ns[i] ++ [58]) ++ showV l[i]) := by
     rw [show (ns[i] ++ [58]) ++ showV l[i] = ns[i] ++ 58 :: showV l[i] by simp]
     exact showR_nth hix hin
    have hnm : ns[i].length ≤ nsLen ns := nsLen_mem hin
    have hjt := join_take hpp
    by_cases hi0 : i = 0
    ·have hj0 : joinC ((partsV 5 ns l).take i) = [] := by rw [hi0]; rfl
     rw [if_pos hi0] at hjt
     rw [decide_eq_false (show ¬ (0 : Int) < (i : Int) by omega)]
     (conv => whnf); repeat ((first | (apply And.intro;· exact Cl4) | apply T1 | apply T2 | apply T3 | apply T4 | apply T6 | apply T5); conv => whnf)
     refine ⟨fun _ => ⟨by omega, by rw [strs_len]; omega⟩, ?_⟩
     (conv => whnf); repeat ((first | (apply And.intro;· exact Cl4) | apply T1 | apply T2 | apply T3 | apply T4 | apply T6 | apply T5); conv => whnf)
     rw [Int.toNat_natCast, nth_strs hin]
     (conv => whnf); repeat ((first | (apply And.intro;· exact Cl4) | apply T1 | apply T2 | apply T3 | apply T4 | apply T6 | apply T5); conv => whnf)
     refine ⟨fun _ => by simp only [List.length_append, len44, len58, List.length_cons, List.length_nil]; omega, ?_⟩
     (conv => whnf); repeat ((first | (apply And.intro;· exact Cl4) | apply T1 | apply T2 | apply T3 | apply T4 | apply T6 | apply T5); conv => whnf)
     rw [Int.toNat_natCast, hp]
     (conv => whnf); repeat ((first | (apply And.intro;· exact Cl4) | apply T1 | apply T2 | apply T3 | apply T4 | apply T6 | apply T5); conv => whnf)
     refine ih l[i] (by omega) (by omega) (allVs_nth hal hix) (by omega) y1 y2 mp _ _ ⟨hq, g1, g2, g3, by omega⟩ _ ?_
     (conv => whnf); repeat ((first | (apply And.intro;· exact Cl4) | apply T1 | apply T2 | apply T3 | apply T4 | apply T6 | apply T5); conv => whnf)
     refine ⟨fun _ => by simp only [List.length_append, len44, len58, List.length_cons, List.length_nil]; omega, ?_⟩
     (conv => whnf); repeat ((first | (apply And.intro;· exact Cl4) | apply T1 | apply T2 | apply T3 | apply T4 | apply T6 | apply T5); conv => whnf)
     rw [wrap64 (n := (i : Int) + 1) (by omega) (by omega)]
     refine ⟨[], i + 1, hix, by show l.length - (i + 1) < l.length - i; omega, ?_⟩
     simp [meets, ghosts, St.le, St.get, look, keys, PV.labs, labsL, lookB, Blk.labs, hjt, hj0]
    ·rw [if_neg hi0] at hjt
     rw [decide_eq_true (show (0 : Int) < (i : Int) by omega)]
     (conv => whnf); repeat ((first | (apply And.intro;· exact Cl4) | apply T1 | apply T2 | apply T3 | apply T4 | apply T6 | apply T5); conv => whnf)
     refine ⟨fun _ => by show (joinC ((partsV 5 ns l).take i)).length + 1 ≤ _; omega, ?_⟩
     (conv => whnf); repeat ((first | (apply And.intro;· exact Cl4) | apply T1 | apply T2 | apply T3 | apply T4 | apply T6 | apply T5); conv => whnf)
     refine ⟨fun _ => ⟨by omega, by rw [strs_len]; omega⟩, ?_⟩
     (conv => whnf); repeat ((first | (apply And.intro;· exact Cl4) | apply T1 | apply T2 | apply T3 | apply T4 | apply T6 | apply T5); conv => whnf)
     rw [Int.toNat_natCast, nth_strs hin]
     (conv => whnf); repeat ((first | (apply And.intro;· exact Cl4) | apply T1 | apply T2 | apply T3 | apply T4 | apply T6 | apply T5); conv => whnf)
     refine ⟨fun _ => by simp only [List.length_append, len44, len58, List.length_cons, List.length_nil]; omega, ?_⟩
     (conv => whnf); repeat ((first | (apply And.intro;· exact Cl4) | apply T1 | apply T2 | apply T3 | apply T4 | apply T6 | apply T5); conv => whnf)
     refine ⟨fun _ => by simp only [List.length_append, len44, len58, List.length_cons, List.length_nil]; omega, ?_⟩
     (conv => whnf); repeat ((first | (apply And.intro;· exact Cl4) | apply T1 | apply T2 | apply T3 | apply T4 | apply T6 | apply T5); conv => whnf)
     rw [Int.toNat_natCast, hp]
     (conv => whnf); repeat ((first | (apply And.intro;· exact Cl4) | apply T1 | apply T2 | apply T3 | apply T4 | apply T6 | apply T5); conv => whnf)
     refine ih l[i] (by omega) (by omega) (allVs_nth hal hix) (by omega) y1 y2 mp _ _ ⟨hq, g1, g2, g3, by omega⟩ _ ?_
     (conv => whnf); repeat ((first | (apply And.intro;· exact Cl4) | apply T1 | apply T2 | apply T3 | apply T4 | apply T6 | apply T5); conv => whnf)
     refine ⟨fun _ => by simp only [List.length_append, len44, len58, List.length_cons, List.length_nil]; omega, ?_⟩
     (conv => whnf); repeat ((first | (apply And.intro;· exact Cl4) | apply T1 | apply T2 | apply T3 | apply T4 | apply T6 | apply T5); conv => whnf)
     rw [wrap64 (n := (i : Int) + 1) (by omega) (by omega)]
     refine ⟨[], i + 1, hix, by show l.length - (i + 1) < l.length - i; omega, ?_⟩
     simp [meets, ghosts, St.le, St.get, look, keys, PV.labs, labsL, lookB, Blk.labs, hjt]
   ·have hpp : (partsV k ns l)[i]? = some (showV l[i]) := by unfold partsV; rw [if_neg h5]; exact showL_nth hix
    have hjt := join_take hpp
    by_cases hi0 : i = 0
    ·have hj0 : joinC ((partsV k ns l).take i) = [] := by rw [hi0]; rfl
     rw [if_pos hi0] at hjt
     rw [decide_eq_false (show ¬ (0 : Int) < (i : Int) by omega)]
     (conv => whnf); repeat ((first | (apply And.intro;· exact Cl4) | apply T1 | apply T2 | apply T3 | apply T4 | apply T6 | apply T5); conv => whnf)
     rw [show (k == 5) = false by simpa using h5]
     (conv => whnf); repeat ((first | (apply And.intro;· exact Cl4) | apply T1 | apply T2 | apply T3 | apply T4 | apply T6 | apply T5); conv => whnf)
     rw [Int.toNat_natCast, hp]
     (conv => whnf); repeat ((first | (apply And.intro;· exact Cl4) | apply T1 | apply T2 | apply T3 | apply T4 | apply T6 | apply T5); conv => whnf)
     refine ih l[i] (by omega) (by omega) (allVs_nth hal hix) (by omega) y1 y2 mp _ _ ⟨hq, g1, g2, g3, by omega⟩ _ ?_
     (conv => whnf); repeat ((first | (apply And.intro;· exact Cl4) | apply T1 | apply T2 | apply T3 | apply T4 | apply T6 | apply T5); conv => whnf)
     rw [wrap64 (n := (i : Int) + 1) (by omega) (by omega)]
     refine ⟨[], i + 1, hix, by show l.length - (i + 1) < l.length - i; omega, ?_⟩
     simp [meets, ghosts, St.le, St.get, look, keys, PV.labs, labsL, lookB, Blk.labs, hjt, hj0]
    ·rw [if_neg hi0] at hjt
     rw [decide_eq_true (show (0 : Int) < (i : Int) by omega)]
     (conv => whnf); repeat ((first | (apply And.intro;· exact Cl4) | apply T1 | apply T2 | apply T3 | apply T4 | apply T6 | apply T5); conv => whnf)
     refine ⟨fun _ => by show (joinC ((partsV k ns l).take i)).length + 1 ≤ _; omega, ?_⟩
     (conv => whnf); repeat ((first | (apply And.intro;· exact Cl4) | apply T1 | apply T2 | apply T3 | apply T4 | apply T6 | apply T5); conv => whnf)
     rw [show (k == 5) = false by simpa using h5]
     (conv => whnf); repeat ((first | (apply And.intro;· exact Cl4) | apply T1 | apply T2 | apply T3 | apply T4 | apply T6 | apply T5); conv => whnf)
     rw [Int.toNat_natCast, hp]
     (conv => whnf); repeat ((first | (apply And.intro;· exact Cl4) | apply T1 | apply T2 | apply T3 | apply T4 | apply T6 | apply T5); conv => whnf)
     refine ih l[i] (by omega) (by omega) (allVs_nth hal hix) (by omega) y1 y2 mp _ _ ⟨hq, g1, g2, g3, by omega⟩ _ ?_
     (conv => whnf); repeat ((first | (apply And.intro;· exact Cl4) | apply T1 | apply T2 | apply T3 | apply T4 | apply T6 | apply T5); conv => whnf)
     refine ⟨fun _ => by simp only [List.length_append, len44, len58, List.length_cons, List.length_nil]; omega, ?_⟩
     (conv => whnf); repeat ((first | (apply And.intro;· exact Cl4) | apply T1 | apply T2 | apply T3 | apply T4 | apply T6 | apply T5); conv => whnf)
     rw [wrap64 (n := (i : Int) + 1) (by omega) (by omega)]
     refine ⟨[], i + 1, hix, by show l.length - (i + 1) < l.length - i; omega, ?_⟩
     simp [meets, ghosts, St.le, St.get, look, keys, PV.labs, labsL, lookB, Blk.labs, hjt]
  ·obtain rfl : i = l.length := by omega
   rw [decide_eq_false (show ¬ (l.length : Int) < (l.length : Int) by omega), List.take_of_length_le (l := partsV k ns l) (by omega)]
   rw [List.take_of_length_le (l := partsV k ns l) (by omega)] at hjl
   (conv => whnf); repeat ((first | (apply And.intro;· exact Cl4) | apply T1 | apply T2 | apply T3 | apply T4 | apply T6 | apply T5); conv => whnf)
   by_cases h5 : k = 5
   ·subst h5
    rw [if_pos rfl] at h
    (conv => whnf); repeat ((first | (apply And.intro;· exact Cl4) | apply T1 | apply T2 | apply T3 | apply T4 | apply T6 | apply T5); conv => whnf)
    refine ⟨fun _ => by show 1 + (joinC (partsV 5 ns l)).length ≤ _; omega, ?_⟩
    (conv => whnf); repeat ((first | (apply And.intro;· exact Cl4) | apply T1 | apply T2 | apply T3 | apply T4 | apply T6 | apply T5); conv => whnf)
    refine ⟨fun _ => by show (123 :: joinC (partsV 5 ns l)).length + 1 ≤ _; rw [List.length_cons]; omega, ?_⟩
    (conv => whnf); repeat ((first | (apply And.intro;· exact Cl4) | apply T1 | apply T2 | apply T3 | apply T4 | apply T6 | apply T5); conv => whnf)
    exact h
   ·rw [if_neg h5] at h
    have hp4 : partsV k ns l = showL l := if_neg h5
    rw [hp4] at hjl hpb ⊢
    rw [show (k == 5) = false by simpa using h5]
    (conv => whnf); repeat ((first | (apply And.intro;· exact Cl4) | apply T1 | apply T2 | apply T3 | apply T4 | apply T6 | apply T5); conv => whnf)
    refine ⟨fun _ => by show 1 + (joinC (showL l)).length ≤ _; omega, ?_⟩
    (conv => whnf); repeat ((first | (apply And.intro;· exact Cl4) | apply T1 | apply T2 | apply T3 | apply T4 | apply T6 | apply T5); conv => whnf)
    refine ⟨fun _ => by show (91 :: joinC (showL l)).length + 1 ≤ _; rw [List.length_cons]; omega, ?_⟩
    (conv => whnf); repeat ((first | (apply And.intro;· exact Cl4) | apply T1 | apply T2 | apply T3 | apply T4 | apply T6 | apply T5); conv => whnf)
    exact h
theorem showR_all : ∀ N, ShowRC N
 | 0 => fun v hv => absurd (bulkV_pos v) (by omega)
 | N + 1 => showR_step (showR_all N)
theorem showR_spec (v : V) (z1 z2 : Nat) (lp : List PV) (t1 t2 : Bool) (a : VA v z1 lp z2) (Post : PV → List (Nat × Blk) → Prop) (h : Post (.str (if mayV v = true then showV v else [])) []) : Spec K 29 [.agg (vc v z1 lp t1 z2 t2)] [] Post := by
 refine is29.specW K_ok K_mix false (by simp) (by simp [keys]) ?_
 (conv => whnf); repeat ((first | (apply And.intro;· exact Cl4) | apply T1 | apply T2 | apply T3 | apply T4 | apply T6 | apply T5); conv => whnf)
 refine may_spec v z1 z2 lp _ _ _ a ?_
 cases hm : mayV v
 ·rw [hm, if_neg (by decide)] at h
  (conv => whnf); repeat ((first | (apply And.intro;· exact Cl4) | apply T1 | apply T2 | apply T3 | apply T4 | apply T6 | apply T5); conv => whnf)
  exact h
 ·rw [hm, if_pos rfl] at h
  (conv => whnf); repeat ((first | (apply And.intro;· exact Cl4) | apply T1 | apply T2 | apply T3 | apply T4 | apply T6 | apply T5); conv => whnf)
  refine showR_all _ v (Nat.le_refl _) a.b (okV_iff.1 hm).2 (by have := (okV_iff.1 hm).1.2; omega) z1 z2 lp _ _ a _ ?_
  (conv => whnf); repeat ((first | (apply And.intro;· exact Cl4) | apply T1 | apply T2 | apply T3 | apply T4 | apply T6 | apply T5); conv => whnf)
  exact h
end Go.Vc
