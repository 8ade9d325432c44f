/- What is proved here: contracts of functions of the program: of each function what it hands back and what it leaves in memory. Conditions: those that each theorem names. -/
import Derived.Lib.ItoaLen
import Derived.Test.YthhokabbanhllaaGreatDoorTBp
import Derived.Test.YthhokabbanhllaaGreatDoorTBq
import Derived.Test.YthhokabbanhllaaGreatDoorTBr
import Derived.Test.YthhokabbanhllaaGreatDoorTAh
import Derived.Test.YthhokabbanhllaaGreatDoorTAi
import Derived.Test.YthhokabbanhllaaGreatDoorTAk
set_option linter.unusedVariables false
set_option linter.unusedSimpArgs false
set_option linter.unusedSectionVars false
namespace Go.Vc
open Go Go.Proofs Go.RowKit
set_option maxRecDepth 100000
theorem itoa_all : ItoaC := by
 intro n hn Post h
 refine spec_of_cspec Tryz.func75 (by kernel_rfl) (c := (Tryz.f75.body).getD .skip) (by kernel_rfl) fun w Z φ vs hbef => ?_
 obtain ⟨h1, h2, h3, h4, h5⟩ := hbef
 match vs, h1 with
 | [x0], _ =>
  have := (h2 0 _ _ rfl rfl).int_inv
  subst this
  have htab : Lib.TabIs Tryz.prog w "internal/strconv.uint64pow10" .u64 Lib.pow10Tab := by
   have hg : Tryz.prog.globalNamed "internal/strconv.uint64pow10" = some 1 := by kernel_rfl
   rcases h5 1 with h | ⟨l, cs, g1, g2, g3, g4, c, T, fr, g5, g6⟩
   ·cases h
   ·have e : l = powT := by
     have e : PV.ro powT 0 true = .ro l 0 true := g1
     cases e; rfl
    subst e
    have hc : c = (Lib.pow10Tab.map fun z => Value.int .u64 z).toArray := by
     apply Array.ext
     ·rw [g6]; rfl
     ·intro i hi hi2
      have hi3 : i < powT.length := by rw [← g6]; exact hi
      have e1 := g3 i hi3
      unfold World.cell? at e1
      rw [g5] at e1
      have e1 : c[i]? = some (cs i) := e1
      rw [Array.getElem?_eq_getElem hi] at e1
      have e2 : ∃ z, powT[i]? = some (.int .u64 z) ∧ (Lib.pow10Tab.map fun z => Value.int .u64 z)[i]? = some (.int .u64 z) := by
       have hi4 : i < 20 := hi3
       have hall : ∀ j, j < 20 → ∃ z, powT[j]? = some (.int .u64 z) ∧ (Lib.pow10Tab.map fun z => Value.int .u64 z)[j]? = some (.int .u64 z) := by
        intro j hj
        match j, hj with
        | 0, _ | 1, _ | 2, _ | 3, _ | 4, _ | 5, _ | 6, _ | 7, _ | 8, _ | 9, _ | 10, _ | 11, _ | 12, _ | 13, _ | 14, _ | 15, _ | 16, _ | 17, _ | 18, _ | 19, _ => exact ⟨_, rfl, rfl⟩
        | j + 20, hj => exact absurd hj (by omega)
       exact hall i hi4
      obtain ⟨z, e2, e3⟩ := e2
      have e4 := g4 i _ e2
      have e5 : cs i = .int .u64 z := by
       generalize cs i = y at e4
       cases e4; rfl
      have e6 : c[i] = .int .u64 z := by rw [Option.some.inj e1, e5]
      rw [e6]
      have : (Lib.pow10Tab.map fun z => Value.int .u64 z).toArray[i]? = some (.int .u64 z) := by rw [List.getElem?_toArray]; exact e3
      rw [Array.getElem?_eq_getElem hi2] at this
      exact (Option.some.inj this).symm
    unfold Lib.TabIs World.var?
    rw [hg]
    show (match w.heap[1]? with | some (.cells cs _ _) => some cs | _ => none) = _
    rw [g5, hc]
  refine (Tryz.strconv_Itoa n hn.1 hn.2 w htab).mono fun e w' ⟨he, k, os, hw⟩ => ⟨_, he, ?_⟩
  subst hw
  refine after_below ⟨rfl, rfl, rfl, ?_, fun k hk => ?_⟩ h4 h (.str _ _ (by simp))
  ·show w.heap.size ≤ (w.heap ++ os).size
   simp
  ·show (w.heap ++ os)[k]? = _
   rw [Array.getElem?_append_left hk]
theorem joinC_len : ∀ l : List (List UInt8), (joinC l).length ≤ (l.map fun x => x.length + 1).sum
 | [] => by simp [joinC]
 | [a] => by simp [joinC]
 | a :: b :: r => by
  have := joinC_len (b :: r)
  rw [joinC_cons (by simp), List.map_cons, List.sum_cons, List.length_append, List.length_cons]
  omega
mutual
theorem show_len : ∀ v : V, nV v → (showV v).length + 2 ≤ 25 * sizeV v
 | .mk k n s l ns, h => by
  have hn : i64 n ∧ nVs l := h
  have hi := Lib.itoa_length_le n hn.1.1 hn.1.2
  have hL := showL_len l hn.2
  have hR := showR_len ns l hn.2
  have hq : (quoT s).length ≤ 3 * s.length + 2 := by
   unfold quoT
   have := quo_len s
   rw [List.length_cons, List.length_append, List.length_cons, List.length_nil]
   omega
  have j1 := joinC_len (showL l)
  have j2 := joinC_len (showR ns l)
  simp only [sizeV]
  rw [showV]
  split
  ·simp; omega
  split
  ·omega
  split
  ·split <;> simp <;> omega
  split
  ·omega
  split
  ·rw [List.length_cons]; omega
  split
  ·rw [List.length_cons, List.length_append, List.length_cons, List.length_nil]; omega
  ·rw [List.length_cons, List.length_append, List.length_cons, List.length_nil]; omega
theorem showL_len : ∀ l : List V, nVs l → ((showL l).map fun x => x.length + 1).sum ≤ 25 * sizeVs l
 | [], _ => by simp [showL]
 | v :: r, h => by
  have h1 := show_len v h.1
  have h2 := showL_len r h.2
  simp only [showL, List.map_cons, List.sum_cons, sizeVs]
  omega
theorem showR_len : ∀ (ns : List (List UInt8)) (l : List V), nVs l → ((showR ns l).map fun x => x.length + 1).sum ≤ nsLen ns + 25 * sizeVs l
 | ns, [], _ => by simp [showR]
 | ns, v :: r, h => by
  have h1 := show_len v h.1
  have h2 := showR_len ns.tail r h.2
  have h3 : (ns.headD []).length + nsLen ns.tail = nsLen ns := by
   cases ns with
   | nil => rfl
   | cons a q => rfl
  simp only [showR, List.map_cons, List.sum_cons, sizeVs, List.length_append, List.length_cons]
  omega
end
theorem showL_n : ∀ l : List V, (showL l).length = l.length
 | [] => rfl
 | v :: r => by simp [showL, showL_n r]
theorem showR_n : ∀ (ns : List (List UInt8)) (l : List V), (showR ns l).length = l.length
 | ns, [] => rfl
 | ns, v :: r => by simp [showR, showR_n ns.tail r]
theorem showL_nth : ∀ {l : List V} {i : Nat} (h : i < l.length), (showL l)[i]? = some (showV l[i])
 | v :: r, 0, _ => rfl
 | v :: r, i + 1, h => showL_nth (l := r) (by simpa using h)
theorem showR_nth : ∀ {ns : List (List UInt8)} {l : List V} {i : Nat} (h : i < l.length) (hn : i < ns.length), (showR ns l)[i]? = some (ns[i] ++ 58 :: showV l[i])
 | a :: ns, v :: r, 0, _, _ => rfl
 | a :: ns, v :: r, i + 1, h, hn => showR_nth (ns := ns) (l := r) (by simpa using h) (by simpa using hn)
def partsV (k : Int) (ns : List (List UInt8)) (l : List V) : List (List UInt8) := if k = 5 then showR ns l else showL l
theorem parts_n (k : Int) (ns : List (List UInt8)) (l : List V) : (partsV k ns l).length = l.length := by
 unfold partsV; split
 ·exact showR_n ns l
 ·exact showL_n l
theorem strs_take_succ {p : List (List UInt8)} {i : Nat} {x : List UInt8} (h : p[i]? = some x) : strs (p.take (i + 1)) = List.take i (strs (p.take i)) ++ [.str x] := by
 have : List.take i (strs (p.take i)) = strs (p.take i) := List.take_of_length_le (by rw [strs_len, List.length_take]; omega)
 rw [this, List.take_add_one, h]
 unfold strs
 rw [List.map_append]
 rfl
def ShowC (N : Nat) : Prop := ∀ v : V, bulkV v ≤ N → bulkV v ≤ 100000000000 → allV v = true → sizeV v ≤ 1000 → ∀ (z1 z2 : Nat) (lp : List PV) (t1 t2 : Bool), VA v z1 lp z2 → ∀ (Post : PV → List (Nat × Blk) → Prop), Post (.str (showV v)) [] → Spec K 49 [.agg (vc v z1 lp t1 z2 t2)] [] Post
set_option maxHeartbeats 16000000 in
theorem show_step {N : Nat} (ih : ShowC N) : ShowC (N + 1) := by
 intro v hs hs9 hav hsz z1 z2 lp t1 t2 ha Post h
 have hnv := ha.nV
 have hsl := show_len v hnv
 obtain ⟨hl, hz1, hz2, hn, _⟩ := ha
 obtain ⟨k, n, s, l, ns⟩ := v
 simp only [V.k, V.n, V.s, V.l, V.ns, vc] at *
 have hlp := VPs_len hl
 have hz1' : z1 = 5 ∨ lp = [] := hz1.imp (fun h => h) fun h => by rw [h] at hlp; exact List.length_eq_zero_iff.1 hlp
 have hz2' : z2 = 1 ∨ strs ns = [] := hz2.imp (fun h => h) fun h => by rw [h]; rfl
 simp only [bulkV] at hs hs9
 simp only [allV, Bool.and_eq_true] at hav
 obtain ⟨how, hal⟩ := hav
 have hnb := nsBulk_le ns
 have hlb := len_sizeVs l
 have hsb := sizes_bulk l
 have hsz' := hsz
 simp only [sizeV] at hsz'
 refine is49.specW K_ok K_mix false (by simp) (by simp [keys]) ?_
 rw [showV] at h
 (conv => whnf); repeat ((first | (apply And.intro;· exact Cl4) | apply T1 | apply T2 | apply T3 | apply T4 | apply T6 | apply T5); conv => whnf)
 by_cases h1 : k = 1
 ·subst h1
  rw [if_neg (by decide), if_pos rfl] at h
  (conv => whnf); repeat ((first | (apply And.intro;· exact Cl4) | apply T1 | apply T2 | apply T3 | apply T4 | apply T6 | apply T5); conv => whnf)
  refine itoa_all n hn _ ?_
  (conv => whnf); repeat ((first | (apply And.intro;· exact Cl4) | apply T1 | apply T2 | apply T3 | apply T4 | apply T6 | apply T5); conv => whnf)
  exact h
 rw [show (k == 1) = false by simpa using h1]
 (conv => whnf); repeat ((first | (apply And.intro;· exact Cl4) | apply T1 | apply T2 | apply T3 | apply T4 | apply T6 | apply T5); conv => whnf)
 by_cases h2 : k = 2
 ·subst h2
  rw [if_neg (by decide), if_neg (by decide), if_pos rfl] at h
  (conv => whnf); repeat ((first | (apply And.intro;· exact Cl4) | apply T1 | apply T2 | apply T3 | apply T4 | apply T6 | apply T5); conv => whnf)
  refine fmtBool_spec _ _ ?_
  by_cases hn1 : n = 1
  ·subst hn1
   (conv => whnf); repeat ((first | (apply And.intro;· exact Cl4) | apply T1 | apply T2 | apply T3 | apply T4 | apply T6 | apply T5); conv => whnf)
   exact h
  ·rw [if_neg hn1] at h
   rw [show (n == 1) = false by simpa using hn1]
   (conv => whnf); repeat ((first | (apply And.intro;· exact Cl4) | apply T1 | apply T2 | apply T3 | apply T4 | apply T6 | apply T5); conv => whnf)
   exact h
 rw [show (k == 2) = false by simpa using h2]
 (conv => whnf); repeat ((first | (apply And.intro;· exact Cl4) | apply T1 | apply T2 | apply T3 | apply T4 | apply T6 | apply T5); conv => whnf)
 by_cases h3 : k = 3
 ·subst h3
  rw [if_neg (by decide), if_neg (by decide), if_neg (by decide), if_pos rfl] at h
  (conv => whnf); repeat ((first | (apply And.intro;· exact Cl4) | apply T1 | apply T2 | apply T3 | apply T4 | apply T6 | apply T5); conv => whnf)
  refine quoted_spec s (by omega) _ ?_
  (conv => whnf); repeat ((first | (apply And.intro;· exact Cl4) | apply T1 | apply T2 | apply T3 | apply T4 | apply T6 | apply T5); conv => whnf)
  exact h
 rw [show (k == 3) = false by simpa using h3]
 (conv => whnf); repeat ((first | (apply And.intro;· exact Cl4) | apply T1 | apply T2 | apply T3 | apply T4 | apply T6 | apply T5); conv => whnf)
 by_cases h6 : k = 6
 ·subst h6
  rw [if_neg (by decide), if_neg (by decide), if_neg (by decide), if_neg (by decide), if_pos rfl] at h
  have hil := Lib.itoa_length_le n hn.1 hn.2
  (conv => whnf); repeat ((first | (apply And.intro;· exact Cl4) | apply T1 | apply T2 | apply T3 | apply T4 | apply T6 | apply T5); conv => whnf)
  refine itoa_all n hn _ ?_
  (conv => whnf); repeat ((first | (apply And.intro;· exact Cl4) | apply T1 | apply T2 | apply T3 | apply T4 | apply T6 | apply T5); conv => whnf)
  refine ⟨fun _ => by show 1 + (Lib.itoa n).length ≤ _; omega, ?_⟩
  (conv => whnf); repeat ((first | (apply And.intro;· exact Cl4) | apply T1 | apply T2 | apply T3 | apply T4 | apply T6 | apply T5); conv => whnf)
  exact h
 rw [show (k == 6) = false by simpa using h6]
 (conv => whnf); repeat ((first | (apply And.intro;· exact Cl4) | apply T1 | apply T2 | apply T3 | apply T4 | apply T6 | apply T5); conv => whnf)
 by_cases h0 : k = 0
 ·subst h0
  rw [if_pos rfl] at h
  (conv => whnf); repeat ((first | (apply And.intro;· exact Cl4) | apply T1 | apply T2 | apply T3 | apply T4 | apply T6 | apply T5); conv => whnf)
  exact h
 rw [show (k == 0) = false by simpa using h0]
 rw [if_neg h0, if_neg h1, if_neg h2, if_neg h3, if_neg h6] at h
 have hpn := parts_n k ns l
 (conv => whnf); repeat ((first | (apply And.intro;· exact Cl4) | apply T1 | apply T2 | apply T3 | apply T4 | apply T6 | apply T5); conv => whnf)
 rw [hlp]
 refine ⟨Nat, fun i => ⟨71, [(37, .int .i64 i), (36, .int .i64 l.length), (35, .sl z1 lp t1 true), (3, .ref 1 1 0 i), (1, .ptr 0 0)], [(0, .box [.int .i64 k, .int .i64 n, .str s, .sl z1 lp t1 true, .sl z2 (strs ns) t2 true]), (1, .row 9 1 (strs ((partsV k ns l).take i)) false)], []⟩, fun i => i ≤ l.length, fun i => l.length - i,
  ⟨[.slot 3 9], 0, Nat.zero_le _, ?_⟩, fun i hI => ?_⟩
 ·simp [meets, ghosts, ghost, St.le, St.get, St.put, look, keys, PV.labs, labsL, lookB, Blk.labs, fresh, strs]
  rfl
 ·have hI : i ≤ l.length := hI
  conv => (arg 5; dsimp only)
  (conv => whnf); repeat ((first | (apply And.intro;· exact Cl4) | apply T1 | apply T2 | apply T3 | apply T4 | apply T6 | apply T5); conv => whnf)
  by_cases hix : i < l.length
  ·rw [decide_eq_true (show (i : Int) < (l.length : Int) by omega)]
   obtain ⟨y1, mp, u1, o1, y2, u2, o2, hp, hq, g1, g2, g3⟩ := (VPs_nth hl hix).out
   have hbm := bulkVs_mem hix
   have hsm := sizeVs_in (List.getElem_mem hix)
   (conv => whnf); repeat ((first | (apply And.intro;· exact Cl4) | apply T1 | apply T2 | apply T3 | apply T4 | apply T6 | apply T5); conv => whnf)
   rw [Int.toNat_natCast, hp]
   (conv => whnf); repeat ((first | (apply And.intro;· exact Cl4) | apply T1 | apply T2 | apply T3 | apply T4 | apply T6 | apply T5); conv => whnf)
   refine ih l[i] (by omega) (by omega) (allVs_nth hal hix) (by omega) y1 y2 mp _ _ ⟨hq, g1, g2, g3, by omega⟩ _ ?_
   (conv => whnf); repeat ((first | (apply And.intro;· exact Cl4) | apply T1 | apply T2 | apply T3 | apply T4 | apply T6 | apply T5); conv => whnf)
   by_cases h5 : k = 5
   ·subst h5
    have hin : i < ns.length := by have := own_len how; omega
    have hpp : (partsV 5 ns l)[i]? = some ((ns[i] ++ [58]) ++ showV l[i]) := by
     rw [show (ns[i] ++ [58]) ++ showV l[i] = ns[i] ++ 58 :: showV l[i] by simp]
     exact showR_nth hix hin
    have hll := show_len l[i] (nVs_mem hnv.2 (List.getElem_mem hix))
    have hnm : ns[i].length ≤ nsLen ns := nsLen_mem hin
    (conv => whnf); repeat ((first | (apply And.intro;· exact Cl4) | apply T1 | apply T2 | apply T3 | apply T4 | apply T6 | apply T5); conv => whnf)
    refine ⟨fun _ => ⟨by omega, by rw [strs_len]; omega⟩, ?_⟩
    (conv => whnf); repeat ((first | (apply And.intro;· exact Cl4) | apply T1 | apply T2 | apply T3 | apply T4 | apply T6 | apply T5); conv => whnf)
    rw [Int.toNat_natCast, nth_strs hin]
    (conv => whnf); repeat ((first | (apply And.intro;· exact Cl4) | apply T1 | apply T2 | apply T3 | apply T4 | apply T6 | apply T5); conv => whnf)
    refine ⟨fun _ => by show ns[i].length + 1 ≤ _; omega, ?_⟩
    (conv => whnf); repeat ((first | (apply And.intro;· exact Cl4) | apply T1 | apply T2 | apply T3 | apply T4 | apply T6 | apply T5); conv => whnf)
    refine ⟨fun _ => ?_, ?_⟩
    ·show (ns[i] ++ [58]).length + (showV l[i]).length ≤ _
     rw [List.length_append, List.length_cons, List.length_nil]; omega
    (conv => whnf); repeat ((first | (apply And.intro;· exact Cl4) | apply T1 | apply T2 | apply T3 | apply T4 | apply T6 | apply T5); conv => whnf)
    refine ⟨by show (i + 1) * 17 ≤ _; omega, ?_⟩
    (conv => whnf); repeat ((first | (apply And.intro;· exact Cl4) | apply T1 | apply T2 | apply T3 | apply T4 | apply T6 | apply T5); conv => whnf)
    rw [wrap64 (n := (i : Int) + 1) (by omega) (by omega)]
    refine ⟨[], i + 1, hix, by show l.length - (i + 1) < l.length - i; omega, ?_⟩
    simp [meets, ghosts, St.le, St.get, look, keys, PV.labs, labsL, lookB, Blk.labs, strs_take_succ hpp]
   ·have hpp : (partsV k ns l)[i]? = some (showV l[i]) := by unfold partsV; rw [if_neg h5]; exact showL_nth hix
    rw [show (k == 5) = false by simpa using h5]
    (conv => whnf); repeat ((first | (apply And.intro;· exact Cl4) | apply T1 | apply T2 | apply T3 | apply T4 | apply T6 | apply T5); conv => whnf)
    refine ⟨by show (i + 1) * 17 ≤ _; omega, ?_⟩
    (conv => whnf); repeat ((first | (apply And.intro;· exact Cl4) | apply T1 | apply T2 | apply T3 | apply T4 | apply T6 | apply T5); conv => whnf)
    rw [wrap64 (n := (i : Int) + 1) (by omega) (by omega)]
    refine ⟨[], i + 1, hix, by show l.length - (i + 1) < l.length - i; omega, ?_⟩
    simp [meets, ghosts, St.le, St.get, look, keys, PV.labs, labsL, lookB, Blk.labs, strs_take_succ hpp]
  ·obtain rfl : i = l.length := by omega
   rw [decide_eq_false (show ¬ (l.length : Int) < (l.length : Int) by omega)]
   (conv => whnf); repeat ((first | (apply And.intro;· exact Cl4) | apply T1 | apply T2 | apply T3 | apply T4 | apply T6 | apply T5); conv => whnf)
   have e : List.take l.length (List.drop 0 (strs (List.take l.length (partsV k ns l)))) = strs (partsV k ns l) := by
    rw [List.drop_zero, List.take_of_length_le (l := partsV k ns l) (by omega), List.take_of_length_le (by rw [strs_len]; omega)]
   have hj : (joinC (partsV k ns l)).length ≤ 26000 := by
    have j1 := joinC_len (partsV k ns l)
    have j2 := showL_len l hnv.2
    have j3 := showR_len ns l hnv.2
    have j4 : ((partsV k ns l).map fun x => x.length + 1).sum ≤ nsLen ns + 25 * sizeVs l := by
     unfold partsV
     split
     ·exact j3
     ·exact Nat.le_trans j2 (by omega)
    omega
   rw [e]
   refine join_spec (partsV k ns l) 1 _ _ (.inl rfl) (by omega) (by omega) _ ?_
   (conv => whnf); repeat ((first | (apply And.intro;· exact Cl4) | apply T1 | apply T2 | apply T3 | apply T4 | apply T6 | apply T5); conv => whnf)
   by_cases h5 : k = 5
   ·subst h5
    rw [if_pos rfl] at h
    (conv => whnf); repeat ((first | (apply And.intro;· exact Cl4) | apply T1 | apply T2 | apply T3 | apply T4 | apply T6 | apply T5); conv => whnf)
    refine ⟨fun _ => by show 1 + (joinC (partsV 5 ns l)).length ≤ _; omega, ?_⟩
    (conv => whnf); repeat ((first | (apply And.intro;· exact Cl4) | apply T1 | apply T2 | apply T3 | apply T4 | apply T6 | apply T5); conv => whnf)
    refine ⟨fun _ => by show (123 :: joinC (partsV 5 ns l)).length + 1 ≤ _; rw [List.length_cons]; omega, ?_⟩
    (conv => whnf); repeat ((first | (apply And.intro;· exact Cl4) | apply T1 | apply T2 | apply T3 | apply T4 | apply T6 | apply T5); conv => whnf)
    exact h
   ·rw [if_neg h5] at h
    have hp4 : partsV k ns l = showL l := if_neg h5
    rw [hp4] at hj ⊢
    rw [show (k == 5) = false by simpa using h5]
    (conv => whnf); repeat ((first | (apply And.intro;· exact Cl4) | apply T1 | apply T2 | apply T3 | apply T4 | apply T6 | apply T5); conv => whnf)
    refine ⟨fun _ => by show 1 + (joinC (showL l)).length ≤ _; omega, ?_⟩
    (conv => whnf); repeat ((first | (apply And.intro;· exact Cl4) | apply T1 | apply T2 | apply T3 | apply T4 | apply T6 | apply T5); conv => whnf)
    refine ⟨fun _ => by show (91 :: joinC (showL l)).length + 1 ≤ _; rw [List.length_cons]; omega, ?_⟩
    (conv => whnf); repeat ((first | (apply And.intro;· exact Cl4) | apply T1 | apply T2 | apply T3 | apply T4 | apply T6 | apply T5); conv => whnf)
    exact h
theorem show_all : ∀ N, ShowC N
 | 0 => fun v hv => absurd (bulkV_pos v) (by omega)
 | N + 1 => show_step (show_all N)
end Go.Vc
namespace Go.Vc
open Go Go.Proofs
set_option maxRecDepth 100000
theorem eq_spec (a b : List UInt8) (z1 z2 : Nat) (t1 o1 t2 o2 : Bool) (h1 : z1 = 1 ∨ bs a = []) (h2 : z2 = 1 ∨ bs b = []) (ha : a.length ≤ 1000000000) (Post : PV → List (Nat × Blk) → Prop) (h : Post (.bool (a == b)) []) :
  Spec K 19 [.sl z1 (bs a) t1 o1, .sl z2 (bs b) t2 o2] [] Post := by
 refine is19.spec K_ok K_mix true (by simp) (by simp [keys]) ?_
 (conv => whnf); repeat ((apply And.intro;· exact Cl1); conv => whnf)
 refine ⟨fun hc => ?_, fun hc => ?_⟩
 ·(conv => whnf); repeat ((apply And.intro;· exact Cl1); conv => whnf)
  have : (a == b) = false := by
   simp only [bs_len] at hc
   rw [beq_eq_false_iff_ne]
   rintro rfl
   simp at hc
  rwa [this] at h
 ·(conv => whnf); repeat ((apply And.intro;· exact Cl1); conv => whnf)
  simp only [bs_len] at hc
  have hlen : a.length = b.length := by simp at hc; omega
  refine ⟨Nat, fun i => ⟨26, [(5, .int .i64 i), (4, .bool false), (0, .sl z1 (bs a) t1 o1), (1, .sl z2 (bs b) t2 o2)], [], []⟩, fun i => i ≤ a.length ∧ a.take i = b.take i, fun i => a.length - i, ⟨[], 0, ⟨by omega, rfl⟩, ?_⟩, fun i ⟨hi, ht⟩ => ?_⟩
  ·simp [meets, ghosts, St.le, St.get, look, keys, PV.labs, labsL]
  ·(conv => whnf); repeat ((apply And.intro;· exact Cl1); conv => whnf)
   refine ⟨fun hd => ?_, fun hd => ?_⟩
   ·simp only [bs_len, decide_eq_true_eq] at hd
    have hi' : i < a.length := by omega
    (conv => whnf); repeat ((apply And.intro;· exact Cl1); conv => whnf)
    refine ⟨h1, fun _ => by rw [bs_len]; omega, ?_⟩
    (conv => whnf); repeat ((apply And.intro;· exact Cl1); conv => whnf)
    refine ⟨h2, fun _ => by rw [bs_len]; omega, ?_⟩
    (conv => whnf); repeat ((apply And.intro;· exact Cl1); conv => whnf)
    rw [Int.toNat_natCast, nth_bs hi', nth_bs (show i < b.length by omega)]
    refine ⟨?_, ?_⟩
    all_goals
     (conv => whnf); repeat ((apply And.intro;· exact Cl1); conv => whnf)
     refine ⟨fun he => ?_, fun he => ?_⟩
     ·(conv => whnf); repeat ((apply And.intro;· exact Cl1); conv => whnf)
      have : (a == b) = false := by
       rw [beq_eq_false_iff_ne]
       rintro rfl
       simp at he
      rwa [this] at h
     ·(conv => whnf); repeat ((apply And.intro;· exact Cl1); conv => whnf)
      rw [wrap64 (by omega) (by omega)]
      have he' : a[i] = b[i] := by
       rw [bne_eq_false_iff_eq] at he
       exact UInt8.toNat_inj.1 (by omega)
      refine ⟨[], i + 1, ⟨by omega, ?_⟩, by show a.length - (i + 1) < a.length - i; omega, ?_⟩
      ·rw [List.take_add_one, List.take_add_one, ht, List.getElem?_eq_getElem hi', List.getElem?_eq_getElem (show i < b.length by omega), he']
      ·simp [meets, ghosts, St.le, St.get, look, keys, PV.labs, labsL]
   ·simp only [bs_len, decide_eq_false_iff_not] at hd
    (conv => whnf); repeat ((apply And.intro;· exact Cl1); conv => whnf)
    have : (a == b) = true := by
     rw [beq_iff_eq]
     have hi' : i = a.length := by omega
     subst hi'
     rw [List.take_length] at ht
     rw [ht, hlen, List.take_length]
    rwa [this] at h
end Go.Vc
