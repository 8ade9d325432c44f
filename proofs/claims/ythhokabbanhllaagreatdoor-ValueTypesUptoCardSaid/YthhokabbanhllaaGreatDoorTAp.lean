/- What is proved here: contracts of functions of the program: of each function what it hands back and what it leaves in memory. Conditions: those that each theorem names. -/
import Derived.Test.YthhokabbanhllaaGreatDoorTAo
set_option linter.unusedVariables false
set_option linter.unusedSimpArgs false
set_option linter.unusedSectionVars false
namespace Go.Vc
open Go Go.Proofs
set_option maxRecDepth 100000
def ownB (k n : Int) (s : List UInt8) (ll : Nat) (ns : List (List UInt8)) : Bool :=
 if k = 0 then n == 0 && (s.isEmpty && ll == 0 && ns.isEmpty)
 else if k = 1 then s.isEmpty && ll == 0 && ns.isEmpty
 else if k = 2 then (n == 0 || n == 1) && (s.isEmpty && ll == 0 && ns.isEmpty)
 else if k = 6 then (decide (1 ≤ n) && decide (n ≤ 64)) && (s.isEmpty && ll == 0 && ns.isEmpty)
 else if k = 3 then n == 0 && decide (s.length ≤ 64) && (ll == 0 && ns.isEmpty)
 else if k = 4 then n == 0 && decide (ll ≤ 32) && (s.isEmpty && ns.isEmpty)
 else if k = 5 then n == 0 && ll == ns.length && decide (ll ≤ 8) && s.isEmpty && rise [] ns
 else false
theorem clearB (x : BitVec 64) : x &&& ~~~ (1#64) = (x >>> 1) <<< 1 := by
 apply BitVec.eq_of_getLsbD_eq
 intro i hi
 rw [BitVec.getLsbD_and, BitVec.getLsbD_not, BitVec.getLsbD_shiftLeft, BitVec.getLsbD_ushiftRight, BitVec.getLsbD_one]
 rcases i with _ | i
 ·simp
 ·have h1 : 1 + (i + 1 - 1) = i + 1 := by omega
  rw [h1]
  simp [hi]
theorem clear1 (n : Int) (hn : -9223372036854775808 ≤ n ∧ n ≤ 9223372036854775807) : (bitsI .andNot .i64 n 1 == 0) = (n == 0 || n == 1) := by
 have hx : (BitVec.ofInt 64 n).toNat = (n % 18446744073709551616).toNat := by simp [BitVec.toNat_ofInt]
 have e : bitsI .andNot .i64 n 1 = IntKind.i64.wrap (((BitVec.ofInt 64 n).toNat / 2 * 2 : Nat) : Int) := by
  unfold bitsI
  show IntKind.i64.wrap ((BitVec.ofInt 64 n &&& ~~~ (1#64)).toNat : Int) = _
  rw [clearB, BitVec.toNat_shiftLeft, BitVec.toNat_ushiftRight, Nat.shiftLeft_eq, Nat.shiftRight_eq_div_pow]
  have := (BitVec.ofInt 64 n).isLt
  congr 2
  omega
 rw [e, hx, Bool.eq_iff_iff]
 generalize hm : (n % 18446744073709551616).toNat / 2 * 2 = m
 have hm2 : m < 18446744073709551616 := by omega
 have hw : (IntKind.i64.wrap (m : Int) = 0) ↔ m = 0 := by
  by_cases hs : m < 9223372036854775808
  ·rw [wrap64 (by omega) (by omega)]; omega
  ·rw [wrap64hi (by omega) (by omega)]; omega
 simp only [beq_iff_eq, Bool.or_eq_true, hw]
 omega
set_option maxHeartbeats 8000000 in
theorem own_spec (k n : Int) (s : List UInt8) (z1 z2 : Nat) (lp : List PV) (ns : List (List UInt8)) (t1 t2 : Bool) (hz : z2 = 1 ∨ ns = []) (hn : ns.length ≤ 1000000000000) (hn2 : -9223372036854775808 ≤ n ∧ n ≤ 9223372036854775807) (Post : PV → List (Nat × Blk) → Prop)
  (h : Post (.bool (ownB k n s lp.length ns)) []) : Spec K 51 [.agg [.int .i64 k, .int .i64 n, .str s, .sl z1 lp t1 true, .sl z2 (strs ns) t2 true]] [] Post := by
 refine is51.specW K_ok K_mix false (by simp) (by simp [keys]) ?_
 have es : ∀ l : List PV, l.isEmpty = (l.length == 0) := fun l => by cases l <;> rfl
 have en : (strs ns).isEmpty = ns.isEmpty := by cases ns <;> rfl
 (conv => whnf); repeat ((apply And.intro;· exact Cl1); conv => whnf)
 refine ⟨fun h0 => ?_, fun h0 => ?_⟩
 ·have h0' : k = 0 := by simpa using h0
  subst h0'
  (conv => whnf); repeat ((apply And.intro;· exact Cl1); conv => whnf)
  refine ⟨fun _ h1 => ?_, fun h1 => ?_⟩
  ·rw [h1]
   (conv => whnf); repeat ((apply And.intro;· exact Cl1); conv => whnf)
   refine bare_spec false false false 0 n s z1 z2 lp (strs ns) t1 t2 _ ?_
   (conv => whnf); repeat ((apply And.intro;· exact Cl1); conv => whnf)
   refine (congrArg (fun r => Post (.bool r) []) ?_).mpr h
   rw [es, en]
   simp [ownB, h1]
  ·have h1' := h1 rfl
   rw [h1']
   (conv => whnf); repeat ((apply And.intro;· exact Cl1); conv => whnf)
   refine (congrArg (fun r => Post (.bool r) []) ?_).mpr h
   simp [ownB, h1']
 ·have h0' : k ≠ 0 := by simpa using h0
  (conv => whnf); repeat ((apply And.intro;· exact Cl1); conv => whnf)
  refine ⟨fun h2 => ?_, fun h2 => ?_⟩
  ·have h2' : k = 1 := by simpa using h2
   subst h2'
   (conv => whnf); repeat ((apply And.intro;· exact Cl1); conv => whnf)
   refine bare_spec false false false 1 n s z1 z2 lp (strs ns) t1 t2 _ ?_
   (conv => whnf); repeat ((apply And.intro;· exact Cl1); conv => whnf)
   refine (congrArg (fun r => Post (.bool r) []) ?_).mpr h
   rw [es, en]
   simp [ownB]
  ·have h2' : k ≠ 1 := by simpa using h2
   (conv => whnf); repeat ((apply And.intro;· exact Cl1); conv => whnf)
   refine ⟨fun h3 => ?_, fun h3 => ?_⟩
   ·have h3' : k = 2 := by simpa using h3
    subst h3'
    (conv => whnf); repeat ((apply And.intro;· exact Cl1); conv => whnf)
    rw [clear1 n hn2]
    refine ⟨fun _ h1 => ?_, fun h1 => ?_⟩
    ·rw [h1]
     (conv => whnf); repeat ((apply And.intro;· exact Cl1); conv => whnf)
     refine bare_spec false false false 2 n s z1 z2 lp (strs ns) t1 t2 _ ?_
     (conv => whnf); repeat ((apply And.intro;· exact Cl1); conv => whnf)
     refine (congrArg (fun r => Post (.bool r) []) ?_).mpr h
     rw [es, en]
     simp [ownB, h1]
    ·have h1' := h1 rfl
     rw [h1']
     (conv => whnf); repeat ((apply And.intro;· exact Cl1); conv => whnf)
     refine (congrArg (fun r => Post (.bool r) []) ?_).mpr h
     simp [ownB, h1']
   ·have h3' : k ≠ 2 := by simpa using h3
    (conv => whnf); repeat ((apply And.intro;· exact Cl1); conv => whnf)
    refine ⟨fun h4 => ?_, fun h4 => ?_⟩
    ·have h4' : k = 6 := by simpa using h4
     subst h4'
     (conv => whnf); repeat ((apply And.intro;· exact Cl1); conv => whnf)
     refine ⟨fun _ h1 => ?_, fun h1 => ?_⟩
     ·rw [h1]
      (conv => whnf); repeat ((apply And.intro;· exact Cl1); conv => whnf)
      refine bare_spec false false false 6 n s z1 z2 lp (strs ns) t1 t2 _ ?_
      (conv => whnf); repeat ((apply And.intro;· exact Cl1); conv => whnf)
      refine (congrArg (fun r => Post (.bool r) []) ?_).mpr h
      rw [es, en]
      simp at h1
      simp [ownB, h1]
      try (intros; omega)
     ·have h1' := h1 rfl
      rw [h1']
      (conv => whnf); repeat ((apply And.intro;· exact Cl1); conv => whnf)
      refine (congrArg (fun r => Post (.bool r) []) ?_).mpr h
      simp at h1'
      simp [ownB]
      intros
      omega
    ·have h4' : k ≠ 6 := by simpa using h4
     (conv => whnf); repeat ((apply And.intro;· exact Cl1); conv => whnf)
     refine ⟨fun h5 => ?_, fun h5 => ?_⟩
     ·have h5' : k = 3 := by simpa using h5
      subst h5'
      (conv => whnf); repeat ((apply And.intro;· exact Cl1); conv => whnf)
      refine ⟨fun _ h1 => ?_, fun h1 => ?_⟩
      ·rw [h1]
       (conv => whnf); repeat ((apply And.intro;· exact Cl1); conv => whnf)
       refine bare_spec true false false 3 n s z1 z2 lp (strs ns) t1 t2 _ ?_
       (conv => whnf); repeat ((apply And.intro;· exact Cl1); conv => whnf)
       refine (congrArg (fun r => Post (.bool r) []) ?_).mpr h
       rw [es, en]
       simp at h1
       simp [ownB, h1]
       try (intros; omega)
      ·have h1' := h1 rfl
       rw [h1']
       (conv => whnf); repeat ((apply And.intro;· exact Cl1); conv => whnf)
       refine (congrArg (fun r => Post (.bool r) []) ?_).mpr h
       simp at h1'
       simp [ownB]
       intros
       omega
     ·have h5' : k ≠ 3 := by simpa using h5
      (conv => whnf); repeat ((apply And.intro;· exact Cl1); conv => whnf)
      refine ⟨fun h6 => ?_, fun h6 => ?_⟩
      ·have h6' : k = 4 := by simpa using h6
       subst h6'
       (conv => whnf); repeat ((apply And.intro;· exact Cl1); conv => whnf)
       refine ⟨fun _ h1 => ?_, fun h1 => ?_⟩
       ·rw [h1]
        (conv => whnf); repeat ((apply And.intro;· exact Cl1); conv => whnf)
        refine bare_spec false true false 4 n s z1 z2 lp (strs ns) t1 t2 _ ?_
        (conv => whnf); repeat ((apply And.intro;· exact Cl1); conv => whnf)
        refine (congrArg (fun r => Post (.bool r) []) ?_).mpr h
        rw [es, en]
        simp at h1
        simp [ownB, h1]
        try (intros; omega)
       ·have h1' := h1 rfl
        rw [h1']
        (conv => whnf); repeat ((apply And.intro;· exact Cl1); conv => whnf)
        refine (congrArg (fun r => Post (.bool r) []) ?_).mpr h
        simp at h1'
        simp [ownB]
        intros
        omega
      ·have h6' : k ≠ 4 := by simpa using h6
       (conv => whnf); repeat ((apply And.intro;· exact Cl1); conv => whnf)
       refine ⟨fun h7 => ?_, fun h7 => ?_⟩
       ·have h7' : k = 5 := by simpa using h7
        subst h7'
        (conv => whnf); repeat ((apply And.intro;· exact Cl1); conv => whnf)
        refine ⟨fun _ h1 => ?_, fun h1 => ?_⟩
        ·rw [h1]
         (conv => whnf); repeat ((apply And.intro;· exact Cl1); conv => whnf)
         refine bare_spec false true true 5 n s z1 z2 lp (strs ns) t1 t2 _ ?_
         (conv => whnf); repeat ((apply And.intro;· exact Cl1); conv => whnf)
         rw [es, en] at *
         simp at h1
         refine ⟨fun _ h8 => ?_, fun h8 => ?_⟩
         ·rw [h8]
          (conv => whnf); repeat ((apply And.intro;· exact Cl1); conv => whnf)
          refine rising_spec ns z2 t2 hz hn _ ?_
          (conv => whnf); repeat ((apply And.intro;· exact Cl1); conv => whnf)
          refine (congrArg (fun r => Post (.bool r) []) ?_).mpr h
          have h8' : s = [] := by simpa using h8
          have h9 : lp.length = ns.length := by have := h1.1.2; rw [strs_len] at this; exact_mod_cast this
          have h10 : ns.length ≤ 8 := by omega
          simp [ownB, h1, h8', h9, h10]
         ·have h8' := h8 rfl
          rw [h8']
          (conv => whnf); repeat ((apply And.intro;· exact Cl1); conv => whnf)
          refine (congrArg (fun r => Post (.bool r) []) ?_).mpr h
          have h9 : ¬ s = [] := by simpa using h8'
          simp [ownB, h9]
        ·have h1' := h1 rfl
         rw [h1']
         (conv => whnf); repeat ((apply And.intro;· exact Cl1); conv => whnf)
         refine ⟨fun _ h8 => (by cases h8), fun h8 => ?_⟩
         (conv => whnf); repeat ((apply And.intro;· exact Cl1); conv => whnf)
         refine (congrArg (fun r => Post (.bool r) []) ?_).mpr h
         rw [strs_len] at h1'
         have h9 : ¬ (n = 0 ∧ lp.length = ns.length ∧ lp.length ≤ 8) := fun hh => by simp [hh.1, hh.2.1] at h1'; omega
         simp [ownB]
         intro a b c
         exact absurd ⟨a, b, c⟩ h9
       ·have h7' : k ≠ 5 := by simpa using h7
        (conv => whnf); repeat ((apply And.intro;· exact Cl1); conv => whnf)
        refine (congrArg (fun r => Post (.bool r) []) ?_).mpr h
        simp [ownB, h0', h2', h3', h4', h5', h6', h7']
end Go.Vc
namespace Go.Vc
open Go Go.Proofs
set_option maxRecDepth 100000
def nsLen : List (List UInt8) → Nat
 | [] => 0
 | s :: r => s.length + nsLen r
mutual
def sizeV : V → Nat
 | .mk _ _ s l ns => 1 + s.length + nsLen ns + sizeVs l
def sizeVs : List V → Nat
 | [] => 0
 | v :: r => sizeV v + sizeVs r
end
mutual
def depthV : V → Nat
 | .mk _ _ _ l _ => 1 + depthVs l
def depthVs : List V → Nat
 | [] => 0
 | v :: r => max (depthV v) (depthVs r)
end
mutual
def allV : V → Bool
 | .mk k n s l ns => ownB k n s l.length ns && allVs l
def allVs : List V → Bool
 | [] => true
 | v :: r => allV v && allVs r
end
def okV (v : V) (w : Nat) (left : Int) : Bool := decide (w + depthV v ≤ 8) && decide ((sizeV v : Int) ≤ left) && allV v
def okVs (l : List V) (w : Nat) (left : Int) : Bool := decide (w + depthVs l ≤ 8) && decide ((sizeVs l : Int) ≤ left) && allVs l
theorem okV_iff {v : V} {w : Nat} {left : Int} : okV v w left = true ↔ (w + depthV v ≤ 8 ∧ (sizeV v : Int) ≤ left) ∧ allV v = true := by simp [okV]
theorem okVs_iff {v : List V} {w : Nat} {left : Int} : okVs v w left = true ↔ (w + depthVs v ≤ 8 ∧ (sizeVs v : Int) ≤ left) ∧ allVs v = true := by simp [okVs]
theorem okVs_cons (v : V) (r : List V) (w : Nat) (left : Int) : okVs (v :: r) w left = (okV v w left && okVs r w (left - sizeV v)) := by
 rw [Bool.eq_iff_iff]
 simp only [okVs_iff, okV_iff, depthVs, sizeVs, allVs, Bool.and_eq_true, Int.natCast_add]
 constructor
 ·rintro ⟨⟨h1, h2⟩, h3, h4⟩
  exact ⟨⟨⟨by omega, by omega⟩, h3⟩, ⟨by omega, by omega⟩, h4⟩
 ·rintro ⟨⟨⟨h1, h2⟩, h3⟩, ⟨h4, h5⟩, h6⟩
  exact ⟨⟨by omega, by omega⟩, h3, h6⟩
theorem okV_mk (k n : Int) (s : List UInt8) (l : List V) (ns : List (List UInt8)) (w : Nat) (left : Int) :
  okV (.mk k n s l ns) w left = (decide (w < 8) && decide (0 ≤ left - (1 + s.length) - nsLen ns) && ownB k n s l.length ns && okVs l (w + 1) (left - (1 + s.length) - nsLen ns)) := by
 rw [Bool.eq_iff_iff]
 simp only [okVs_iff, okV_iff, depthV, sizeV, allV, Bool.and_eq_true, decide_eq_true_eq, Int.natCast_add]
 constructor
 ·rintro ⟨⟨h1, h2⟩, h3, h4⟩
  exact ⟨⟨⟨by omega, by omega⟩, h3⟩, ⟨by omega, by omega⟩, h4⟩
 ·rintro ⟨⟨⟨h1, h2⟩, h3⟩, ⟨h4, h5⟩, h6⟩
  exact ⟨⟨by omega, by omega⟩, h3, h6⟩
theorem sizeV_pos : ∀ v : V, 0 < sizeV v
 | .mk _ _ _ _ _ => by simp only [sizeV]; omega
theorem len_sizeVs : ∀ l : List V, l.length ≤ sizeVs l
 | [] => by simp [sizeVs]
 | v :: r => by
  have := len_sizeVs r
  have := sizeV_pos v
  simp only [sizeVs, List.length_cons]; omega
theorem nsLen_drop : ∀ (l : List (List UInt8)) (i : Nat), nsLen (l.drop i) ≤ nsLen l
 | [], i => by simp [nsLen]
 | v :: r, 0 => by simp
 | v :: r, i + 1 => by
  have := nsLen_drop r i
  simp only [List.drop_succ_cons, nsLen]; omega
def nsBulk : List (List UInt8) → Nat
 | [] => 0
 | s :: r => 1 + s.length + nsBulk r
mutual
def bulkV : V → Nat
 | .mk _ _ s l ns => 1 + s.length + nsBulk ns + bulkVs l
def bulkVs : List V → Nat
 | [] => 0
 | v :: r => bulkV v + bulkVs r
end
theorem bulkV_pos : ∀ v : V, 0 < bulkV v
 | .mk _ _ _ _ _ => by simp only [bulkV]; omega
theorem nsBulk_le : ∀ ns : List (List UInt8), nsLen ns ≤ nsBulk ns ∧ ns.length ≤ nsBulk ns
 | [] => by simp [nsLen, nsBulk]
 | s :: r => by have := nsBulk_le r; simp only [nsLen, nsBulk, List.length_cons]; omega
mutual
theorem size_bulk : ∀ v : V, sizeV v ≤ bulkV v
 | .mk _ _ s l ns => by
  have := sizes_bulk l
  have := nsBulk_le ns
  simp only [sizeV, bulkV]; omega
theorem sizes_bulk : ∀ l : List V, sizeVs l ≤ bulkVs l
 | [] => by simp [sizeVs, bulkVs]
 | v :: r => by
  have := size_bulk v
  have := sizes_bulk r
  simp only [sizeVs, bulkVs]; omega
end
theorem bulkVs_mem : ∀ {l : List V} {i : Nat} (hi : i < l.length), bulkV l[i] ≤ bulkVs l
 | v :: r, 0, hi => by simp [bulkVs]
 | v :: r, i + 1, hi => by
  have := bulkVs_mem (l := r) (i := i) (by simpa using hi)
  simp only [bulkVs, List.getElem_cons_succ]; omega
theorem nsLen_mem : ∀ {l : List (List UInt8)} {i : Nat} (hi : i < l.length), l[i].length ≤ nsLen l
 | v :: r, 0, hi => by simp [nsLen]
 | v :: r, i + 1, hi => by
  have := nsLen_mem (l := r) (i := i) (by simpa using hi)
  simp only [nsLen, List.getElem_cons_succ]; omega
def fitsR (v : V) (w : Nat) (left : Int) : PV := .tup [.int .i64 (if okV v w left then left - sizeV v else 0), .bool (okV v w left)]
set_option maxHeartbeats 8000000 in
theorem fits_spec (N : Nat) : ∀ (k n : Int) (s : List UInt8) (l : List V) (ns : List (List UInt8)), bulkV (.mk k n s l ns) ≤ N → N ≤ 100000000000 → ∀ (z1 z2 : Nat) (lp : List PV) (t1 t2 : Bool) (w : Nat) (left : Int) (Post : PV → List (Nat × Blk) → Prop),
  VPs l lp → (z1 = 5 ∨ l = []) → (z2 = 1 ∨ ns = []) → i64 n → w ≤ 100 → -1000000000000 ≤ left → left ≤ 1000000000000 → Post (fitsR (.mk k n s l ns) w left) [] →
  Spec K 31 [.agg [.int .i64 k, .int .i64 n, .str s, .sl z1 lp t1 true, .sl z2 (strs ns) t2 true], .int .i64 w, .int .i64 left] [] Post := by
 induction N with
 | zero => intro k n s l ns h; exact absurd (bulkV_pos (.mk k n s l ns)) (by omega)
 | succ N ih =>
  intro k n s l ns hs hN z1 z2 lp t1 t2 w left Post hl hz1 hz2 hn hw hl1 hl2 h
  have hz2' : z2 = 1 ∨ strs ns = [] := hz2.imp (fun h => h) fun h => by rw [h]; rfl
  have hlp := VPs_len hl
  have hz1' : z1 = 5 ∨ lp = [] := hz1.imp (fun h => h) fun h => by rw [h] at hlp; exact List.length_eq_zero_iff.1 hlp
  have hs' := hs
  simp only [bulkV] at hs'
  have hnb := nsBulk_le ns
  have hlb := len_sizeVs l
  have hsb := sizes_bulk l
  refine is31.specW K_ok K_mix false (by simp) (by simp [keys]) ?_
  (conv => whnf); repeat ((apply And.intro;· exact Cl1); conv => whnf)
  refine ⟨Nat × Int, fun x => ⟨63, [(21, .int .i64 x.1), (20, .int .i64 ns.length), (19, .sl z2 (strs ns) t2 true), (2, .int .i64 x.2), (7, .bool false), (6, .int .i64 0), (3, .ptr 0 0), (1, .int .i64 w)], [(0, .box [.int .i64 k, .int .i64 n, .str s, .sl z1 lp t1 true, .sl z2 (strs ns) t2 true])], []⟩, fun x => x.1 ≤ ns.length ∧ x.2 - nsLen (ns.drop x.1) = left - (1 + s.length) - nsLen ns, fun x => ns.length - x.1,
   ⟨[], (0, left - (1 + s.length)), ⟨Nat.zero_le _, rfl⟩, ?_⟩, fun x hI => ?_⟩
  ·rw [wrap64 (n := 1 + (s.length : Int)) (by omega) (by omega), wrap64 (by omega) (by omega)]
   simp [meets, ghosts, St.le, St.get, look, keys, PV.labs, labsL, lookB, Blk.labs, strs_len]
  ·obtain ⟨i, L⟩ := x
   obtain ⟨hi, hL⟩ := hI
   simp only at hi hL
   have hdb := nsLen_drop ns i
   (conv => whnf); repeat ((apply And.intro;· exact Cl1); conv => whnf)
   refine ⟨fun h1 => ?_, fun h1 => ?_⟩
   ·have hix : i < ns.length := by have := of_decide_eq_true h1; omega
    have hdr : ns.drop i = ns[i] :: ns.drop (i + 1) := List.drop_eq_getElem_cons hix
    have hm := nsLen_mem hix
    (conv => whnf); repeat ((apply And.intro;· exact Cl1); conv => whnf)
    refine ⟨hz2', fun _ => ⟨by omega, by rw [strs_len]; omega⟩, ?_⟩
    (conv => whnf); repeat ((apply And.intro;· exact Cl1); conv => whnf)
    rw [Int.toNat_natCast, nth_strs hix]
    (conv => whnf); repeat ((apply And.intro;· exact Cl1); conv => whnf)
    rw [wrap64 (by omega) (by omega), wrap64 (by omega) (by omega)]
    refine ⟨[], (i + 1, L - ns[i].length), ⟨hix, ?_⟩, by show ns.length - (i + 1) < ns.length - i; omega, ?_⟩
    ·rw [hdr] at hL
     simp only [nsLen] at hL ⊢
     omega
    ·simp [meets, ghosts, St.le, St.get, look, keys, PV.labs, labsL, lookB, Blk.labs]
   ·have hix : i = ns.length := by have := of_decide_eq_false h1; omega
    have hL' : L = left - (1 + s.length) - nsLen ns := by simpa [hix, nsLen] using hL
    have hok := okV_mk k n s l ns w left
    rw [← hL'] at hok
    (conv => whnf); repeat ((apply And.intro;· exact Cl1); conv => whnf)
    refine ⟨fun _ h2 => ?_, fun h2 => ?_⟩
    ·rw [h2]
     (conv => whnf); repeat ((apply And.intro;· exact Cl1); conv => whnf)
     refine own_spec k n s z1 z2 lp ns t1 t2 hz2 (by omega) hn _ ?_
     (conv => whnf); repeat ((apply And.intro;· exact Cl1); conv => whnf)
     rw [hlp]
     refine ⟨fun h3 => ?_, fun h3 => ?_⟩
     ·have h3' : ownB k n s l.length ns = false := by simpa using h3
      (conv => whnf); repeat ((apply And.intro;· exact Cl1); conv => whnf)
      have : okV (.mk k n s l ns) w left = false := by rw [hok, h3']; simp
      simpa [fitsR, this] using h
     ·have h3' : ownB k n s l.length ns = true := by simpa using h3
      have hw8 : w < 8 ∧ 0 ≤ L := by
       have h2' : (bif decide (8 ≤ (w : Int)) then true else decide (L < 0)) = false := h2
       by_cases h9 : (8 : Int) ≤ w
       ·simp [h9] at h2'
       ·simp [h9] at h2'
        omega
      have hok2 : okV (.mk k n s l ns) w left = okVs l (w + 1) L := by rw [hok, h3']; simp [hw8]
      (conv => whnf); repeat ((apply And.intro;· exact Cl1); conv => whnf)
      refine ⟨Nat × Int, fun x => ⟨63, [(44, .int .i64 x.1), (43, .int .i64 l.length), (2, .int .i64 x.2), (7, .bool false), (6, .int .i64 0), (3, .ptr 0 0), (1, .int .i64 w)], [(0, .box [.int .i64 k, .int .i64 n, .str s, .sl z1 lp t1 true, .sl z2 (strs ns) t2 true])], []⟩,
       fun x => x.1 ≤ l.length ∧ 0 ≤ x.2 ∧ x.2 ≤ 1000000000000 ∧ okV (.mk k n s l ns) w left = okVs (l.drop x.1) (w + 1) x.2 ∧ x.2 - sizeVs (l.drop x.1) = left - sizeV (.mk k n s l ns), fun x => l.length - x.1,
       ⟨[], (0, L), ⟨Nat.zero_le _, hw8.2, (by show L ≤ _; omega), hok2, (by simp only [List.drop_zero, sizeV]; omega)⟩, ?_⟩, fun x hI => ?_⟩
      ·simp [meets, ghosts, St.le, St.get, look, keys, PV.labs, labsL, lookB, Blk.labs, hlp]
      ·clear hL' hok hok2 hL hi h2 h1 h3
       have hw7 := hw8.1
       clear hw8 hdb
       clear hix
       clear L i
       obtain ⟨i, L⟩ := x
       obtain ⟨hi, hL0, hL1, hok, hsz⟩ := hI
       simp only at hi hL0 hL1 hok hsz
       (conv => whnf); repeat ((apply And.intro;· exact Cl1); conv => whnf)
       refine ⟨fun h1 => ?_, fun h1 => ?_⟩
       ·have hix : i < l.length := by have := of_decide_eq_true h1; omega
        have hdr : l.drop i = l[i] :: l.drop (i + 1) := List.drop_eq_getElem_cons hix
        obtain ⟨y1, mp, u1, o1, y2, u2, o2, hp, hq, g1, g2, g3⟩ := (VPs_nth hl hix).out
        have hbm := bulkVs_mem hix
        rw [← V.eta l[i]] at hbm
        (conv => whnf); repeat ((apply And.intro;· exact Cl1); conv => whnf)
        refine ⟨hz1', fun _ => ⟨by omega, by rw [hlp]; omega⟩, ?_⟩
        (conv => whnf); repeat ((apply And.intro;· exact Cl1); conv => whnf)
        rw [Int.toNat_natCast, hp]
        (conv => whnf); repeat ((apply And.intro;· exact Cl1); conv => whnf)
        rw [wrap64 (by omega) (by omega)]
        refine ih _ _ _ _ _ (by omega) (by omega) y1 y2 mp u1 u2 (w + 1) L _ hq g1 g2 g3 (by omega) (by omega) (by omega) ?_
        rw [V.eta] at hbm ⊢
        rw [hdr, okVs_cons] at hok
        simp only [hdr, sizeVs] at hsz
        (conv => whnf); repeat ((apply And.intro;· exact Cl1); conv => whnf)
        refine ⟨fun h2 => ?_, fun h2 => ?_⟩
        ·have h2' : okV l[i] (w + 1) L = false := by simpa using h2
         (conv => whnf); repeat ((apply And.intro;· exact Cl1); conv => whnf)
         have : okV (.mk k n s l ns) w left = false := by rw [hok, h2']; rfl
         simpa [fitsR, this] using h
        ·have h2' : okV l[i] (w + 1) L = true := by simpa using h2
         have h3 := (okV_iff.1 h2').1.2
         (conv => whnf); repeat ((apply And.intro;· exact Cl1); conv => whnf)
         rw [wrap64 (by omega) (by omega)]
         refine ⟨[], (i + 1, L - sizeV l[i]), ⟨hix, by show 0 ≤ L - (sizeV l[i] : Int); omega, by show L - (sizeV l[i] : Int) ≤ _; omega, by rw [hok, h2']; rfl, by show L - (sizeV l[i] : Int) - (sizeVs (l.drop (i + 1)) : Int) = _; omega⟩, by show l.length - (i + 1) < l.length - i; omega, ?_⟩
         simp [meets, ghosts, St.le, St.get, look, keys, PV.labs, labsL, lookB, Blk.labs, h2']
       ·have hix : i = l.length := by have := of_decide_eq_false h1; omega
        (conv => whnf); repeat ((apply And.intro;· exact Cl1); conv => whnf)
        simp only [hix, List.drop_length, okVs, depthVs, sizeVs, allVs] at hok hsz
        have : okV (.mk k n s l ns) w left = true := by rw [hok]; simp; omega
        have e : L = left - sizeV (.mk k n s l ns) := by rw [← hsz]; simp
        simpa [fitsR, this, e] using h
    ·have h2' := h2 rfl
     rw [h2']
     (conv => whnf); repeat ((apply And.intro;· exact Cl1); conv => whnf)
     refine ⟨fun h3 => ?_, fun h3 => by cases h3⟩
     (conv => whnf); repeat ((apply And.intro;· exact Cl1); conv => whnf)
     have : okV (.mk k n s l ns) w left = false := by
      have h2' : (bif decide (8 ≤ (w : Int)) then true else decide (L < 0)) = true := h2'
      rw [hok]
      by_cases h9 : (8 : Int) ≤ w
      ·have : ¬ w < 8 := by omega
       simp [this]
      ·have : ¬ 0 ≤ L := by simp [h9] at h2'; omega
       simp [this]
     simpa [fitsR, this] using h
end Go.Vc
namespace Go.Vc
open Go Go.Proofs
set_option maxRecDepth 100000
def mayV (v : V) : Bool := okV v 0 256
def vc (v : V) (z1 : Nat) (lp : List PV) (t1 : Bool) (z2 : Nat) (t2 : Bool) : List PV := [.int .i64 v.k, .int .i64 v.n, .str v.s, .sl z1 lp t1 true, .sl z2 (strs v.ns) t2 true]
structure VA (v : V) (z1 : Nat) (lp : List PV) (z2 : Nat) : Prop where
 l : VPs v.l lp
 z1 : z1 = 5 ∨ v.l = []
 z2 : z2 = 1 ∨ v.ns = []
 n : i64 v.n
 b : bulkV v ≤ 100000000000
theorem check_spec (v : V) (z1 z2 : Nat) (lp : List PV) (t1 t2 : Bool) (Post : PV → List (Nat × Blk) → Prop) (a : VA v z1 lp z2) (h : Post (.int .i64 (bif mayV v then 0 else 2)) []) :
  Spec K 9 [.agg (vc v z1 lp t1 z2 t2)] [] Post := by
 refine is9.specW K_ok K_mix false (by simp) (by simp [keys]) ?_
 (conv => whnf); repeat ((apply And.intro;· exact Cl1); conv => whnf)
 refine fits_spec 100000000000 v.k v.n v.s v.l v.ns (by rw [V.eta]; exact a.b) (by omega) z1 z2 lp t1 t2 0 256 _ a.l a.z1 a.z2 a.n (by omega) (by omega) (by omega) ?_
 rw [V.eta]
 (conv => whnf); repeat ((apply And.intro;· exact Cl1); conv => whnf)
 refine ⟨fun h2 => ?_, fun h2 => ?_⟩
 ·have h2' : mayV v = false := by unfold mayV; simpa using h2
  rw [h2'] at h
  (conv => whnf); repeat ((apply And.intro;· exact Cl1); conv => whnf)
  exact h
 ·have h2' : mayV v = true := by unfold mayV; simpa using h2
  rw [h2'] at h
  (conv => whnf); repeat ((apply And.intro;· exact Cl1); conv => whnf)
  exact h
def Items : List (List UInt8) → List PV → Prop
 | [], L => L = []
 | a :: r, L => ∃ z t o R, L = .sl z (bs a) t o :: R ∧ (z = 1 ∨ a = []) ∧ Items r R
theorem Items_len : ∀ {ts : List (List UInt8)} {L : List PV}, Items ts L → L.length = ts.length
 | [], _, h => by simp only [Items] at h; simp [h]
 | a :: r, _, h => by
  simp only [Items] at h
  obtain ⟨z, t, o, R, rfl, _, h2⟩ := h
  simp [Items_len h2]
theorem Items_nth : ∀ {ts : List (List UInt8)} {L : List PV}, Items ts L → ∀ {i : Nat} (hi : i < ts.length), ∃ z t o, nth L i = .sl z (bs ts[i]) t o ∧ (z = 1 ∨ ts[i] = [])
 | a :: r, _, h, 0, hi => by
  simp only [Items] at h
  obtain ⟨z, t, o, R, rfl, h1, _⟩ := h
  exact ⟨z, t, o, rfl, h1⟩
 | a :: r, _, h, i + 1, hi => by
  simp only [Items] at h
  obtain ⟨z, t, o, R, rfl, _, h2⟩ := h
  exact Items_nth h2 (i := i) (by simpa using hi)
theorem flat_take_len (ts : List (List UInt8)) (i : Nat) : (ts.take i).flatten.length ≤ ts.flatten.length := by
 have h := congrArg (fun l : List (List UInt8) => l.flatten.length) (List.take_append_drop i ts)
 simp only [List.flatten_append, List.length_append] at h
 omega
theorem flat_take {ts : List (List UInt8)} {i : Nat} (hi : i < ts.length) : (ts.take (i + 1)).flatten = (ts.take i).flatten ++ ts[i] := by
 rw [List.take_succ_eq_append_getElem hi, List.flatten_append, List.flatten_singleton]
set_option maxHeartbeats 8000000 in
theorem joined_spec (ts : List (List UInt8)) (z : Nat) (L : List PV) (t : Bool) (hL : Items ts L) (hz : z = 1 ∨ ts = []) (hb : ts.flatten.length ≤ 10000000000000) (hn : ts.length ≤ 1000000000000) (Post : PV → List (Nat × Blk) → Prop)
  (h : Post (.sl 1 (bs ts.flatten) false true) []) : Spec K 62 [.sl z L t true] [] Post := by
 have hlen := Items_len hL
 have hz' : z = 1 ∨ L = [] := hz.imp (fun h => h) fun h => by rw [h] at hL; exact hL
 refine is62.specW K_ok K_mix false (by simp) (by simp [keys]) ?_
 (conv => whnf); repeat ((apply And.intro;· exact Cl1); conv => whnf)
 refine ⟨Nat × Bool, fun x => ⟨17, [(8, .int .i64 x.1), (7, .int .i64 ts.length), (6, .sl z L t true), (3, .ref 1 0 0 (ts.take x.1).flatten.length)], [(0, .row 5 1 (bs (ts.take x.1).flatten) x.2)], []⟩, fun x => x.1 ≤ ts.length, fun x => ts.length - x.1,
  ⟨[.slot 3 5], (0, false), Nat.zero_le _, ?_⟩, fun x hI => ?_⟩
 ·simp [meets, ghosts, ghost, St.le, St.get, St.put, look, keys, PV.labs, labsL, lookB, Blk.labs, hlen, fresh, bs]
  decide
 ·obtain ⟨i, o⟩ := x
  have hI : i ≤ ts.length := hI
  have hfl := flat_take_len ts i
  conv => (arg 5; dsimp only)
  (conv => whnf); repeat ((apply And.intro;· exact Cl1); conv => whnf)
  refine ⟨fun h1 => ?_, fun h1 => ?_⟩
  ·have hix : i < ts.length := by have := of_decide_eq_true h1; omega
   have hfl' := flat_take_len ts (i + 1)
   rw [flat_take hix, List.length_append] at hfl'
   obtain ⟨z', t', o', hp, hz2⟩ := Items_nth hL hix
   (conv => whnf); repeat ((apply And.intro;· exact Cl1); conv => whnf)
   refine ⟨hz', fun _ => ⟨by omega, by rw [hlen]; omega⟩, ?_⟩
   (conv => whnf); repeat ((apply And.intro;· exact Cl1); conv => whnf)
   rw [Int.toNat_natCast, hp]
   (conv => whnf); repeat ((apply And.intro;· exact Cl1); conv => whnf)
   refine ⟨by rw [bs_len]; show _ * 2 ≤ _; omega, ?_⟩
   (conv => whnf); repeat ((apply And.intro;· exact Cl1); conv => whnf)
   rw [Bool.or_true]
   (conv => whnf); repeat ((apply And.intro;· exact Cl1); conv => whnf)
   rw [wrap64 (by omega) (by omega), bs_len, List.take_of_length_le (l := bs _) (by rw [bs_len]; omega), ← bs_app, ← List.length_append, ← flat_take hix]
   refine ⟨[], (i + 1, true), hix, by show ts.length - (i + 1) < ts.length - i; omega, ?_⟩
   simp [meets, ghosts, St.le, St.get, look, keys, PV.labs, labsL, lookB, Blk.labs]
  ·have hix : i = ts.length := by have := of_decide_eq_false h1; omega
   subst hix
   (conv => whnf); repeat ((apply And.intro;· exact Cl1); conv => whnf)
   simp only [List.take_length, List.drop_zero, Nat.zero_add]
   rw [List.take_of_length_le (l := bs _) (by rw [bs_len]; omega)]
   exact h
def ub (n : Int) : UInt8 := UInt8.ofNat (n % 256).toNat
theorem wrapub (n : Int) : IntKind.u8.wrap n = ((ub n).toNat : Int) := by
 unfold ub
 rw [← wrapB]
 simp only [IntKind.wrap, IntKind.bits, IntKind.signed, Bool.false_and, Bool.false_eq_true, if_false]
 omega
theorem ub1 (n : Int) : [PV.int .u8 (IntKind.u8.wrap n)] = bs [ub n] := by rw [wrapub]; rfl
def countedB (s : List UInt8) : List UInt8 := ub s.length :: s
theorem counted_spec (s : List UInt8) (hs : s.length ≤ 100000000000) (Post : PV → List (Nat × Blk) → Prop) (h : Post (.sl 1 (bs (countedB s)) false true) []) : Spec K 63 [.str s] [] Post := by
 refine is63.specW K_ok K_mix false (by simp) (by simp [keys]) ?_
 (conv => whnf); repeat ((apply And.intro;· exact Cl1); conv => whnf)
 refine ⟨by omega, rfl, ?_⟩
 (conv => whnf); repeat ((apply And.intro;· exact Cl1); conv => whnf)
 refine joined_spec [[ub s.length], s] _ _ _ ⟨1, _, _, _, by rw [wrapub]; rfl, .inl rfl, 1, _, _, _, rfl, .inl rfl, rfl⟩ (.inl rfl) (by simp; omega) (by simp) _ ?_
 rw [show [[ub s.length], s].flatten = countedB s by simp [countedB]]
 (conv => whnf); repeat ((apply And.intro;· exact Cl1); conv => whnf)
 exact h
def be8 (n : Int) : List UInt8 := (List.range 8).map fun i => ub (n / 2 ^ (8 * (7 - i)))
mutual
def writeV : V → List UInt8
 | .mk k n s l ns => ub k :: (if k = 1 then be8 n else if k = 2 ∨ k = 6 then [ub n] else if k = 3 then countedB s else if k = 4 ∨ k = 5 then ub l.length :: writeVs (k == 5) l ns else [])
def writeVs : Bool → List V → List (List UInt8) → List UInt8
 | _, [], _ => []
 | r, v :: l, ns => (bif r then countedB (ns.headD []) else []) ++ writeV v ++ writeVs r l ns.tail
end
theorem be8_len (n : Int) : (be8 n).length = 8 := rfl
theorem be8_take (n : Int) {i : Nat} (hi : i < 8) : (be8 n).take (i + 1) = (be8 n).take i ++ [ub (n / 2 ^ (8 * (7 - i)))] := by
 rw [List.take_succ_eq_append_getElem (by rw [be8_len]; exact hi)]
 simp [be8]
mutual
theorem writeV_len : ∀ v : V, (writeV v).length + 1 ≤ 20 * bulkV v
 | .mk k n s l ns => by
  have := writeVs_len (k == 5) l ns
  simp only [writeV, bulkV]
  split
  ·simp [be8_len]; omega
  ·split
   ·simp; omega
   ·split
    ·simp [countedB]; omega
    ·split
     ·simp; omega
     ·simp; omega
theorem writeVs_len : ∀ (r : Bool) (l : List V) (ns : List (List UInt8)), (writeVs r l ns).length ≤ 20 * bulkVs l + nsBulk ns
 | _, [], _ => by simp [writeVs]
 | r, v :: l, [] => by
  have := writeV_len v
  have := writeVs_len r l []
  simp only [writeVs, bulkVs, List.length_append, List.headD_nil, List.tail_nil] at *
  cases r <;> simp [countedB] at * <;> omega
 | r, v :: l, s :: ns => by
  have := writeV_len v
  have := writeVs_len r l ns
  simp only [writeVs, bulkVs, nsBulk, List.length_append, List.headD_cons, List.tail_cons] at *
  cases r <;> simp [countedB] at * <;> omega
end
theorem allVs_mem : ∀ {l : List V} {i : Nat} (hi : i < l.length), allVs l = true → allV l[i] = true
 | v :: r, 0, hi, h => by simp only [allVs, Bool.and_eq_true] at h; exact h.1
 | v :: r, i + 1, hi, h => by
  simp only [allVs, Bool.and_eq_true] at h
  exact allVs_mem (l := r) (i := i) (by simpa using hi) h.2
set_option maxHeartbeats 8000000 in
theorem write_spec (N : Nat) : ∀ (k n : Int) (s : List UInt8) (l : List V) (ns : List (List UInt8)), bulkV (.mk k n s l ns) ≤ N → N ≤ 100000000000 → ∀ (z1 z2 : Nat) (lp : List PV) (t1 t2 : Bool) (Post : PV → List (Nat × Blk) → Prop),
  VPs l lp → (z1 = 5 ∨ l = []) → (z2 = 1 ∨ ns = []) → i64 n → allV (.mk k n s l ns) = true → Post (.sl 1 (bs (writeV (.mk k n s l ns))) false true) [] →
  Spec K 40 [.agg [.int .i64 k, .int .i64 n, .str s, .sl z1 lp t1 true, .sl z2 (strs ns) t2 true]] [] Post := by
 induction N with
 | zero => intro k n s l ns h; exact absurd (bulkV_pos (.mk k n s l ns)) (by omega)
 | succ N ih =>
  intro k n s l ns hs hN z1 z2 lp t1 t2 Post hl hz1 hz2 hn hall h
  have hz2' : z2 = 1 ∨ strs ns = [] := hz2.imp (fun h => h) fun h => by rw [h]; rfl
  have hlp := VPs_len hl
  have hz1' : z1 = 5 ∨ lp = [] := hz1.imp (fun h => h) fun h => by rw [h] at hlp; exact List.length_eq_zero_iff.1 hlp
  have hs' := hs
  simp only [bulkV] at hs'
  have hnb := nsBulk_le ns
  have hlb := len_sizeVs l
  have hsb := sizes_bulk l
  refine is40.specW K_ok K_mix false (by simp) (by simp [keys]) ?_
  (conv => whnf); repeat ((apply And.intro;· exact Cl1); conv => whnf)
  refine ⟨fun h1 => ?_, fun h1 => ?_⟩
  ·obtain rfl : k = 1 := by simpa using h1
   (conv => whnf); repeat ((apply And.intro;· exact Cl1); conv => whnf)
   refine ⟨Nat, fun i => ⟨83, [(15, .int .i64 i), (3, .ref 1 1 0 (i + 1)), (1, .ptr 0 0)], [(0, .box [.int .i64 1, .int .i64 n, .str s, .sl z1 lp t1 true, .sl z2 (strs ns) t2 true]), (1, .row 5 1 (bs (ub 1 :: (be8 n).take i)) false)], []⟩,
    fun i => i ≤ 8, fun i => 8 - i, ⟨[], 0, Nat.zero_le _, ?_⟩, fun i hI => ?_⟩
   ·simp [meets, ghosts, St.le, St.get, look, keys, PV.labs, labsL, lookB, Blk.labs, ub1]
   ·have hI : i ≤ 8 := hI
    conv => (arg 5; dsimp only)
    (conv => whnf); repeat ((apply And.intro;· exact Cl1); conv => whnf)
    refine ⟨fun h2 => ?_, fun h2 => ?_⟩
    ·have hi : i < 8 := by have := of_decide_eq_true h2; omega
     (conv => whnf); repeat ((apply And.intro;· exact Cl1); conv => whnf)
     have e1 : IntKind.i64.wrap (8 * IntKind.i64.wrap (7 - (i : Int))) = ((8 * (7 - i) : Nat) : Int) := by
      rw [wrap64 (n := 7 - (i : Int)) (by omega) (by omega), wrap64 (by omega) (by omega)]; omega
     rw [e1]
     refine ⟨fun _ => by omega, ?_⟩
     (conv => whnf); repeat ((apply And.intro;· exact Cl1); conv => whnf)
     have e2 : n.fdiv (2 ^ min (((8 * (7 - i) : Nat) : Int)).toNat IntKind.i64.bits) = n / 2 ^ (8 * (7 - i)) := by
      rw [Int.toNat_natCast, Nat.min_eq_left (by show _ ≤ 64; omega), Int.fdiv_eq_ediv_of_nonneg _ (Int.pow_nonneg (by omega))]
     rw [e2]
     (conv => whnf); repeat ((apply And.intro;· exact Cl1); conv => whnf)
     refine ⟨by show (i + 1 + 1) * 2 ≤ _; omega, ?_⟩
     (conv => whnf); repeat ((apply And.intro;· exact Cl1); conv => whnf)
     rw [ub1, List.take_of_length_le (l := bs _) (by rw [bs_len]; simp [be8_len]; omega), List.take_of_length_le (l := List.drop 0 (bs _)) (by rw [List.drop_zero, bs_len]; exact Nat.le_refl 1), List.drop_zero, ← bs_app, wrap64 (by omega) (by omega)]
     refine ⟨[], i + 1, hi, by show 8 - (i + 1) < 8 - i; omega, ?_⟩
     simp [meets, ghosts, St.le, St.get, look, keys, PV.labs, labsL, lookB, Blk.labs, be8_take n hi, bs_len]
    ·have hi : i = 8 := by have := of_decide_eq_false h2; omega
     subst hi
     (conv => whnf); repeat ((apply And.intro;· exact Cl1); conv => whnf)
     rw [List.take_of_length_le (by rw [List.drop_zero, bs_len]; simp [be8_len])]
     rw [List.drop_zero, List.take_of_length_le (l := be8 n) (by rw [be8_len]; omega)]
     simpa [writeV] using h
  ·have h1' : k ≠ 1 := by simpa using h1
   (conv => whnf); repeat ((apply And.intro;· exact Cl1); conv => whnf)
   refine ⟨fun h2 => ?_, fun h2 => ?_⟩
   ·obtain rfl : k = 2 := by simpa using h2
    (conv => whnf); repeat ((apply And.intro;· exact Cl1); conv => whnf)
    refine ⟨fun _ => ?_, fun hc => (by cases hc)⟩
    (conv => whnf); repeat ((apply And.intro;· exact Cl1); conv => whnf)
    simpa [writeV, wrapub, bs] using h
   ·have h2' : k ≠ 2 := by simpa using h2
    (conv => whnf); repeat ((apply And.intro;· exact Cl1); conv => whnf)
    refine ⟨fun h3 => ?_, fun h3 => ?_⟩
    ·obtain rfl : k = 6 := by simpa using h3
     (conv => whnf); repeat ((apply And.intro;· exact Cl1); conv => whnf)
     simpa [writeV, wrapub, bs] using h
    ·have h3' : k ≠ 6 := by simpa using h3
     (conv => whnf); repeat ((apply And.intro;· exact Cl1); conv => whnf)
     refine ⟨fun h4 => ?_, fun h4 => ?_⟩
     ·obtain rfl : k = 3 := by simpa using h4
      (conv => whnf); repeat ((apply And.intro;· exact Cl1); conv => whnf)
      refine counted_spec s (by omega) _ ?_
      (conv => whnf); repeat ((apply And.intro;· exact Cl1); conv => whnf)
      refine joined_spec [[ub 3], countedB s] _ _ _ ⟨1, _, _, _, by rw [wrapub]; rfl, .inl rfl, 1, _, _, _, rfl, .inl rfl, rfl⟩ (.inl rfl) (by simp [countedB]; omega) (by simp) _ ?_
      rw [show [[ub 3], countedB s].flatten = writeV (.mk 3 n s l ns) by simp [writeV]]
      (conv => whnf); repeat ((apply And.intro;· exact Cl1); conv => whnf)
      exact h
     ·have h4' : k ≠ 3 := by simpa using h4
      simp only [allV, Bool.and_eq_true] at hall
      have halls := hall.2
      (conv => whnf); repeat ((apply And.intro;· exact Cl1); conv => whnf)
      refine ⟨fun h5 => ?_, fun h5 => ?_⟩
      ·obtain rfl : k = 4 := by simpa using h5
       (conv => whnf); repeat ((apply And.intro;· exact Cl1); conv => whnf)
       refine ⟨fun _ => ?_, fun hc => (by cases hc)⟩
       (conv => whnf); repeat ((apply And.intro;· exact Cl1); conv => whnf)
       have hpost : Post (.sl 1 (bs (ub 4 :: ub l.length :: writeVs false l ns)) false true) [] := by simpa [writeV] using h
       refine ⟨Nat × List UInt8, fun x => ⟨83, [(59, .int .i64 x.1), (58, .int .i64 l.length), (57, .sl z1 lp t1 true), (3, match x.1 with | 0 => .ref 1 1 0 2 | _ + 1 => .sl 1 (bs (ub 4 :: ub l.length :: x.2)) false true), (1, .ptr 0 0)], (0, .box [.int .i64 4, .int .i64 n, .str s, .sl z1 lp t1 true, .sl z2 (strs ns) t2 true]) :: (match x.1 with | 0 => [(1, .row 5 1 (bs [ub 4, ub l.length]) false)] | _ + 1 => []), []⟩,
        fun x => x.1 ≤ l.length ∧ (x.1 = 0 → x.2 = []) ∧ x.2 ++ writeVs false (l.drop x.1) (ns.drop x.1) = writeVs false l ns, fun x => l.length - x.1, ⟨[], (0, []), ⟨Nat.zero_le _, fun _ => rfl, rfl⟩, ?_⟩, fun x hI => ?_⟩
       ·simp [meets, ghosts, St.le, St.get, look, keys, PV.labs, labsL, lookB, Blk.labs, hlp, wrapub, bs]
       ·obtain ⟨i, a⟩ := x
        obtain ⟨hi, ha0, hacc⟩ := hI
        simp only at hi ha0 hacc
        rcases i with _ | i
        ·obtain rfl := ha0 rfl
         conv => (arg 5; dsimp only)
         (conv => whnf); repeat ((apply And.intro;· exact Cl1); conv => whnf)
         refine ⟨fun h7 => ?_, fun h7 => ?_⟩
         ·have hix : 0 < l.length := by have := of_decide_eq_true h7; omega
          have hdr : l.drop (0) = l[0] :: l.drop (0 + 1) := List.drop_eq_getElem_cons hix
          skip
          obtain ⟨y1, mp, u1, o1, y2, u2, o2, hp, hq, g1, g2, g3⟩ := (VPs_nth hl hix).out
          have hbm := bulkVs_mem hix
          have hwl := writeV_len l[0]
          have hal := allVs_mem hix halls
          have hwt := writeVs_len false l ns
          rw [hdr, writeVs] at hacc
          have hac2 := congrArg List.length hacc
          simp only [List.length_append, cond_true, cond_false, List.headD_cons, List.tail_cons, List.length_nil] at hac2
          (conv => whnf); repeat ((apply And.intro;· exact Cl1); conv => whnf)
          refine ⟨hz1', fun _ => ⟨by omega, by rw [hlp]; omega⟩, ?_⟩
          (conv => whnf); repeat ((apply And.intro;· exact Cl1); conv => whnf)
          rw [Int.toNat_natCast]
          rw [hp]
          (conv => whnf); repeat ((apply And.intro;· exact Cl1); conv => whnf)
          refine ⟨fun hc => (by cases hc), fun _ => ?_⟩
          (conv => whnf); repeat ((apply And.intro;· exact Cl1); conv => whnf)
          refine ih l[0].k l[0].n l[0].s l[0].l l[0].ns (by rw [V.eta]; omega) (by omega) y1 y2 mp u1 u2 _ hq g1 g2 g3 (by rw [V.eta]; exact hal) ?_
          rw [V.eta]
          (conv => whnf); repeat ((apply And.intro;· exact Cl1); conv => whnf)
          refine joined_spec [[ub 4, ub l.length], writeV l[0]] _ _ _ ⟨1, _, _, _, rfl, .inl rfl, 1, _, _, _, rfl, .inl rfl, rfl⟩ (.inl rfl) (by simp; omega) (by simp) _ ?_
          rw [show [[ub 4, ub l.length], writeV l[0]].flatten = [ub 4, ub l.length] ++ writeV l[0] by simp]
          (conv => whnf); repeat ((apply And.intro;· exact Cl1); conv => whnf)
          rw [wrap64 (by omega) (by omega)]
          refine ⟨[], (0 + 1, writeV l[0]), ⟨by omega, fun hc => (by cases hc), ?_⟩, by show l.length - (0 + 1) < l.length - (0); omega, ?_⟩
          ·rw [← hacc]
           simp only [List.tail_drop, List.tail_cons, List.headD_cons, cond_true, cond_false, List.append_assoc, List.nil_append, List.append_nil]
          ·simp [meets, ghosts, St.le, St.get, look, keys, PV.labs, labsL, lookB, Blk.labs]
         ·have hix : 0 = l.length := by have := of_decide_eq_false h7; omega
          (conv => whnf); repeat ((apply And.intro;· exact Cl1); conv => whnf)
          simp only [hix, List.drop_length, writeVs, List.append_nil] at hacc
          rw [← hacc] at hpost
          exact hpost
        ·conv => (arg 5; dsimp only)
         (conv => whnf); repeat ((apply And.intro;· exact Cl1); conv => whnf)
         refine ⟨fun h7 => ?_, fun h7 => ?_⟩
         ·have hix : (i + 1) < l.length := by have := of_decide_eq_true h7; omega
          have hdr : l.drop ((i + 1)) = l[(i + 1)] :: l.drop ((i + 1) + 1) := List.drop_eq_getElem_cons hix
          skip
          obtain ⟨y1, mp, u1, o1, y2, u2, o2, hp, hq, g1, g2, g3⟩ := (VPs_nth hl hix).out
          have hbm := bulkVs_mem hix
          have hwl := writeV_len l[(i + 1)]
          have hal := allVs_mem hix halls
          have hwt := writeVs_len false l ns
          rw [hdr, writeVs] at hacc
          have hac2 := congrArg List.length hacc
          simp only [List.length_append, cond_true, cond_false, List.headD_cons, List.tail_cons, List.length_nil] at hac2
          (conv => whnf); repeat ((apply And.intro;· exact Cl1); conv => whnf)
          refine ⟨hz1', fun _ => ⟨by omega, by rw [hlp]; omega⟩, ?_⟩
          (conv => whnf); repeat ((apply And.intro;· exact Cl1); conv => whnf)
          rw [Int.toNat_natCast]
          rw [hp]
          (conv => whnf); repeat ((apply And.intro;· exact Cl1); conv => whnf)
          refine ⟨fun hc => (by cases hc), fun _ => ?_⟩
          (conv => whnf); repeat ((apply And.intro;· exact Cl1); conv => whnf)
          refine ih l[(i + 1)].k l[(i + 1)].n l[(i + 1)].s l[(i + 1)].l l[(i + 1)].ns (by rw [V.eta]; omega) (by omega) y1 y2 mp u1 u2 _ hq g1 g2 g3 (by rw [V.eta]; exact hal) ?_
          rw [V.eta]
          (conv => whnf); repeat ((apply And.intro;· exact Cl1); conv => whnf)
          refine joined_spec [(ub 4 :: ub l.length :: a), writeV l[(i + 1)]] _ _ _ ⟨1, _, _, _, rfl, .inl rfl, 1, _, _, _, rfl, .inl rfl, rfl⟩ (.inl rfl) (by simp; omega) (by simp) _ ?_
          rw [show [(ub 4 :: ub l.length :: a), writeV l[(i + 1)]].flatten = (ub 4 :: ub l.length :: a) ++ writeV l[(i + 1)] by simp]
          (conv => whnf); repeat ((apply And.intro;· exact Cl1); conv => whnf)
          rw [wrap64 (by omega) (by omega)]
          refine ⟨[], ((i + 1) + 1, a ++ writeV l[(i + 1)]), ⟨by omega, fun hc => (by cases hc), ?_⟩, by show l.length - ((i + 1) + 1) < l.length - ((i + 1)); omega, ?_⟩
          ·rw [← hacc]
           simp only [List.tail_drop, List.tail_cons, List.headD_cons, cond_true, cond_false, List.append_assoc, List.nil_append, List.append_nil]
          ·simp [meets, ghosts, St.le, St.get, look, keys, PV.labs, labsL, lookB, Blk.labs]
         ·have hix : (i + 1) = l.length := by have := of_decide_eq_false h7; omega
          (conv => whnf); repeat ((apply And.intro;· exact Cl1); conv => whnf)
          simp only [hix, List.drop_length, writeVs, List.append_nil] at hacc
          rw [← hacc] at hpost
          exact hpost
      ·have h5' : k ≠ 4 := by simpa using h5
       (conv => whnf); repeat ((apply And.intro;· exact Cl1); conv => whnf)
       refine ⟨fun h6 => ?_, fun h6 => ?_⟩
       ·obtain rfl : k = 5 := by simpa using h6
        have hnl : l.length = ns.length := by
         have := hall.1
         simp [ownB] at this
         exact this.1.1.1.2
        (conv => whnf); repeat ((apply And.intro;· exact Cl1); conv => whnf)
        have hpost : Post (.sl 1 (bs (ub 5 :: ub l.length :: writeVs true l ns)) false true) [] := by simpa [writeV] using h
        refine ⟨Nat × List UInt8, fun x => ⟨83, [(59, .int .i64 x.1), (58, .int .i64 l.length), (57, .sl z1 lp t1 true), (3, match x.1 with | 0 => .ref 1 1 0 2 | _ + 1 => .sl 1 (bs (ub 5 :: ub l.length :: x.2)) false true), (1, .ptr 0 0)], (0, .box [.int .i64 5, .int .i64 n, .str s, .sl z1 lp t1 true, .sl z2 (strs ns) t2 true]) :: (match x.1 with | 0 => [(1, .row 5 1 (bs [ub 5, ub l.length]) false)] | _ + 1 => []), []⟩,
         fun x => x.1 ≤ l.length ∧ (x.1 = 0 → x.2 = []) ∧ x.2 ++ writeVs true (l.drop x.1) (ns.drop x.1) = writeVs true l ns, fun x => l.length - x.1, ⟨[], (0, []), ⟨Nat.zero_le _, fun _ => rfl, rfl⟩, ?_⟩, fun x hI => ?_⟩
        ·simp [meets, ghosts, St.le, St.get, look, keys, PV.labs, labsL, lookB, Blk.labs, hlp, wrapub, bs]
        ·obtain ⟨i, a⟩ := x
         obtain ⟨hi, ha0, hacc⟩ := hI
         simp only at hi ha0 hacc
         rcases i with _ | i
         ·obtain rfl := ha0 rfl
          conv => (arg 5; dsimp only)
          (conv => whnf); repeat ((apply And.intro;· exact Cl1); conv => whnf)
          refine ⟨fun h7 => ?_, fun h7 => ?_⟩
          ·have hix : 0 < l.length := by have := of_decide_eq_true h7; omega
           have hdr : l.drop (0) = l[0] :: l.drop (0 + 1) := List.drop_eq_getElem_cons hix
           have hin : 0 < ns.length := by omega
           have hdn : ns.drop (0) = ns[0] :: ns.drop (0 + 1) := List.drop_eq_getElem_cons hin
           have hnm := nsLen_mem hin
           obtain ⟨y1, mp, u1, o1, y2, u2, o2, hp, hq, g1, g2, g3⟩ := (VPs_nth hl hix).out
           have hbm := bulkVs_mem hix
           have hwl := writeV_len l[0]
           have hal := allVs_mem hix halls
           have hwt := writeVs_len true l ns
           rw [hdr, hdn, writeVs] at hacc
           have hac2 := congrArg List.length hacc
           simp only [List.length_append, cond_true, cond_false, List.headD_cons, List.tail_cons, List.length_nil] at hac2
           (conv => whnf); repeat ((apply And.intro;· exact Cl1); conv => whnf)
           refine ⟨hz1', fun _ => ⟨by omega, by rw [hlp]; omega⟩, ?_⟩
           (conv => whnf); repeat ((apply And.intro;· exact Cl1); conv => whnf)
           rw [Int.toNat_natCast]
           rw [hp]
           (conv => whnf); repeat ((apply And.intro;· exact Cl1); conv => whnf)
           refine ⟨fun _ => ?_, fun hc => (by cases hc)⟩
           (conv => whnf); repeat ((apply And.intro;· exact Cl1); conv => whnf)
           refine ⟨hz2', fun _ => ⟨by omega, by rw [strs_len]; omega⟩, ?_⟩
           (conv => whnf); repeat ((apply And.intro;· exact Cl1); conv => whnf)
           rw [Int.toNat_natCast, nth_strs hin]
           (conv => whnf); repeat ((apply And.intro;· exact Cl1); conv => whnf)
           refine counted_spec ns[0] (by omega) _ ?_
           (conv => whnf); repeat ((apply And.intro;· exact Cl1); conv => whnf)
           refine joined_spec [[ub 5, ub l.length], countedB ns[0]] _ _ _ ⟨1, _, _, _, rfl, .inl rfl, 1, _, _, _, rfl, .inl rfl, rfl⟩ (.inl rfl) (by simp [countedB]; omega) (by simp) _ ?_
           rw [show [[ub 5, ub l.length], countedB ns[0]].flatten = [ub 5, ub l.length] ++ countedB ns[0] by simp]
           (conv => whnf); repeat ((apply And.intro;· exact Cl1); conv => whnf)
           refine ih l[0].k l[0].n l[0].s l[0].l l[0].ns (by rw [V.eta]; omega) (by omega) y1 y2 mp u1 u2 _ hq g1 g2 g3 (by rw [V.eta]; exact hal) ?_
           rw [V.eta]
           (conv => whnf); repeat ((apply And.intro;· exact Cl1); conv => whnf)
           refine joined_spec [([ub 5, ub l.length] ++ countedB ns[0]), writeV l[0]] _ _ _ ⟨1, _, _, _, rfl, .inl rfl, 1, _, _, _, rfl, .inl rfl, rfl⟩ (.inl rfl) (by simp; omega) (by simp) _ ?_
           rw [show [([ub 5, ub l.length] ++ countedB ns[0]), writeV l[0]].flatten = ([ub 5, ub l.length] ++ countedB ns[0]) ++ writeV l[0] by simp]
           (conv => whnf); repeat ((apply And.intro;· exact Cl1); conv => whnf)
           rw [wrap64 (by omega) (by omega)]
           refine ⟨[], (0 + 1, countedB ns[0] ++ writeV l[0]), ⟨by omega, fun hc => (by cases hc), ?_⟩, by show l.length - (0 + 1) < l.length - (0); omega, ?_⟩
           ·rw [← hacc]
            simp only [List.tail_drop, List.tail_cons, List.headD_cons, cond_true, cond_false, List.append_assoc, List.nil_append, List.append_nil]
           ·simp [meets, ghosts, St.le, St.get, look, keys, PV.labs, labsL, lookB, Blk.labs]
          ·have hix : 0 = l.length := by have := of_decide_eq_false h7; omega
           (conv => whnf); repeat ((apply And.intro;· exact Cl1); conv => whnf)
           simp only [hix, List.drop_length, writeVs, List.append_nil] at hacc
           rw [← hacc] at hpost
           exact hpost
         ·conv => (arg 5; dsimp only)
          (conv => whnf); repeat ((apply And.intro;· exact Cl1); conv => whnf)
          refine ⟨fun h7 => ?_, fun h7 => ?_⟩
          ·have hix : (i + 1) < l.length := by have := of_decide_eq_true h7; omega
           have hdr : l.drop ((i + 1)) = l[(i + 1)] :: l.drop ((i + 1) + 1) := List.drop_eq_getElem_cons hix
           have hin : (i + 1) < ns.length := by omega
           have hdn : ns.drop ((i + 1)) = ns[(i + 1)] :: ns.drop ((i + 1) + 1) := List.drop_eq_getElem_cons hin
           have hnm := nsLen_mem hin
           obtain ⟨y1, mp, u1, o1, y2, u2, o2, hp, hq, g1, g2, g3⟩ := (VPs_nth hl hix).out
           have hbm := bulkVs_mem hix
           have hwl := writeV_len l[(i + 1)]
           have hal := allVs_mem hix halls
           have hwt := writeVs_len true l ns
           rw [hdr, hdn, writeVs] at hacc
           have hac2 := congrArg List.length hacc
           simp only [List.length_append, cond_true, cond_false, List.headD_cons, List.tail_cons, List.length_nil] at hac2
           (conv => whnf); repeat ((apply And.intro;· exact Cl1); conv => whnf)
           refine ⟨hz1', fun _ => ⟨by omega, by rw [hlp]; omega⟩, ?_⟩
           (conv => whnf); repeat ((apply And.intro;· exact Cl1); conv => whnf)
           rw [Int.toNat_natCast]
           rw [hp]
           (conv => whnf); repeat ((apply And.intro;· exact Cl1); conv => whnf)
           refine ⟨fun _ => ?_, fun hc => (by cases hc)⟩
           (conv => whnf); repeat ((apply And.intro;· exact Cl1); conv => whnf)
           refine ⟨hz2', fun _ => ⟨by omega, by rw [strs_len]; omega⟩, ?_⟩
           (conv => whnf); repeat ((apply And.intro;· exact Cl1); conv => whnf)
           rw [Int.toNat_natCast, nth_strs hin]
           (conv => whnf); repeat ((apply And.intro;· exact Cl1); conv => whnf)
           refine counted_spec ns[(i + 1)] (by omega) _ ?_
           (conv => whnf); repeat ((apply And.intro;· exact Cl1); conv => whnf)
           refine joined_spec [(ub 5 :: ub l.length :: a), countedB ns[(i + 1)]] _ _ _ ⟨1, _, _, _, rfl, .inl rfl, 1, _, _, _, rfl, .inl rfl, rfl⟩ (.inl rfl) (by simp [countedB]; omega) (by simp) _ ?_
           rw [show [(ub 5 :: ub l.length :: a), countedB ns[(i + 1)]].flatten = (ub 5 :: ub l.length :: a) ++ countedB ns[(i + 1)] by simp]
           (conv => whnf); repeat ((apply And.intro;· exact Cl1); conv => whnf)
           refine ih l[(i + 1)].k l[(i + 1)].n l[(i + 1)].s l[(i + 1)].l l[(i + 1)].ns (by rw [V.eta]; omega) (by omega) y1 y2 mp u1 u2 _ hq g1 g2 g3 (by rw [V.eta]; exact hal) ?_
           rw [V.eta]
           (conv => whnf); repeat ((apply And.intro;· exact Cl1); conv => whnf)
           refine joined_spec [((ub 5 :: ub l.length :: a) ++ countedB ns[(i + 1)]), writeV l[(i + 1)]] _ _ _ ⟨1, _, _, _, rfl, .inl rfl, 1, _, _, _, rfl, .inl rfl, rfl⟩ (.inl rfl) (by simp; omega) (by simp) _ ?_
           rw [show [((ub 5 :: ub l.length :: a) ++ countedB ns[(i + 1)]), writeV l[(i + 1)]].flatten = ((ub 5 :: ub l.length :: a) ++ countedB ns[(i + 1)]) ++ writeV l[(i + 1)] by simp]
           (conv => whnf); repeat ((apply And.intro;· exact Cl1); conv => whnf)
           rw [wrap64 (by omega) (by omega)]
           refine ⟨[], ((i + 1) + 1, a ++ countedB ns[(i + 1)] ++ writeV l[(i + 1)]), ⟨by omega, fun hc => (by cases hc), ?_⟩, by show l.length - ((i + 1) + 1) < l.length - ((i + 1)); omega, ?_⟩
           ·rw [← hacc]
            simp only [List.tail_drop, List.tail_cons, List.headD_cons, cond_true, cond_false, List.append_assoc, List.nil_append, List.append_nil]
           ·simp [meets, ghosts, St.le, St.get, look, keys, PV.labs, labsL, lookB, Blk.labs]
          ·have hix : (i + 1) = l.length := by have := of_decide_eq_false h7; omega
           (conv => whnf); repeat ((apply And.intro;· exact Cl1); conv => whnf)
           simp only [hix, List.drop_length, writeVs, List.append_nil] at hacc
           rw [← hacc] at hpost
           exact hpost
       ·have h6' : k ≠ 5 := by simpa using h6
        (conv => whnf); repeat ((apply And.intro;· exact Cl1); conv => whnf)
        rw [wrapub]
        simpa [writeV, h1', h2', h3', h4', h5', h6', bs] using h
end Go.Vc
namespace Go.Vc
open Go Go.Proofs
set_option maxRecDepth 100000
theorem allV_of {v : V} (h : mayV v = true) : allV v = true := (okV_iff.1 h).2
theorem valueBytes_spec (v : V) (z1 z2 : Nat) (lp : List PV) (t1 t2 : Bool) (Post : PV → List (Nat × Blk) → Prop) (a : VA v z1 lp z2)
  (h1 : mayV v = true → Post (.tup [.sl 1 (bs (writeV v)) false true, .int .i64 0]) []) (h2 : mayV v = false → Post (.tup [.sl 0 [] false true, .int .i64 2]) []) :
  Spec K 17 [.agg (vc v z1 lp t1 z2 t2)] [] Post := by
 refine is17.specW K_ok K_mix false (by simp) (by simp [keys]) ?_
 (conv => whnf); repeat ((apply And.intro;· exact Cl1); conv => whnf)
 refine check_spec v z1 z2 lp t1 t2 _ a ?_
 (conv => whnf); repeat ((apply And.intro;· exact Cl1); conv => whnf)
 refine ⟨fun hc => ?_, fun hc => ?_⟩
 ·have hm : mayV v = false := by cases hm : mayV v with
   | false => rfl
   | true => rw [hm] at hc; cases hc
  (conv => whnf); repeat ((apply And.intro;· exact Cl1); conv => whnf)
  rw [hm]
  exact h2 hm
 ·have hm : mayV v = true := by cases hm : mayV v with
   | true => rfl
   | false => rw [hm] at hc; cases hc
  (conv => whnf); repeat ((apply And.intro;· exact Cl1); conv => whnf)
  refine write_spec 100000000000 v.k v.n v.s v.l v.ns (by rw [V.eta]; exact a.b) (by omega) z1 z2 lp t1 t2 _ a.l a.z1 a.z2 a.n (by rw [V.eta]; exact allV_of hm) ?_
  rw [V.eta]
  (conv => whnf); repeat ((apply And.intro;· exact Cl1); conv => whnf)
  exact h1 hm
theorem u8all {p : UInt8 → Prop} (h : ∀ n, n < 256 → p (UInt8.ofNat n)) (c : UInt8) : p c := by
 have := h c.toNat c.toNat_lt
 rwa [UInt8.ofNat_toNat] at this
theorem i0 (i : Nat) : ((i : Int) == 0) = (i == 0) := by cases i <;> simp; omega
theorem inName_letter : ∀ c : UInt8, inName true c = true → inName false c = true := u8all (by decide +kernel)
set_option maxHeartbeats 4000000 in
theorem nameV_spec (s : List UInt8) (Post : PV → List (Nat × Blk) → Prop) (h : Post (.bool (isName s)) []) : Spec K 90 [.str s] [] Post := by
 refine is90.specW K_ok K_mix false (by simp) (by simp [keys]) ?_
 (conv => whnf); repeat ((apply And.intro;· exact Cl1); conv => whnf)
 have hg : ∀ {i : Nat} (hi : i < s.length), s.getD i 0 = s[i] := fun hi => by rw [List.getD_eq_getElem?_getD, List.getElem?_eq_getElem hi]; rfl
 have hne : (true = true ∧ (bif bif decide ((s.length : Int) < 1) then true else decide (16 < (s.length : Int)) then true else decide (((s.getD (Int.toNat 0) 0).toNat : Int) < 97)) = false) → (0 : Int) ≤ 0 ∧ (0 : Int) < s.length := by
  intro hh
  have hh := hh.2
  by_cases h2 : (s.length : Int) < 1
  ·simp [h2] at hh
  ·omega
 refine ⟨fun hh => ?_, ?_⟩
 ·have hh := hh.2
  by_cases h2 : (s.length : Int) < 1
  ·simp [h2] at hh
  ·omega
 (conv => whnf); repeat ((apply And.intro;· exact Cl1); conv => whnf)
 refine ⟨hne, ?_⟩
 (conv => whnf); repeat ((apply And.intro;· exact Cl1); conv => whnf)
 refine ⟨fun hc => ?_, fun hc => ?_⟩
 ·(conv => whnf); repeat ((apply And.intro;· exact Cl1); conv => whnf)
  have : isName s = false := by
   cases s with
   | nil => rfl
   | cons c r =>
    by_cases h2 : (16 : Int) < (c :: r).length
    ·have : ¬ (c :: r).length ≤ 16 := by omega
     simp only [isName, this, decide_false, Bool.and_false, Bool.false_and]
    ·have h3 : ¬ ((c :: r).length : Int) < 1 := by simp; omega
     have h4 : inName true c = false := by
      rw [decide_eq_false h3, decide_eq_false h2] at hc
      revert hc
      show (bif bif bif false then true else false then true else decide ((c.toNat : Int) < 97) then true else decide (122 < (c.toNat : Int))) = true → _
      clear h2 h3 hne hg h
      revert c
      exact u8all (by decide +kernel)
     simp [isName, inNames, h4]
  rwa [this] at h
 ·have h1 : 1 ≤ s.length ∧ s.length ≤ 16 := by
   by_cases h2 : (s.length : Int) < 1
   ·simp [h2] at hc
   ·by_cases h3 : (16 : Int) < s.length
    ·simp [h2, h3] at hc
    ·omega
  have hst : inNames true s = inNames false s := by
   cases s with
   | nil => simp at h1
   | cons c r =>
    have h2 : ¬ (16 : Int) < (c :: r).length := by omega
    have h3 : ¬ ((c :: r).length : Int) < 1 := by omega
    have h4 : inName true c = true := by
     rw [decide_eq_false h3, decide_eq_false h2] at hc
     revert hc
     show (bif bif bif false then true else false then true else decide ((c.toNat : Int) < 97) then true else decide (122 < (c.toNat : Int))) = false → _
     clear h2 h3 hne hg h h1
     revert c
     exact u8all (by decide +kernel)
    simp [inNames, h4, inName_letter c h4]
  have hnm : isName s = inNames false s := by
   rw [← hst]
   unfold isName
   cases s with
   | nil => simp at h1
   | cons c r => simp at h1 ⊢; omega
  rw [hnm] at h
  clear hne hc
  (conv => whnf); repeat ((apply And.intro;· exact Cl1); conv => whnf)
  refine ⟨Nat, fun i => ⟨52, [(3, .int .i64 i), (2, .bool false), (0, .str s)], [], []⟩, fun i => i ≤ s.length ∧ inNames false s = inNames false (s.drop i), fun i => s.length - i,
   ⟨[], 0, ⟨Nat.zero_le _, rfl⟩, ?_⟩, fun i ⟨hi, hin⟩ => ?_⟩
  ·simp [meets, ghosts, St.le, St.get, look, keys, PV.labs, labsL]
  ·(conv => whnf); repeat ((apply And.intro;· exact Cl1); conv => whnf)
   refine ⟨fun h1 => ?_, fun h1 => ?_⟩
   ·have hix : i < s.length := by have := of_decide_eq_true h1; omega
    (conv => whnf); repeat ((apply And.intro;· exact Cl1); conv => whnf)
    refine ⟨fun _ => ⟨by omega, by omega⟩, ?_⟩
    (conv => whnf); repeat ((apply And.intro;· exact Cl1); conv => whnf)
    rw [Int.toNat_natCast, hg hix]
    have hdr : s.drop i = s[i] :: s.drop (i + 1) := List.drop_eq_getElem_cons hix
    refine ⟨fun h2 => ?_, fun h2 => ?_⟩
    ·have : inName false s[i] = false := by
      revert h2
      generalize s[i] = c
      revert c
      refine u8all ?_; decide +kernel
     (conv => whnf); repeat ((apply And.intro;· exact Cl1); conv => whnf)
     rw [hin, hdr, inNames, this] at h
     exact h
    ·have : inName false s[i] = true := by
      revert h2
      generalize s[i] = c
      revert c
      refine u8all ?_; decide +kernel
     (conv => whnf); repeat ((apply And.intro;· exact Cl1); conv => whnf)
     rw [wrap64 (by omega) (by omega)]
     refine ⟨[], i + 1, ⟨hix, ?_⟩, by show s.length - (i + 1) < s.length - i; omega, ?_⟩
     ·rw [hin, hdr, inNames, this]; simp
     ·simp [meets, ghosts, St.le, St.get, look, keys, PV.labs, labsL]
   ·have hix : i = s.length := by have := of_decide_eq_false h1; omega
    (conv => whnf); repeat ((apply And.intro;· exact Cl1); conv => whnf)
    rw [hin, hix, List.drop_length] at h
    exact h
end Go.Vc
namespace Go.Vc
open Go Go.Proofs
set_option maxRecDepth 100000
theorem nsLen_take {ns : List (List UInt8)} {i : Nat} (hi : i < ns.length) : nsLen (ns.take (i + 1)) = nsLen (ns.take i) + ns[i].length := by
 induction ns generalizing i with
 | nil => simp at hi
 | cons a r ih =>
  cases i with
  | zero => simp [nsLen]
  | succ i => simp only [List.take_succ_cons, nsLen, ih (by simpa using hi), List.getElem_cons_succ]; omega
theorem nsLen_take_le (ns : List (List UInt8)) (i : Nat) : nsLen (ns.take i) ≤ nsLen ns := by
 induction ns generalizing i with
 | nil => simp
 | cons a r ih => cases i with
  | zero => simp [nsLen]
  | succ i => simp only [List.take_succ_cons, nsLen]; have := ih i; omega
theorem sizeVs_take {l : List V} {i : Nat} (hi : i < l.length) : sizeVs (l.take (i + 1)) = sizeVs (l.take i) + sizeV l[i] := by
 induction l generalizing i with
 | nil => simp at hi
 | cons a r ih =>
  cases i with
  | zero => simp [sizeVs]
  | succ i => simp only [List.take_succ_cons, sizeVs, ih (by simpa using hi), List.getElem_cons_succ]; omega
theorem sizeVs_take_le (l : List V) (i : Nat) : sizeVs (l.take i) ≤ sizeVs l := by
 induction l generalizing i with
 | nil => simp
 | cons a r ih => cases i with
  | zero => simp [sizeVs]
  | succ i => simp only [List.take_succ_cons, sizeVs]; have := ih i; omega
theorem depthVs_take {l : List V} {i : Nat} (hi : i < l.length) : depthVs (l.take (i + 1)) = max (depthVs (l.take i)) (depthV l[i]) := by
 induction l generalizing i with
 | nil => simp at hi
 | cons a r ih =>
  cases i with
  | zero => simp [depthVs]
  | succ i => simp only [List.take_succ_cons, depthVs, ih (by simpa using hi), List.getElem_cons_succ]; omega
mutual
theorem depthV_le : ∀ v : V, depthV v ≤ bulkV v
 | .mk _ _ s l ns => by
  have := depthVs_le l
  simp only [depthV, bulkV]; omega
theorem depthVs_le : ∀ l : List V, depthVs l ≤ bulkVs l
 | [] => by simp [depthVs]
 | v :: r => by
  have := depthV_le v
  have := depthVs_le r
  simp only [depthVs, bulkVs]; omega
end
theorem depthVs_take_le (l : List V) (i : Nat) : depthVs (l.take i) ≤ depthVs l := by
 induction l generalizing i with
 | nil => simp
 | cons a r ih => cases i with
  | zero => simp [depthVs]
  | succ i => simp only [List.take_succ_cons, depthVs]; have := ih i; omega
set_option maxHeartbeats 8000000 in
theorem size_spec (N : Nat) : ∀ (k n : Int) (s : List UInt8) (l : List V) (ns : List (List UInt8)), bulkV (.mk k n s l ns) ≤ N → N ≤ 100000000000 → ∀ (z1 z2 : Nat) (lp : List PV) (t1 t2 : Bool) (Post : PV → List (Nat × Blk) → Prop),
  VPs l lp → (z1 = 5 ∨ l = []) → (z2 = 1 ∨ ns = []) → Post (.int .i64 (sizeV (.mk k n s l ns))) [] →
  Spec K 12 [.agg [.int .i64 k, .int .i64 n, .str s, .sl z1 lp t1 true, .sl z2 (strs ns) t2 true]] [] Post := by
 induction N with
 | zero => intro k n s l ns h; exact absurd (bulkV_pos (.mk k n s l ns)) (by omega)
 | succ N ih =>
  intro k n s l ns hs hN z1 z2 lp t1 t2 Post hl hz1 hz2 h
  have hz2' : z2 = 1 ∨ strs ns = [] := hz2.imp (fun h => h) fun h => by rw [h]; rfl
  have hlp := VPs_len hl
  have hz1' : z1 = 5 ∨ lp = [] := hz1.imp (fun h => h) fun h => by rw [h] at hlp; exact List.length_eq_zero_iff.1 hlp
  have hs' := hs
  simp only [bulkV] at hs'
  have hnb := nsBulk_le ns
  have hlb := len_sizeVs l
  have hsb := sizes_bulk l
  refine is12.specW K_ok K_mix false (by simp) (by simp [keys]) ?_
  (conv => whnf); repeat ((apply And.intro;· exact Cl2); conv => whnf)
  refine ⟨Nat, fun i => ⟨41, [(4, .int .i64 i), (3, .int .i64 (1 + s.length + nsLen (ns.take i) : Nat)), (1, .ptr 0 0)], [(0, .box [.int .i64 k, .int .i64 n, .str s, .sl z1 lp t1 true, .sl z2 (strs ns) t2 true])], []⟩, fun i => i ≤ ns.length, fun i => ns.length - i,
   ⟨[], 0, Nat.zero_le _, ?_⟩, fun i hI => ?_⟩
  ·rw [wrap64 (by omega) (by omega)]
   simp [meets, ghosts, St.le, St.get, look, keys, PV.labs, labsL, lookB, Blk.labs, strs_len, nsLen]
  ·have hI : i ≤ ns.length := hI
   have hdb := nsLen_take_le ns i
   conv => (arg 5; dsimp only)
   (conv => whnf); repeat ((apply And.intro;· exact Cl2); conv => whnf)
   rw [strs_len]
   refine ⟨fun h1 => ?_, fun h1 => ?_⟩
   ·have hix : i < ns.length := by have := of_decide_eq_true h1; omega
    have hm := nsLen_take hix
    have hm2 := nsLen_take_le ns (i + 1)
    (conv => whnf); repeat ((apply And.intro;· exact Cl2); conv => whnf)
    refine ⟨fun _ => ⟨by omega, by rw [strs_len]; omega⟩, ?_⟩
    (conv => whnf); repeat ((apply And.intro;· exact Cl2); conv => whnf)
    rw [Int.toNat_natCast, nth_strs hix]
    (conv => whnf); repeat ((apply And.intro;· exact Cl2); conv => whnf)
    rw [wrap64 (by omega) (by omega), wrap64 (by omega) (by omega)]
    refine ⟨[], i + 1, hix, by show ns.length - (i + 1) < ns.length - i; omega, ?_⟩
    rw [show ((1 + s.length + nsLen (ns.take i) : Nat) : Int) + ns[i].length = (1 + s.length + nsLen (ns.take (i + 1)) : Nat) by omega]
    simp [meets, ghosts, St.le, St.get, look, keys, PV.labs, labsL, lookB, Blk.labs]
   ·have hix : i = ns.length := by have := of_decide_eq_false h1; omega
    rw [hix, List.take_length]
    (conv => whnf); repeat ((apply And.intro;· exact Cl2); conv => whnf)
    refine ⟨Nat, fun i => ⟨41, [(5, .int .i64 i), (3, .int .i64 (1 + s.length + nsLen ns + sizeVs (l.take i) : Nat)), (1, .ptr 0 0)], [(0, .box [.int .i64 k, .int .i64 n, .str s, .sl z1 lp t1 true, .sl z2 (strs ns) t2 true])], []⟩, fun i => i ≤ l.length, fun i => l.length - i,
     ⟨[], 0, Nat.zero_le _, ?_⟩, fun i hI => ?_⟩
    ·simp [meets, ghosts, St.le, St.get, look, keys, PV.labs, labsL, lookB, Blk.labs, sizeVs]
    ·have hI : i ≤ l.length := hI
     have hdb := sizeVs_take_le l i
     conv => (arg 5; dsimp only)
     (conv => whnf); repeat ((apply And.intro;· exact Cl2); conv => whnf)
     rw [hlp]
     refine ⟨fun h1 => ?_, fun h1 => ?_⟩
     ·have hix : i < l.length := by have := of_decide_eq_true h1; omega
      have hm := sizeVs_take hix
      have hm2 := sizeVs_take_le l (i + 1)
      obtain ⟨y1, mp, u1, o1, y2, u2, o2, hp, hq, g1, g2, g3⟩ := (VPs_nth hl hix).out
      have hbm := bulkVs_mem hix
      (conv => whnf); repeat ((apply And.intro;· exact Cl2); conv => whnf)
      refine ⟨fun _ => ⟨by omega, by rw [hlp]; omega⟩, ?_⟩
      (conv => whnf); repeat ((apply And.intro;· exact Cl2); conv => whnf)
      rw [Int.toNat_natCast, hp]
      (conv => whnf); repeat ((apply And.intro;· exact Cl2); conv => whnf)
      refine ih l[i].k l[i].n l[i].s l[i].l l[i].ns (by rw [V.eta]; omega) (by omega) y1 y2 mp u1 u2 _ hq g1 g2 ?_
      rw [V.eta]
      (conv => whnf); repeat ((apply And.intro;· exact Cl2); conv => whnf)
      rw [wrap64 (by omega) (by omega), wrap64 (by omega) (by omega)]
      refine ⟨[], i + 1, hix, by show l.length - (i + 1) < l.length - i; omega, ?_⟩
      rw [show ((1 + s.length + nsLen ns + sizeVs (l.take i) : Nat) : Int) + sizeV l[i] = (1 + s.length + nsLen ns + sizeVs (l.take (i + 1)) : Nat) by omega]
      simp [meets, ghosts, St.le, St.get, look, keys, PV.labs, labsL, lookB, Blk.labs]
     ·have hix : i = l.length := by have := of_decide_eq_false h1; omega
      rw [hix, List.take_length]
      (conv => whnf); repeat ((apply And.intro;· exact Cl2); conv => whnf)
      simpa [sizeV] using h
set_option maxHeartbeats 8000000 in
theorem depth_spec (N : Nat) : ∀ (k n : Int) (s : List UInt8) (l : List V) (ns : List (List UInt8)), bulkV (.mk k n s l ns) ≤ N → N ≤ 100000000000 → ∀ (z1 z2 : Nat) (lp : List PV) (t1 t2 : Bool) (Post : PV → List (Nat × Blk) → Prop),
  VPs l lp → (z1 = 5 ∨ l = []) → (z2 = 1 ∨ ns = []) → Post (.int .i64 (depthV (.mk k n s l ns))) [] →
  Spec K 14 [.agg [.int .i64 k, .int .i64 n, .str s, .sl z1 lp t1 true, .sl z2 (strs ns) t2 true]] [] Post := by
 induction N with
 | zero => intro k n s l ns h; exact absurd (bulkV_pos (.mk k n s l ns)) (by omega)
 | succ N ih =>
  intro k n s l ns hs hN z1 z2 lp t1 t2 Post hl hz1 hz2 h
  have hlp := VPs_len hl
  have hz1' : z1 = 5 ∨ lp = [] := hz1.imp (fun h => h) fun h => by rw [h] at hlp; exact List.length_eq_zero_iff.1 hlp
  have hs' := hs
  simp only [bulkV] at hs'
  have hlb := len_sizeVs l
  have hsb := sizes_bulk l
  have hdl := depthVs_le l
  refine is14.specW K_ok K_mix false (by simp) (by simp [keys]) ?_
  (conv => whnf); repeat ((apply And.intro;· exact Cl2); conv => whnf)
  refine ⟨Nat, fun i => ⟨22, [(4, .int .i64 i), (3, .int .i64 (depthVs (l.take i))), (1, .ptr 0 0)], [(0, .box [.int .i64 k, .int .i64 n, .str s, .sl z1 lp t1 true, .sl z2 (strs ns) t2 true])], []⟩, fun i => i ≤ l.length, fun i => l.length - i,
   ⟨[], 0, Nat.zero_le _, ?_⟩, fun i hI => ?_⟩
  ·simp [meets, ghosts, St.le, St.get, look, keys, PV.labs, labsL, lookB, Blk.labs, depthVs]
  ·have hI : i ≤ l.length := hI
   have hdb := depthVs_take_le l i
   conv => (arg 5; dsimp only)
   (conv => whnf); repeat ((apply And.intro;· exact Cl2); conv => whnf)
   rw [hlp]
   refine ⟨fun h1 => ?_, fun h1 => ?_⟩
   ·have hix : i < l.length := by have := of_decide_eq_true h1; omega
    have hm := depthVs_take hix
    obtain ⟨y1, mp, u1, o1, y2, u2, o2, hp, hq, g1, g2, g3⟩ := (VPs_nth hl hix).out
    have hbm := bulkVs_mem hix
    (conv => whnf); repeat ((apply And.intro;· exact Cl2); conv => whnf)
    refine ⟨fun _ => ⟨by omega, by rw [hlp]; omega⟩, ?_⟩
    (conv => whnf); repeat ((apply And.intro;· exact Cl2); conv => whnf)
    rw [Int.toNat_natCast, hp]
    (conv => whnf); repeat ((apply And.intro;· exact Cl2); conv => whnf)
    refine ih l[i].k l[i].n l[i].s l[i].l l[i].ns (by rw [V.eta]; omega) (by omega) y1 y2 mp u1 u2 _ hq g1 g2 ?_
    rw [V.eta]
    (conv => whnf); repeat ((apply And.intro;· exact Cl2); conv => whnf)
    rw [wrap64 (by omega) (by omega)]
    refine ⟨[], i + 1, hix, by show l.length - (i + 1) < l.length - i; omega, ?_⟩
    have e : (if depthVs (l.take i) < depthV l[i] then (depthV l[i] : Int) else (depthVs (l.take i) : Int)) = (depthVs (l.take (i + 1)) : Int) := by
     split <;> omega
    simp [meets, ghosts, St.le, St.get, look, keys, PV.labs, labsL, lookB, Blk.labs, e]
   ·have hix : i = l.length := by have := of_decide_eq_false h1; omega
    rw [hix, List.take_length]
    (conv => whnf); repeat ((apply And.intro;· exact Cl2); conv => whnf)
    rw [wrap64 (by omega) (by omega)]
    simpa [depthV] using h
theorem rise_head (s : List UInt8) (r : List (List UInt8)) : rise [] (s :: r) = (isName s && rise s r) := by
 cases s with
 | nil => simp [rise, isName]
 | cons c t =>
  have : Op.bytesLess (c :: t) [] = false := rfl
  simp [rise, this]
set_option maxHeartbeats 8000000 in
theorem names_spec (ns : List (List UInt8)) (z : Nat) (t : Bool) (hz : z = 1 ∨ ns = []) (hl : ns.length ≤ 1000000000000) (Post : PV → List (Nat × Blk) → Prop) (h : Post (.bool (rise [] ns)) []) : Spec K 98 [.sl z (strs ns) t true] [] Post := by
 refine is98.specW K_ok K_mix false (by simp) (by simp [keys]) ?_
 have hz2 : z = 1 ∨ strs ns = [] := hz.imp (fun h => h) fun h => by rw [h]; rfl
 (conv => whnf); repeat ((apply And.intro;· exact Cl2); conv => whnf)
 refine ⟨Nat, fun i => ⟨32, [(3, .int .i64 i), (2, .bool false), (0, .sl z (strs ns) t true)], [], []⟩, fun i => i ≤ ns.length ∧ rise [] ns = (if i = 0 then rise [] ns else rise (ns.getD (i - 1) []) (ns.drop i)), fun i => ns.length - i,
  ⟨[], 0, ⟨Nat.zero_le _, rfl⟩, ?_⟩, fun i hI => ?_⟩
 ·simp [meets, ghosts, St.le, St.get, look, keys, PV.labs, labsL]
 ·obtain ⟨hi, hin⟩ := hI
  conv => (arg 5; dsimp only)
  (conv => whnf); repeat ((apply And.intro;· exact Cl2); conv => whnf)
  rw [strs_len]
  refine ⟨fun h1 => ?_, fun h1 => ?_⟩
  ·have hix : i < ns.length := by have := of_decide_eq_true h1; omega
   have hdr : ns.drop i = ns[i] :: ns.drop (i + 1) := List.drop_eq_getElem_cons hix
   have hg : ns.getD (i + 1 - 1) [] = ns[i] := by rw [List.getD_eq_getElem?_getD, Nat.add_sub_cancel, List.getElem?_eq_getElem hix]; rfl
   (conv => whnf); repeat ((apply And.intro;· exact Cl2); conv => whnf)
   refine ⟨fun _ => ⟨by omega, by rw [strs_len]; omega⟩, ?_⟩
   (conv => whnf); repeat ((apply And.intro;· exact Cl2); conv => whnf)
   rw [Int.toNat_natCast, nth_strs hix]
   (conv => whnf); repeat ((apply And.intro;· exact Cl2); conv => whnf)
   refine nameV_spec ns[i] _ ?_
   rcases i with _ | j
   ·have hr := rise_head ns[0] (ns.drop 1)
    rw [← hdr, List.drop_zero] at hr
    have e0 : (IntKind.i64.wrap (((0 : Nat) : Int) - 1)).toNat = 0 := rfl
    cases hnm : isName ns[0] with
    | true =>
     (conv => whnf); repeat ((apply And.intro;· exact Cl2); conv => whnf)
     rw [e0, Int.toNat_natCast, nth_strs hix]
     refine ⟨?_, ?_⟩ <;> (
      (conv => whnf); repeat ((apply And.intro;· exact Cl2); conv => whnf)
      refine ⟨fun h2 => (by cases h2), fun _ => ?_⟩
      (conv => whnf); repeat ((apply And.intro;· exact Cl2); conv => whnf)
      refine ⟨[], 1, ⟨hix, ?_⟩, by show ns.length - 1 < ns.length - 0; omega, ?_⟩
      ·rw [hr, hnm, if_neg (by omega), hg]; rfl
      ·simp [meets, ghosts, St.le, St.get, look, keys, PV.labs, labsL]
       rfl)
    | false =>
     (conv => whnf); repeat ((apply And.intro;· exact Cl2); conv => whnf)
     rw [e0, Int.toNat_natCast, nth_strs hix]
     rw [hr, hnm] at h
     refine ⟨?_, ?_⟩ <;> (
      (conv => whnf); repeat ((apply And.intro;· exact Cl2); conv => whnf)
      refine ⟨fun _ => ?_, fun h2 => (by cases h2)⟩
      (conv => whnf); repeat ((apply And.intro;· exact Cl2); conv => whnf)
      exact h)
   ·have e0 : (IntKind.i64.wrap (((j + 1 : Nat) : Int) - 1)).toNat = j := by rw [wrap64 (by omega) (by omega)]; omega
    have hj : j < ns.length := by omega
    have hg' : ns.getD (j + 1 - 1) [] = ns[j] := by rw [List.getD_eq_getElem?_getD, Nat.add_sub_cancel, List.getElem?_eq_getElem hj]; rfl
    rw [if_neg (by omega), hg', hdr, rise] at hin
    cases hnm : isName ns[j + 1] with
    | true =>
     (conv => whnf); repeat ((apply And.intro;· exact Cl2); conv => whnf)
     refine ⟨fun _ => ⟨by omega, by rw [strs_len]; omega⟩, ?_⟩
     (conv => whnf); repeat ((apply And.intro;· exact Cl2); conv => whnf)
     refine ⟨fun _ => ⟨by rw [wrap64 (by omega) (by omega)]; omega, by rw [strs_len, wrap64 (by omega) (by omega)]; omega⟩, ?_⟩
     (conv => whnf); repeat ((apply And.intro;· exact Cl2); conv => whnf)
     rw [e0, Int.toNat_natCast, nth_strs hix, nth_strs hj]
     rw [show decide (0 < ((j + 1 : Nat) : Int)) = true from decide_eq_true (by omega)]
     refine ⟨?_, ?_⟩ <;> (
      (conv => whnf); repeat ((apply And.intro;· exact Cl2); conv => whnf)
      refine ⟨fun h2 => ?_, fun h2 => ?_⟩
      ·have h2' : (Op.bytesLess ns[j + 1] ns[j] || ns[j + 1] == ns[j]) = true := h2
       (conv => whnf); repeat ((apply And.intro;· exact Cl2); conv => whnf)
       rw [hin, h2'] at h
       exact h
      ·have h2' : (Op.bytesLess ns[j + 1] ns[j] || ns[j + 1] == ns[j]) = false := h2
       (conv => whnf); repeat ((apply And.intro;· exact Cl2); conv => whnf)
       rw [wrap64 (by omega) (by omega)]
       refine ⟨[], j + 1 + 1, ⟨hix, ?_⟩, by show ns.length - (j + 1 + 1) < ns.length - (j + 1); omega, ?_⟩
       ·rw [hin, h2', hnm, if_neg (by omega), hg]; rfl
       ·simp [meets, ghosts, St.le, St.get, look, keys, PV.labs, labsL])
    | false =>
     (conv => whnf); repeat ((apply And.intro;· exact Cl2); conv => whnf)
     rw [e0, Int.toNat_natCast, nth_strs hix, nth_strs hj]
     have hf : rise [] ns = false := by rw [hin, hnm]; simp
     rw [hf] at h
     refine ⟨?_, ?_⟩ <;> (
      (conv => whnf); repeat ((apply And.intro;· exact Cl2); conv => whnf)
      refine ⟨fun _ => ?_, fun h2 => (by cases h2)⟩
      (conv => whnf); repeat ((apply And.intro;· exact Cl2); conv => whnf)
      exact h)
  ·have hix : i = ns.length := by have := of_decide_eq_false h1; omega
   (conv => whnf); repeat ((apply And.intro;· exact Cl2); conv => whnf)
   have : rise [] ns = true := by
    cases ns with
    | nil => rfl
    | cons a r => rw [hin, if_neg (by rw [hix]; simp), hix, List.drop_length]; rfl
   rwa [this] at h
theorem es_nil (s : List UInt8) : (s == ({ data := #[] } : ByteArray).data.toList) = s.isEmpty := by cases s <;> rfl
theorem el_nil {α : Type} (l : List α) : ((l.length : Int) == 0) = (l.length == 0) := by rw [i0]
set_option maxHeartbeats 8000000 in
theorem fields_spec (k n : Int) (s : List UInt8) (z1 z2 : Nat) (lp : List PV) (ns : List (List UInt8)) (t1 t2 : Bool) (hz : z2 = 1 ∨ ns = []) (hn : ns.length ≤ 1000000000000) (Post : PV → List (Nat × Blk) → Prop)
  (h : Post (.bool (ownB k n s lp.length ns)) []) : Spec K 82 [.agg [.int .i64 k, .int .i64 n, .str s, .sl z1 lp t1 true, .sl z2 (strs ns) t2 true]] [] Post := by
 refine is82.specW K_ok K_mix false (by simp) (by simp [keys]) ?_
 have en : (ns.length == 0) = ns.isEmpty := by cases ns <;> rfl
 (conv => whnf); repeat ((apply And.intro;· exact Cl2); conv => whnf)
 refine ⟨fun h0 => ?_, fun h0 => ?_⟩
 ·obtain rfl : k = 0 := by simpa using h0
  (conv => whnf); repeat ((apply And.intro;· exact Cl2); conv => whnf)
  refine (congrArg (fun r => Post (.bool r) []) ?_).mpr h
  rw [es_nil, el_nil, el_nil, strs_len, en]
  simp only [ownB]
  cases (n == 0) <;> cases s.isEmpty <;> cases (lp.length == 0) <;> cases ns.isEmpty <;> rfl
 ·have h0' : k ≠ 0 := by simpa using h0
  (conv => whnf); repeat ((apply And.intro;· exact Cl2); conv => whnf)
  refine ⟨fun h2 => ?_, fun h2 => ?_⟩
  ·obtain rfl : k = 1 := by simpa using h2
   (conv => whnf); repeat ((apply And.intro;· exact Cl2); conv => whnf)
   refine (congrArg (fun r => Post (.bool r) []) ?_).mpr h
   rw [es_nil, el_nil, el_nil, strs_len, en]
   simp only [ownB]
   cases s.isEmpty <;> cases (lp.length == 0) <;> cases ns.isEmpty <;> rfl
  ·have h2' : k ≠ 1 := by simpa using h2
   (conv => whnf); repeat ((apply And.intro;· exact Cl2); conv => whnf)
   refine ⟨fun h3 => ?_, fun h3 => ?_⟩
   ·obtain rfl : k = 2 := by simpa using h3
    (conv => whnf); repeat ((apply And.intro;· exact Cl2); conv => whnf)
    refine (congrArg (fun r => Post (.bool r) []) ?_).mpr h
    rw [es_nil, el_nil, el_nil, strs_len, en]
    simp only [ownB]
    cases (n == 0) <;> cases (n == 1) <;> cases s.isEmpty <;> cases (lp.length == 0) <;> cases ns.isEmpty <;> rfl
   ·have h3' : k ≠ 2 := by simpa using h3
    (conv => whnf); repeat ((apply And.intro;· exact Cl2); conv => whnf)
    refine ⟨fun h4 => ?_, fun h4 => ?_⟩
    ·obtain rfl : k = 3 := by simpa using h4
     (conv => whnf); repeat ((apply And.intro;· exact Cl2); conv => whnf)
     refine (congrArg (fun r => Post (.bool r) []) ?_).mpr h
     rw [el_nil, el_nil, strs_len, en, show decide ((s.length : Int) ≤ 64) = decide (s.length ≤ 64) from decide_eq_decide.2 (by omega)]
     simp only [ownB]
     cases (n == 0) <;> cases decide (s.length ≤ 64) <;> cases (lp.length == 0) <;> cases ns.isEmpty <;> rfl
    ·have h4' : k ≠ 3 := by simpa using h4
     (conv => whnf); repeat ((apply And.intro;· exact Cl2); conv => whnf)
     refine ⟨fun h5 => ?_, fun h5 => ?_⟩
     ·obtain rfl : k = 4 := by simpa using h5
      (conv => whnf); repeat ((apply And.intro;· exact Cl2); conv => whnf)
      refine (congrArg (fun r => Post (.bool r) []) ?_).mpr h
      rw [es_nil, el_nil, strs_len, en, show decide ((lp.length : Int) ≤ 32) = decide (lp.length ≤ 32) from decide_eq_decide.2 (by omega)]
      simp only [ownB]
      cases (n == 0) <;> cases decide (lp.length ≤ 32) <;> cases s.isEmpty <;> cases ns.isEmpty <;> rfl
     ·have h5' : k ≠ 4 := by simpa using h5
      (conv => whnf); repeat ((apply And.intro;· exact Cl2); conv => whnf)
      refine ⟨fun h6 => ?_, fun h6 => ?_⟩
      ·obtain rfl : k = 5 := by simpa using h6
       (conv => whnf); repeat ((apply And.intro;· exact Cl2); conv => whnf)
       have e1 : (bif bif bif n == 0 then s == ({ data := #[] } : ByteArray).data.toList else false then (lp.length : Int) == ((strs ns).length : Int) else false then decide ((lp.length : Int) ≤ 8) else false) = (n == 0 && lp.length == ns.length && decide (lp.length ≤ 8) && s.isEmpty) := by
        rw [es_nil, strs_len, show ((lp.length : Int) == (ns.length : Int)) = (lp.length == ns.length) by rw [Bool.eq_iff_iff]; simp; omega, show decide ((lp.length : Int) ≤ 8) = decide (lp.length ≤ 8) from decide_eq_decide.2 (by omega)]
        cases (n == 0) <;> cases s.isEmpty <;> cases (lp.length == ns.length) <;> cases decide (lp.length ≤ 8) <;> rfl
       rw [e1]
       refine ⟨fun _ h7 => ?_, fun h7 => ?_⟩
       ·rw [h7]
        (conv => whnf); repeat ((apply And.intro;· exact Cl2); conv => whnf)
        refine names_spec ns z2 t2 hz hn _ ?_
        (conv => whnf); repeat ((apply And.intro;· exact Cl2); conv => whnf)
        refine (congrArg (fun r => Post (.bool r) []) ?_).mpr h
        simp only [ownB]
        show rise [] ns = (_ && rise [] ns)
        rw [h7]; rfl
       ·have h7' := h7 rfl
        rw [h7']
        (conv => whnf); repeat ((apply And.intro;· exact Cl2); conv => whnf)
        refine (congrArg (fun r => Post (.bool r) []) ?_).mpr h
        simp only [ownB]
        show false = (_ && rise [] ns)
        rw [h7']; rfl
      ·have h6' : k ≠ 5 := by simpa using h6
       (conv => whnf); repeat ((apply And.intro;· exact Cl2); conv => whnf)
       refine ⟨fun h7 => ?_, fun h7 => ?_⟩
       ·obtain rfl : k = 6 := by simpa using h7
        (conv => whnf); repeat ((apply And.intro;· exact Cl2); conv => whnf)
        refine (congrArg (fun r => Post (.bool r) []) ?_).mpr h
        rw [es_nil, el_nil, el_nil, strs_len, en]
        simp only [ownB]
        cases decide (1 ≤ n) <;> cases decide (n ≤ 64) <;> cases s.isEmpty <;> cases (lp.length == 0) <;> cases ns.isEmpty <;> rfl
       ·have h7' : k ≠ 6 := by simpa using h7
        (conv => whnf); repeat ((apply And.intro;· exact Cl2); conv => whnf)
        simpa [ownB, h0', h2', h3', h4', h5', h6', h7'] using h
set_option maxHeartbeats 8000000 in
theorem all_spec (N : Nat) : ∀ (k n : Int) (s : List UInt8) (l : List V) (ns : List (List UInt8)), bulkV (.mk k n s l ns) ≤ N → N ≤ 100000000000 → ∀ (z1 z2 : Nat) (lp : List PV) (t1 t2 : Bool) (Post : PV → List (Nat × Blk) → Prop),
  VPs l lp → (z1 = 5 ∨ l = []) → (z2 = 1 ∨ ns = []) → Post (.bool (allV (.mk k n s l ns))) [] →
  Spec K 52 [.agg [.int .i64 k, .int .i64 n, .str s, .sl z1 lp t1 true, .sl z2 (strs ns) t2 true]] [] Post := by
 induction N with
 | zero => intro k n s l ns h; exact absurd (bulkV_pos (.mk k n s l ns)) (by omega)
 | succ N ih =>
  intro k n s l ns hs hN z1 z2 lp t1 t2 Post hl hz1 hz2 h
  have hlp := VPs_len hl
  have hz1' : z1 = 5 ∨ lp = [] := hz1.imp (fun h => h) fun h => by rw [h] at hlp; exact List.length_eq_zero_iff.1 hlp
  have hs' := hs
  simp only [bulkV] at hs'
  have hnb := nsBulk_le ns
  have hlb := len_sizeVs l
  have hsb := sizes_bulk l
  refine is52.specW K_ok K_mix false (by simp) (by simp [keys]) ?_
  (conv => whnf); repeat ((apply And.intro;· exact Cl2); conv => whnf)
  refine fields_spec k n s z1 z2 lp ns t1 t2 hz2 (by omega) _ ?_
  rw [hlp]
  (conv => whnf); repeat ((apply And.intro;· exact Cl2); conv => whnf)
  rw [allV] at h
  refine ⟨fun h1 => ?_, fun h1 => ?_⟩
  ·have h1' : ownB k n s l.length ns = false := by simpa using h1
   (conv => whnf); repeat ((apply And.intro;· exact Cl2); conv => whnf)
   rw [h1'] at h
   exact h
  ·have h1' : ownB k n s l.length ns = true := by simpa using h1
   rw [h1', Bool.true_and] at h
   (conv => whnf); repeat ((apply And.intro;· exact Cl2); conv => whnf)
   refine ⟨Nat, fun i => ⟨21, [(3, .int .i64 i), (2, .bool false), (1, .ptr 0 0)], [(0, .box [.int .i64 k, .int .i64 n, .str s, .sl z1 lp t1 true, .sl z2 (strs ns) t2 true])], []⟩, fun i => i ≤ l.length ∧ allVs l = allVs (l.drop i), fun i => l.length - i,
    ⟨[], 0, ⟨Nat.zero_le _, rfl⟩, ?_⟩, fun i hI => ?_⟩
   ·simp [meets, ghosts, St.le, St.get, look, keys, PV.labs, labsL, lookB, Blk.labs]
   ·obtain ⟨hi, hin⟩ := hI
    conv => (arg 5; dsimp only)
    (conv => whnf); repeat ((apply And.intro;· exact Cl2); conv => whnf)
    rw [hlp]
    refine ⟨fun h1 => ?_, fun h1 => ?_⟩
    ·have hix : i < l.length := by have := of_decide_eq_true h1; omega
     have hdr : l.drop i = l[i] :: l.drop (i + 1) := List.drop_eq_getElem_cons hix
     obtain ⟨y1, mp, u1, o1, y2, u2, o2, hp, hq, g1, g2, g3⟩ := (VPs_nth hl hix).out
     have hbm := bulkVs_mem hix
     rw [hdr, allVs] at hin
     (conv => whnf); repeat ((apply And.intro;· exact Cl2); conv => whnf)
     refine ⟨fun _ => ⟨by omega, by rw [hlp]; omega⟩, ?_⟩
     (conv => whnf); repeat ((apply And.intro;· exact Cl2); conv => whnf)
     rw [Int.toNat_natCast, hp]
     (conv => whnf); repeat ((apply And.intro;· exact Cl2); conv => whnf)
     refine ih l[i].k l[i].n l[i].s l[i].l l[i].ns (by rw [V.eta]; omega) (by omega) y1 y2 mp u1 u2 _ hq g1 g2 ?_
     rw [V.eta]
     (conv => whnf); repeat ((apply And.intro;· exact Cl2); conv => whnf)
     refine ⟨fun h2 => ?_, fun h2 => ?_⟩
     ·have h2' : allV l[i] = false := by simpa using h2
      (conv => whnf); repeat ((apply And.intro;· exact Cl2); conv => whnf)
      rw [hin, h2'] at h
      exact h
     ·have h2' : allV l[i] = true := by simpa using h2
      (conv => whnf); repeat ((apply And.intro;· exact Cl2); conv => whnf)
      rw [wrap64 (by omega) (by omega)]
      refine ⟨[], i + 1, ⟨hix, by rw [hin, h2']; rfl⟩, by show l.length - (i + 1) < l.length - i; omega, ?_⟩
      simp [meets, ghosts, St.le, St.get, look, keys, PV.labs, labsL, lookB, Blk.labs]
    ·have hix : i = l.length := by have := of_decide_eq_false h1; omega
     rw [hin, hix, List.drop_length] at h
     (conv => whnf); repeat ((apply And.intro;· exact Cl2); conv => whnf)
     exact h
theorem mayV_eq (v : V) : mayV v = (decide (depthV v ≤ 8) && decide (sizeV v ≤ 256) && allV v) := by
 unfold mayV okV
 rw [Nat.zero_add]
 congr 2
 exact decide_eq_decide.2 (by omega)
set_option maxHeartbeats 8000000 in
theorem may_spec (v : V) (z1 z2 : Nat) (lp : List PV) (t1 t2 : Bool) (Post : PV → List (Nat × Blk) → Prop) (a : VA v z1 lp z2) (h : Post (.bool (mayV v)) []) :
  Spec K 32 [.agg (vc v z1 lp t1 z2 t2)] [] Post := by
 refine is32.specW K_ok K_mix false (by simp) (by simp [keys]) ?_
 have hb := a.b
 rw [← V.eta v] at hb
 (conv => whnf); repeat ((apply And.intro;· exact Cl2); conv => whnf)
 refine depth_spec 100000000000 v.k v.n v.s v.l v.ns hb (by omega) z1 z2 lp t1 t2 _ a.l a.z1 a.z2 ?_
 rw [V.eta] at hb ⊢
 (conv => whnf); repeat ((apply And.intro;· exact Cl2); conv => whnf)
 have e1 : decide ((depthV v : Int) ≤ 8) = decide (depthV v ≤ 8) := decide_eq_decide.2 (by omega)
 have e2 : decide ((sizeV v : Int) ≤ 256) = decide (sizeV v ≤ 256) := decide_eq_decide.2 (by omega)
 rw [mayV_eq] at h
 rw [e1]
 refine ⟨fun _ h1 => ?_, fun h1 => ?_⟩
 ·rw [h1] at h ⊢
  (conv => whnf); repeat ((apply And.intro;· exact Cl2); conv => whnf)
  rw [← V.eta v] at hb
  refine size_spec 100000000000 v.k v.n v.s v.l v.ns hb (by omega) z1 z2 lp t1 t2 _ a.l a.z1 a.z2 ?_
  rw [V.eta] at hb ⊢
  (conv => whnf); repeat ((apply And.intro;· exact Cl2); conv => whnf)
  rw [e2]
  refine ⟨fun _ h2 => ?_, fun h2 => ?_⟩
  ·have h2' : decide (sizeV v ≤ 256) = true := h2
   rw [h2] at ⊢
   rw [h2'] at h
   (conv => whnf); repeat ((apply And.intro;· exact Cl2); conv => whnf)
   rw [← V.eta v] at hb
   refine all_spec 100000000000 v.k v.n v.s v.l v.ns hb (by omega) z1 z2 lp t1 t2 _ a.l a.z1 a.z2 ?_
   rw [V.eta]
   (conv => whnf); repeat ((apply And.intro;· exact Cl2); conv => whnf)
   exact h
  ·have h2' : decide (sizeV v ≤ 256) = false := h2 rfl
   rw [h2']
   rw [h2'] at h
   (conv => whnf); repeat ((apply And.intro;· exact Cl2); conv => whnf)
   exact h
 ·have h1' := h1 rfl
  rw [h1'] at h ⊢
  (conv => whnf); repeat ((apply And.intro;· exact Cl2); conv => whnf)
  refine ⟨fun _ h2 => (by cases h2), fun _ => ?_⟩
  (conv => whnf); repeat ((apply And.intro;· exact Cl2); conv => whnf)
  exact h
end Go.Vc
namespace Go.Vc
open Go Go.Proofs
set_option maxRecDepth 100000
def cmpI (a b : Int) : Int := if a < b then -1 else if b < a then 1 else 0
def cmpS (a b : List UInt8) : Int := if Op.bytesLess a b = true then -1 else if (Op.bytesLess a b || a == b) = true then 0 else 1
def cmpNs : List (List UInt8) → List (List UInt8) → Int
 | [], [] => 0
 | [], _ :: _ => -1
 | _ :: _, [] => 1
 | a :: r, b :: q => if a = b then cmpNs r q else cmpS a b
mutual
def cmpV : V → V → Int
 | .mk k n s l ns, w => if k ≠ w.k then cmpI k w.k else if n ≠ w.n then cmpI n w.n else if s ≠ w.s then cmpS s w.s else if cmpNs ns w.ns ≠ 0 then cmpNs ns w.ns else cmpVs l w.l
def cmpVs : List V → List V → Int
 | [], [] => 0
 | [], _ :: _ => -1
 | _ :: _, [] => 1
 | v :: r, w :: q => if cmpV v w ≠ 0 then cmpV v w else cmpVs r q
end
theorem cmpV_mk (k n : Int) (s : List UInt8) (l : List V) (ns : List (List UInt8)) (k' n' : Int) (s' : List UInt8) (l' : List V) (ns' : List (List UInt8)) :
  cmpV (.mk k n s l ns) (.mk k' n' s' l' ns') = if k ≠ k' then cmpI k k' else if n ≠ n' then cmpI n n' else if s ≠ s' then cmpS s s' else if cmpNs ns ns' ≠ 0 then cmpNs ns ns' else cmpVs l l' := by
 rw [cmpV]; rfl
theorem cmpS_ne {a b : List UInt8} (h : a ≠ b) : cmpS a b ≠ 0 := by
 unfold cmpS
 split
 ·simp
 ·rename_i h1
  rw [if_neg (by simp [h1, h])]; simp
theorem number_spec2 (a b : Int) (Post : PV → List (Nat × Blk) → Prop) (h : Post (.int .i64 (cmpI a b)) []) : Spec K 53 [.int .i64 a, .int .i64 b] [] Post := by
 refine is53.specW K_ok K_mix false (by simp) (by simp [keys]) ?_
 (conv => whnf); repeat ((apply And.intro;· exact Cl2); conv => whnf)
 refine ⟨fun h1 => ?_, fun h1 => ?_⟩
 ·have h1' : a < b := of_decide_eq_true h1
  (conv => whnf); repeat ((apply And.intro;· exact Cl2); conv => whnf)
  rwa [cmpI, if_pos h1'] at h
 ·have h1' : ¬ a < b := of_decide_eq_false h1
  (conv => whnf); repeat ((apply And.intro;· exact Cl2); conv => whnf)
  refine ⟨fun h2 => ?_, fun h2 => ?_⟩
  ·have h2' : b < a := of_decide_eq_true h2
   (conv => whnf); repeat ((apply And.intro;· exact Cl2); conv => whnf)
   rwa [cmpI, if_neg h1', if_pos h2'] at h
  ·have h2' : ¬ b < a := of_decide_eq_false h2
   (conv => whnf); repeat ((apply And.intro;· exact Cl2); conv => whnf)
   rwa [cmpI, if_neg h1', if_neg h2'] at h
theorem textC_spec (a b : List UInt8) (Post : PV → List (Nat × Blk) → Prop) (h : Post (.int .i64 (cmpS a b)) []) : Spec K 54 [.str a, .str b] [] Post := by
 refine is54.specW K_ok K_mix false (by simp) (by simp [keys]) ?_
 (conv => whnf); repeat ((apply And.intro;· exact Cl2); conv => whnf)
 refine ⟨fun h1 => ?_, fun h1 => ?_⟩
 ·(conv => whnf); repeat ((apply And.intro;· exact Cl2); conv => whnf)
  rwa [cmpS, if_pos h1] at h
 ·have h1' : ¬ Op.bytesLess a b = true := by rw [h1]; simp
  (conv => whnf); repeat ((apply And.intro;· exact Cl2); conv => whnf)
  refine ⟨fun h2 => ?_, fun h2 => ?_⟩
  ·have h2' : ¬ (Op.bytesLess a b || a == b) = true := fun hh => by rw [hh] at h2; cases h2
   (conv => whnf); repeat ((apply And.intro;· exact Cl2); conv => whnf)
   rwa [cmpS, if_neg h1', if_neg h2'] at h
  ·have h2' : (Op.bytesLess a b || a == b) = true := by
    cases hh : (Op.bytesLess a b || a == b) with
    | true => rfl
    | false => rw [hh] at h2; cases h2
   (conv => whnf); repeat ((apply And.intro;· exact Cl2); conv => whnf)
   rwa [cmpS, if_neg h1', if_pos h2'] at h
theorem cmpNs_end {a b : List (List UInt8)} {i : Nat} (hi : i ≤ a.length) (hj : i ≤ b.length) (h : ¬ (i < a.length ∧ i < b.length)) : cmpNs (a.drop i) (b.drop i) = cmpI a.length b.length := by
 rcases Nat.lt_or_ge i a.length with h1 | h1
 ·have h2 : i = b.length := by omega
  rw [h2, List.drop_length, List.drop_eq_getElem_cons (by omega), cmpNs, cmpI, if_neg (by omega), if_pos (by omega)]
 ·have h2 : i = a.length := by omega
  rcases Nat.lt_or_ge i b.length with h3 | h3
  ·rw [h2, List.drop_length, List.drop_eq_getElem_cons (by omega), cmpNs, cmpI, if_pos (by omega)]
  ·rw [h2, List.drop_length, List.drop_eq_nil_of_le (by omega), cmpNs, cmpI, if_neg (by omega), if_neg (by omega)]
theorem cmpVs_end {a b : List V} {i : Nat} (hi : i ≤ a.length) (hj : i ≤ b.length) (h : ¬ (i < a.length ∧ i < b.length)) : cmpVs (a.drop i) (b.drop i) = cmpI a.length b.length := by
 rcases Nat.lt_or_ge i a.length with h1 | h1
 ·have h2 : i = b.length := by omega
  rw [h2, List.drop_length, List.drop_eq_getElem_cons (by omega), cmpVs, cmpI, if_neg (by omega), if_pos (by omega)]
 ·have h2 : i = a.length := by omega
  rcases Nat.lt_or_ge i b.length with h3 | h3
  ·rw [h2, List.drop_length, List.drop_eq_getElem_cons (by omega), cmpVs, cmpI, if_pos (by omega)]
  ·rw [h2, List.drop_length, List.drop_eq_nil_of_le (by omega), cmpVs, cmpI, if_neg (by omega), if_neg (by omega)]
theorem cmpI_ne {a b : Int} (h : a ≠ b) : cmpI a b ≠ 0 := by
 unfold cmpI
 split
 ·simp
 ·split
  ·simp
  ·omega
set_option maxHeartbeats 16000000 in
theorem compare_spec (N : Nat) : ∀ (k n : Int) (s : List UInt8) (l : List V) (ns : List (List UInt8)) (w : V), bulkV (.mk k n s l ns) ≤ N → N ≤ 100000000000 → bulkV w ≤ 100000000000 → ∀ (z1 z2 : Nat) (lp : List PV) (t1 t2 : Bool) (x1 x2 : Nat) (mp : List PV) (u1 u2 : Bool) (Post : PV → List (Nat × Blk) → Prop),
  VPs l lp → (z1 = 5 ∨ l = []) → (z2 = 1 ∨ ns = []) → VPs w.l mp → (x1 = 5 ∨ w.l = []) → (x2 = 1 ∨ w.ns = []) → Post (.int .i64 (cmpV (.mk k n s l ns) w)) [] →
  Spec K 33 [.agg [.int .i64 k, .int .i64 n, .str s, .sl z1 lp t1 true, .sl z2 (strs ns) t2 true], .agg [.int .i64 w.k, .int .i64 w.n, .str w.s, .sl x1 mp u1 true, .sl x2 (strs w.ns) u2 true]] [] Post := by
 induction N with
 | zero => intro k n s l ns w h; exact absurd (bulkV_pos (.mk k n s l ns)) (by omega)
 | succ N ih =>
  intro k n s l ns w hs hN hw z1 z2 lp t1 t2 x1 x2 mp u1 u2 Post hl hz1 hz2 hm hx1 hx2 h
  obtain ⟨k', n', s', l', ns'⟩ := w
  simp only [V.k, V.n, V.s, V.l, V.ns] at *
  have hlp := VPs_len hl
  have hmp := VPs_len hm
  have hz1' : z1 = 5 ∨ lp = [] := hz1.imp (fun h => h) fun h => by rw [h] at hlp; exact List.length_eq_zero_iff.1 hlp
  have hx1' : x1 = 5 ∨ mp = [] := hx1.imp (fun h => h) fun h => by rw [h] at hmp; exact List.length_eq_zero_iff.1 hmp
  have hz2' : z2 = 1 ∨ strs ns = [] := hz2.imp (fun h => h) fun h => by rw [h]; rfl
  have hx2' : x2 = 1 ∨ strs ns' = [] := hx2.imp (fun h => h) fun h => by rw [h]; rfl
  have hs' := hs
  have hw' := hw
  simp only [bulkV] at hs' hw'
  have hnb := nsBulk_le ns
  have hlb := len_sizeVs l
  have hsb := sizes_bulk l
  have hnb' := nsBulk_le ns'
  have hlb' := len_sizeVs l'
  have hsb' := sizes_bulk l'
  refine is33.specW K_ok K_mix false (by simp) (by simp [keys]) ?_
  rw [cmpV_mk] at h
  (conv => whnf); repeat ((apply And.intro;· exact Cl2); conv => whnf)
  refine ⟨fun h1 => ?_, fun h1 => ?_⟩
  ·have h1' : k ≠ k' := by simpa using h1
   rw [if_pos h1'] at h
   (conv => whnf); repeat ((apply And.intro;· exact Cl2); conv => whnf)
   refine number_spec2 _ _ _ ?_
   (conv => whnf); repeat ((apply And.intro;· exact Cl2); conv => whnf)
   exact h
  ·have h1' : ¬ k ≠ k' := by simpa using h1
   rw [if_neg h1'] at h
   (conv => whnf); repeat ((apply And.intro;· exact Cl2); conv => whnf)
   refine ⟨fun h2 => ?_, fun h2 => ?_⟩
   ·have h2' : n ≠ n' := by simpa using h2
    rw [if_pos h2'] at h
    (conv => whnf); repeat ((apply And.intro;· exact Cl2); conv => whnf)
    refine number_spec2 _ _ _ ?_
    (conv => whnf); repeat ((apply And.intro;· exact Cl2); conv => whnf)
    exact h
   ·have h2' : ¬ n ≠ n' := by simpa using h2
    rw [if_neg h2'] at h
    (conv => whnf); repeat ((apply And.intro;· exact Cl2); conv => whnf)
    refine ⟨fun h3 => ?_, fun h3 => ?_⟩
    ·have h3' : s ≠ s' := by simpa using h3
     rw [if_pos h3'] at h
     (conv => whnf); repeat ((apply And.intro;· exact Cl2); conv => whnf)
     refine textC_spec _ _ _ ?_
     (conv => whnf); repeat ((apply And.intro;· exact Cl2); conv => whnf)
     exact h
    ·have h3' : ¬ s ≠ s' := by simpa using h3
     rw [if_neg h3'] at h
     (conv => whnf); repeat ((apply And.intro;· exact Cl2); conv => whnf)
     refine ⟨Nat, fun i => ⟨123, [(5, .int .i64 i), (4, .int .i64 0), (3, .ptr 1 0), (2, .ptr 0 0)], [(0, .box [.int .i64 k, .int .i64 n, .str s, .sl z1 lp t1 true, .sl z2 (strs ns) t2 true]), (1, .box [.int .i64 k', .int .i64 n', .str s', .sl x1 mp u1 true, .sl x2 (strs ns') u2 true])], []⟩,
      fun i => i ≤ ns.length ∧ i ≤ ns'.length ∧ cmpNs ns ns' = cmpNs (ns.drop i) (ns'.drop i), fun i => ns.length - i, ⟨[], 0, ⟨Nat.zero_le _, Nat.zero_le _, rfl⟩, ?_⟩, fun i hI => ?_⟩
     ·simp [meets, ghosts, St.le, St.get, look, keys, PV.labs, labsL, lookB, Blk.labs]
     ·obtain ⟨hi, hi2, hin⟩ := hI
      conv => (arg 5; dsimp only)
      (conv => whnf); repeat ((apply And.intro;· exact Cl2); conv => whnf)
      rw [strs_len, strs_len]
      refine ⟨fun h4 => ?_, fun h4 => ?_⟩
      ·have h5 : i < ns.length ∧ i < ns'.length := by
        by_cases h6 : (i : Int) < ns.length
        ·simp [h6] at h4; omega
        ·simp [h6] at h4
       have hix := h5.1
       have hix' := h5.2
       have hdr : ns.drop i = ns[i] :: ns.drop (i + 1) := List.drop_eq_getElem_cons hix
       have hdr' : ns'.drop i = ns'[i] :: ns'.drop (i + 1) := List.drop_eq_getElem_cons hix'
       rw [hdr, hdr', cmpNs] at hin
       have hb1 : True → (0 : Int) ≤ (i : Int) ∧ (i : Int) < ((strs ns).length : Int) := fun _ => ⟨by omega, by rw [strs_len]; omega⟩
       have hb2 : True → (0 : Int) ≤ (i : Int) ∧ (i : Int) < ((strs ns').length : Int) := fun _ => ⟨by omega, by rw [strs_len]; omega⟩
       have hn1 : nth (strs ns) ((i : Int)).toNat = .str ns[i] := by rw [Int.toNat_natCast, nth_strs hix]
       have hn2 : nth (strs ns') ((i : Int)).toNat = .str ns'[i] := by rw [Int.toNat_natCast, nth_strs hix']
       (conv => whnf); repeat' (first | ((apply And.intro;· exact Cl2); conv => whnf) | (rw [hn1]; conv => whnf) | (rw [hn2]; conv => whnf) | ((refine Both.mk ?_ ?_ <;> fail_if_success (intro _)) <;> conv => whnf))
       all_goals (
        refine ⟨fun h6 => ?_, fun h6 => ?_⟩
        ·have h6' : ¬ ns[i] = ns'[i] := by simpa using h6
         rw [if_neg h6'] at hin
         have hne := cmpS_ne h6'
         rw [if_pos (by rw [hin]; exact hne), hin] at h
         (conv => whnf); repeat' (first | ((apply And.intro;· exact Cl2); conv => whnf) | (rw [hn1]; conv => whnf) | (rw [hn2]; conv => whnf) | ((refine Both.mk ?_ ?_ <;> fail_if_success (intro _)) <;> conv => whnf))
         all_goals (
          refine textC_spec _ _ _ ?_
          (conv => whnf); repeat ((apply And.intro;· exact Cl2); conv => whnf)
          exact h)
        ·have h6' : ns[i] = ns'[i] := by simpa using h6
         rw [if_pos h6'] at hin
         (conv => whnf); repeat ((apply And.intro;· exact Cl2); conv => whnf)
         rw [wrap64 (by omega) (by omega)]
         refine ⟨[], i + 1, ⟨hix, hix', hin⟩, by show ns.length - (i + 1) < ns.length - i; omega, ?_⟩
         simp [meets, ghosts, St.le, St.get, look, keys, PV.labs, labsL, lookB, Blk.labs])
      ·have h5 : ¬ (i < ns.length ∧ i < ns'.length) := by
        by_cases h6 : (i : Int) < ns.length
        ·simp [h6] at h4; omega
        ·omega
       have he := cmpNs_end hi hi2 h5
       rw [← hin] at he
       rw [he] at h
       (conv => whnf); repeat ((apply And.intro;· exact Cl2); conv => whnf)
       rw [strs_len, strs_len]
       clear hin hi hi2 h4 h5
       refine ⟨fun h7 => ?_, fun h7 => ?_⟩
       ·have h7' : (ns.length : Int) ≠ ns'.length := by simpa using h7
        rw [if_pos (cmpI_ne h7')] at h
        (conv => whnf); repeat ((apply And.intro;· exact Cl2); conv => whnf)
        rw [strs_len, strs_len]
        refine number_spec2 _ _ _ ?_
        (conv => whnf); repeat ((apply And.intro;· exact Cl2); conv => whnf)
        exact h
       ·have h7' : (ns.length : Int) = ns'.length := by simpa using h7
        have h8 : cmpI ns.length ns'.length = 0 := by rw [h7', cmpI, if_neg (by omega), if_neg (by omega)]
        rw [if_neg (by rw [h8]; simp)] at h
        (conv => whnf); repeat ((apply And.intro;· exact Cl2); conv => whnf)
        clear he
        refine ⟨Nat, fun i => ⟨123, [(6, .int .i64 i), (4, .int .i64 0), (3, .ptr 1 0), (2, .ptr 0 0)], [(0, .box [.int .i64 k, .int .i64 n, .str s, .sl z1 lp t1 true, .sl z2 (strs ns) t2 true]), (1, .box [.int .i64 k', .int .i64 n', .str s', .sl x1 mp u1 true, .sl x2 (strs ns') u2 true])], []⟩,
         fun i => i ≤ l.length ∧ i ≤ l'.length ∧ cmpVs l l' = cmpVs (l.drop i) (l'.drop i), fun i => l.length - i, ⟨[], 0, ⟨Nat.zero_le _, Nat.zero_le _, rfl⟩, ?_⟩, fun i hI => ?_⟩
        ·simp [meets, ghosts, St.le, St.get, look, keys, PV.labs, labsL, lookB, Blk.labs]
        ·obtain ⟨hi, hi2, hin⟩ := hI
         conv => (arg 5; dsimp only)
         (conv => whnf); repeat ((apply And.intro;· exact Cl2); conv => whnf)
         rw [hlp, hmp]
         refine ⟨fun h4 => ?_, fun h4 => ?_⟩
         ·have h5 : i < l.length ∧ i < l'.length := by
           by_cases h6 : (i : Int) < l.length
           ·simp [h6] at h4; omega
           ·simp [h6] at h4
          have hix := h5.1
          have hix' := h5.2
          have hdr : l.drop i = l[i] :: l.drop (i + 1) := List.drop_eq_getElem_cons hix
          have hdr' : l'.drop i = l'[i] :: l'.drop (i + 1) := List.drop_eq_getElem_cons hix'
          rw [hdr, hdr', cmpVs] at hin
          obtain ⟨y1, lp2, v1, o1, y2, v2, o2, hp, hq, g1, g2, g3⟩ := (VPs_nth hl hix).out
          obtain ⟨y1', mp2, v1', o1', y2', v2', o2', hp', hq', g1', g2', g3'⟩ := (VPs_nth hm hix').out
          have hbm := bulkVs_mem hix
          have hbm' := bulkVs_mem hix'
          have hb1 : True → (0 : Int) ≤ (i : Int) ∧ (i : Int) < (lp.length : Int) := fun _ => ⟨by omega, by omega⟩
          have hb2 : True → (0 : Int) ≤ (i : Int) ∧ (i : Int) < (mp.length : Int) := fun _ => ⟨by omega, by omega⟩
          have hn1 := (congrArg (nth lp) (Int.toNat_natCast i)).trans hp
          have hn2 := (congrArg (nth mp) (Int.toNat_natCast i)).trans hp'
          (conv => whnf); repeat' (first | ((apply And.intro;· exact Cl2); conv => whnf) | (rw [hn1]; conv => whnf) | (rw [hn2]; conv => whnf) | ((refine Both.mk ?_ ?_ <;> fail_if_success (intro _)) <;> conv => whnf))
          all_goals (
           refine ih l[i].k l[i].n l[i].s l[i].l l[i].ns l'[i] (by rw [V.eta]; omega) (by omega) (by omega) y1 y2 lp2 v1 v2 y1' y2' mp2 v1' v2' _ hq g1 g2 hq' g1' g2' ?_
           rw [V.eta]
           (conv => whnf); repeat ((apply And.intro;· exact Cl2); conv => whnf)
           refine ⟨fun h6 => ?_, fun h6 => ?_⟩
           ·have h6' : cmpV l[i] l'[i] ≠ 0 := by simpa using h6
            rw [if_pos h6'] at hin
            rw [hin] at h
            (conv => whnf); repeat ((apply And.intro;· exact Cl2); conv => whnf)
            exact h
           ·have h6' : ¬ cmpV l[i] l'[i] ≠ 0 := by simpa using h6
            rw [if_neg h6'] at hin
            (conv => whnf); repeat ((apply And.intro;· exact Cl2); conv => whnf)
            rw [wrap64 (by omega) (by omega)]
            refine ⟨[], i + 1, ⟨hix, hix', hin⟩, by show l.length - (i + 1) < l.length - i; omega, ?_⟩
            simp [meets, ghosts, St.le, St.get, look, keys, PV.labs, labsL, lookB, Blk.labs])
         ·have h5 : ¬ (i < l.length ∧ i < l'.length) := by
           by_cases h6 : (i : Int) < l.length
           ·simp [h6] at h4; omega
           ·omega
          have he := cmpVs_end hi hi2 h5
          rw [← hin] at he
          rw [he] at h
          (conv => whnf); repeat ((apply And.intro;· exact Cl2); conv => whnf)
          rw [hlp, hmp]
          refine number_spec2 _ _ _ ?_
          (conv => whnf); repeat ((apply And.intro;· exact Cl2); conv => whnf)
          exact h
def sameV (a b : V) : Bool := cmpV a b == 0
set_option maxHeartbeats 8000000 in
theorem sameR_spec (v w : V) (z1 z2 : Nat) (lp : List PV) (t1 t2 : Bool) (x1 x2 : Nat) (mp : List PV) (u1 u2 : Bool) (Post : PV → List (Nat × Blk) → Prop) (a : VA v z1 lp z2) (b : VA w x1 mp x2)
  (h : Post (.bool (sameV v w)) []) : Spec K 15 [.agg (vc v z1 lp t1 z2 t2), .agg (vc w x1 mp u1 x2 u2)] [] Post := by
 refine is15.specW K_ok K_mix false (by simp) (by simp [keys]) ?_
 (conv => whnf); repeat ((apply And.intro;· exact Cl2); conv => whnf)
 refine compare_spec 100000000000 v.k v.n v.s v.l v.ns w (by rw [V.eta]; exact a.b) (by omega) b.b z1 z2 lp t1 t2 x1 x2 mp u1 u2 _ a.l a.z1 a.z2 b.l b.z1 b.z2 ?_
 rw [V.eta]
 (conv => whnf); repeat ((apply And.intro;· exact Cl2); conv => whnf)
 exact h
def V0 : V := .mk 0 0 [] [] []
end Go.Vc
namespace Go.Vc
open Go Go.Proofs
set_option maxRecDepth 100000
structure EV where
 kind : Int
 flow : Int
 id : Int
 n : Int
 s : List UInt8
 v : V
def ec (e : EV) (z1 : Nat) (lp : List PV) (t1 : Bool) (z2 : Nat) (t2 : Bool) : List PV :=
 [.int .i64 e.kind, .int .i64 e.flow, .int .i64 e.id, .int .i64 e.n, .str e.s, .int .i64 e.v.k, .int .i64 e.v.n, .str e.v.s, .sl z1 lp t1 true, .sl z2 (strs e.v.ns) t2 true]
structure EA (e : EV) (z1 : Nat) (lp : List PV) (z2 : Nat) : Prop where
 v : VA e.v z1 lp z2
 s : e.s.length ≤ 100000000000
 id : i64 e.id
 n : i64 e.n
end Go.Vc
namespace Go.Vc
open Go Go.Proofs
set_option maxRecDepth 100000
end Go.Vc
