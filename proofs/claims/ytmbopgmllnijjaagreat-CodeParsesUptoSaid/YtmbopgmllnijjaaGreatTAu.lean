/- What is proved here: contracts of functions of the program: of each function what it hands back and what it leaves in memory. Conditions: those that each theorem names. -/
import Derived.Test.YtmbopgmllnijjaaGreatTAn
import Derived.Test.YtmbopgmllnijjaaGreatTAt
set_option linter.unusedVariables false
set_option linter.unusedSimpArgs false
set_option linter.unusedSectionVars false
namespace Go.Vc
open Go Go.Proofs
set_option maxRecDepth 100000
theorem allV_of {v : V} (h : mayV v = true) : allV v = true := (okV_iff.1 h).2
theorem valueBytes_spec (v : V) (z1 z2 : Nat) (lp : List PV) (t1 t2 : Bool) (Post : PV → List (Nat × Blk) → Prop) (a : VA v z1 lp z2)
  (h1 : mayV v = true → Post (.tup [.sl 1 (bs (writeV v)) false true, .int .i64 0]) []) (h2 : mayV v = false → Post (.tup [.sl 0 [] false true, .int .i64 2]) []) :
  Spec K 50 [.agg (vc v z1 lp t1 z2 t2)] [] Post := by
 refine is50.specW K_ok K_mix false (by simp) (by simp [keys]) ?_
 (conv => whnf); repeat ((apply And.intro;· exact Cl1); conv => whnf)
 refine check_spec v z1 z2 lp t1 t2 _ a ?_
 (conv => whnf); repeat ((apply And.intro;· exact Cl1); conv => whnf)
 refine ⟨fun hc => ?_, fun hc => ?_⟩
 ·have hm : mayV v = false := by cases hm : mayV v with
   | false => rfl
   | true => rw [hm] at hc; cases hc
  (conv => whnf); repeat ((apply And.intro;· exact Cl1); conv => whnf)
  rw [hm]
  exact h2 hm
 ·have hm : mayV v = true := by cases hm : mayV v with
   | true => rfl
   | false => rw [hm] at hc; cases hc
  (conv => whnf); repeat ((apply And.intro;· exact Cl1); conv => whnf)
  refine write_spec 100000000000 v.k v.n v.s v.l v.ns (by rw [V.eta]; exact a.b) (by omega) z1 z2 lp t1 t2 _ a.l a.z1 a.z2 a.n (by rw [V.eta]; exact allV_of hm) ?_
  rw [V.eta]
  (conv => whnf); repeat ((apply And.intro;· exact Cl1); conv => whnf)
  exact h1 hm
theorem u8all {p : UInt8 → Prop} (h : ∀ n, n < 256 → p (UInt8.ofNat n)) (c : UInt8) : p c := by
 have := h c.toNat c.toNat_lt
 rwa [UInt8.ofNat_toNat] at this
theorem i0 (i : Nat) : ((i : Int) == 0) = (i == 0) := by cases i <;> simp; omega
theorem inName_letter : ∀ c : UInt8, inName true c = true → inName false c = true := u8all (by decide +kernel)
set_option maxHeartbeats 4000000 in
theorem nameV_spec (s : List UInt8) (Post : PV → List (Nat × Blk) → Prop) (h : Post (.bool (isName s)) []) : Spec K 75 [.str s] [] Post := by
 refine is75.specW K_ok K_mix false (by simp) (by simp [keys]) ?_
 (conv => whnf); repeat ((apply And.intro;· exact Cl1); conv => whnf)
 have hg : ∀ {i : Nat} (hi : i < s.length), s.getD i 0 = s[i] := fun hi => by rw [List.getD_eq_getElem?_getD, List.getElem?_eq_getElem hi]; rfl
 have hne : (true = true ∧ (bif bif decide ((s.length : Int) < 1) then true else decide (16 < (s.length : Int)) then true else decide (((s.getD (Int.toNat 0) 0).toNat : Int) < 97)) = false) → (0 : Int) ≤ 0 ∧ (0 : Int) < s.length := by
  intro hh
  have hh := hh.2
  by_cases h2 : (s.length : Int) < 1
  ·simp [h2] at hh
  ·omega
 refine ⟨fun hh => ?_, ?_⟩
 ·have hh := hh.2
  by_cases h2 : (s.length : Int) < 1
  ·simp [h2] at hh
  ·omega
 (conv => whnf); repeat ((apply And.intro;· exact Cl1); conv => whnf)
 refine ⟨hne, ?_⟩
 (conv => whnf); repeat ((apply And.intro;· exact Cl1); conv => whnf)
 refine ⟨fun hc => ?_, fun hc => ?_⟩
 ·(conv => whnf); repeat ((apply And.intro;· exact Cl1); conv => whnf)
  have : isName s = false := by
   cases s with
   | nil => rfl
   | cons c r =>
    by_cases h2 : (16 : Int) < (c :: r).length
    ·have : ¬ (c :: r).length ≤ 16 := by omega
     simp only [isName, this, decide_false, Bool.and_false, Bool.false_and]
    ·have h3 : ¬ ((c :: r).length : Int) < 1 := by simp; omega
     have h4 : inName true c = false := by
      rw [decide_eq_false h3, decide_eq_false h2] at hc
      revert hc
      show (bif bif bif false then true else false then true else decide ((c.toNat : Int) < 97) then true else decide (122 < (c.toNat : Int))) = true → _
      clear h2 h3 hne hg h
      revert c
      exact u8all (by decide +kernel)
     simp [isName, inNames, h4]
  rwa [this] at h
 ·have h1 : 1 ≤ s.length ∧ s.length ≤ 16 := by
   by_cases h2 : (s.length : Int) < 1
   ·simp [h2] at hc
   ·by_cases h3 : (16 : Int) < s.length
    ·simp [h2, h3] at hc
    ·omega
  have hst : inNames true s = inNames false s := by
   cases s with
   | nil => simp at h1
   | cons c r =>
    have h2 : ¬ (16 : Int) < (c :: r).length := by omega
    have h3 : ¬ ((c :: r).length : Int) < 1 := by omega
    have h4 : inName true c = true := by
     rw [decide_eq_false h3, decide_eq_false h2] at hc
     revert hc
     show (bif bif bif false then true else false then true else decide ((c.toNat : Int) < 97) then true else decide (122 < (c.toNat : Int))) = false → _
     clear h2 h3 hne hg h h1
     revert c
     exact u8all (by decide +kernel)
    simp [inNames, h4, inName_letter c h4]
  have hnm : isName s = inNames false s := by
   rw [← hst]
   unfold isName
   cases s with
   | nil => simp at h1
   | cons c r => simp at h1 ⊢; omega
  rw [hnm] at h
  clear hne hc
  (conv => whnf); repeat ((apply And.intro;· exact Cl1); conv => whnf)
  refine ⟨Nat, fun i => ⟨52, [(3, .int .i64 i), (2, .bool false), (0, .str s)], [], []⟩, fun i => i ≤ s.length ∧ inNames false s = inNames false (s.drop i), fun i => s.length - i,
   ⟨[], 0, ⟨Nat.zero_le _, rfl⟩, ?_⟩, fun i ⟨hi, hin⟩ => ?_⟩
  ·simp [meets, ghosts, St.le, St.get, look, keys, PV.labs, labsL]
  ·(conv => whnf); repeat ((apply And.intro;· exact Cl1); conv => whnf)
   refine ⟨fun h1 => ?_, fun h1 => ?_⟩
   ·have hix : i < s.length := by have := of_decide_eq_true h1; omega
    (conv => whnf); repeat ((apply And.intro;· exact Cl1); conv => whnf)
    refine ⟨fun _ => ⟨by omega, by omega⟩, ?_⟩
    (conv => whnf); repeat ((apply And.intro;· exact Cl1); conv => whnf)
    rw [Int.toNat_natCast, hg hix]
    have hdr : s.drop i = s[i] :: s.drop (i + 1) := List.drop_eq_getElem_cons hix
    refine ⟨fun h2 => ?_, fun h2 => ?_⟩
    ·have : inName false s[i] = false := by
      revert h2
      generalize s[i] = c
      revert c
      refine u8all ?_; decide +kernel
     (conv => whnf); repeat ((apply And.intro;· exact Cl1); conv => whnf)
     rw [hin, hdr, inNames, this] at h
     exact h
    ·have : inName false s[i] = true := by
      revert h2
      generalize s[i] = c
      revert c
      refine u8all ?_; decide +kernel
     (conv => whnf); repeat ((apply And.intro;· exact Cl1); conv => whnf)
     rw [wrap64 (by omega) (by omega)]
     refine ⟨[], i + 1, ⟨hix, ?_⟩, by show s.length - (i + 1) < s.length - i; omega, ?_⟩
     ·rw [hin, hdr, inNames, this]; simp
     ·simp [meets, ghosts, St.le, St.get, look, keys, PV.labs, labsL]
   ·have hix : i = s.length := by have := of_decide_eq_false h1; omega
    (conv => whnf); repeat ((apply And.intro;· exact Cl1); conv => whnf)
    rw [hin, hix, List.drop_length] at h
    exact h
end Go.Vc
namespace Go.Vc
open Go Go.Proofs
set_option maxRecDepth 100000
theorem nsLen_take {ns : List (List UInt8)} {i : Nat} (hi : i < ns.length) : nsLen (ns.take (i + 1)) = nsLen (ns.take i) + ns[i].length := by
 induction ns generalizing i with
 | nil => simp at hi
 | cons a r ih =>
  cases i with
  | zero => simp [nsLen]
  | succ i => simp only [List.take_succ_cons, nsLen, ih (by simpa using hi), List.getElem_cons_succ]; omega
theorem nsLen_take_le (ns : List (List UInt8)) (i : Nat) : nsLen (ns.take i) ≤ nsLen ns := by
 induction ns generalizing i with
 | nil => simp
 | cons a r ih => cases i with
  | zero => simp [nsLen]
  | succ i => simp only [List.take_succ_cons, nsLen]; have := ih i; omega
theorem sizeVs_take {l : List V} {i : Nat} (hi : i < l.length) : sizeVs (l.take (i + 1)) = sizeVs (l.take i) + sizeV l[i] := by
 induction l generalizing i with
 | nil => simp at hi
 | cons a r ih =>
  cases i with
  | zero => simp [sizeVs]
  | succ i => simp only [List.take_succ_cons, sizeVs, ih (by simpa using hi), List.getElem_cons_succ]; omega
theorem sizeVs_take_le (l : List V) (i : Nat) : sizeVs (l.take i) ≤ sizeVs l := by
 induction l generalizing i with
 | nil => simp
 | cons a r ih => cases i with
  | zero => simp [sizeVs]
  | succ i => simp only [List.take_succ_cons, sizeVs]; have := ih i; omega
theorem depthVs_take {l : List V} {i : Nat} (hi : i < l.length) : depthVs (l.take (i + 1)) = max (depthVs (l.take i)) (depthV l[i]) := by
 induction l generalizing i with
 | nil => simp at hi
 | cons a r ih =>
  cases i with
  | zero => simp [depthVs]
  | succ i => simp only [List.take_succ_cons, depthVs, ih (by simpa using hi), List.getElem_cons_succ]; omega
mutual
theorem depthV_le : ∀ v : V, depthV v ≤ bulkV v
 | .mk _ _ s l ns => by
  have := depthVs_le l
  simp only [depthV, bulkV]; omega
theorem depthVs_le : ∀ l : List V, depthVs l ≤ bulkVs l
 | [] => by simp [depthVs]
 | v :: r => by
  have := depthV_le v
  have := depthVs_le r
  simp only [depthVs, bulkVs]; omega
end
theorem depthVs_take_le (l : List V) (i : Nat) : depthVs (l.take i) ≤ depthVs l := by
 induction l generalizing i with
 | nil => simp
 | cons a r ih => cases i with
  | zero => simp [depthVs]
  | succ i => simp only [List.take_succ_cons, depthVs]; have := ih i; omega
set_option maxHeartbeats 8000000 in
theorem size_spec (N : Nat) : ∀ (k n : Int) (s : List UInt8) (l : List V) (ns : List (List UInt8)), bulkV (.mk k n s l ns) ≤ N → N ≤ 100000000000 → ∀ (z1 z2 : Nat) (lp : List PV) (t1 t2 : Bool) (Post : PV → List (Nat × Blk) → Prop),
  VPs l lp → (z1 = 5 ∨ l = []) → (z2 = 1 ∨ ns = []) → Post (.int .i64 (sizeV (.mk k n s l ns))) [] →
  Spec K 73 [.agg [.int .i64 k, .int .i64 n, .str s, .sl z1 lp t1 true, .sl z2 (strs ns) t2 true]] [] Post := by
 induction N with
 | zero => intro k n s l ns h; exact absurd (bulkV_pos (.mk k n s l ns)) (by omega)
 | succ N ih =>
  intro k n s l ns hs hN z1 z2 lp t1 t2 Post hl hz1 hz2 h
  have hz2' : z2 = 1 ∨ strs ns = [] := hz2.imp (fun h => h) fun h => by rw [h]; rfl
  have hlp := VPs_len hl
  have hz1' : z1 = 5 ∨ lp = [] := hz1.imp (fun h => h) fun h => by rw [h] at hlp; exact List.length_eq_zero_iff.1 hlp
  have hs' := hs
  simp only [bulkV] at hs'
  have hnb := nsBulk_le ns
  have hlb := len_sizeVs l
  have hsb := sizes_bulk l
  refine is73.specW K_ok K_mix false (by simp) (by simp [keys]) ?_
  (conv => whnf); repeat ((apply And.intro;· exact Cl2); conv => whnf)
  refine ⟨Nat, fun i => ⟨41, [(4, .int .i64 i), (3, .int .i64 (1 + s.length + nsLen (ns.take i) : Nat)), (1, .ptr 0 0)], [(0, .box [.int .i64 k, .int .i64 n, .str s, .sl z1 lp t1 true, .sl z2 (strs ns) t2 true])], []⟩, fun i => i ≤ ns.length, fun i => ns.length - i,
   ⟨[], 0, Nat.zero_le _, ?_⟩, fun i hI => ?_⟩
  ·rw [wrap64 (by omega) (by omega)]
   simp [meets, ghosts, St.le, St.get, look, keys, PV.labs, labsL, lookB, Blk.labs, strs_len, nsLen]
  ·have hI : i ≤ ns.length := hI
   have hdb := nsLen_take_le ns i
   conv => (arg 5; dsimp only)
   (conv => whnf); repeat ((apply And.intro;· exact Cl2); conv => whnf)
   rw [strs_len]
   refine ⟨fun h1 => ?_, fun h1 => ?_⟩
   ·have hix : i < ns.length := by have := of_decide_eq_true h1; omega
    have hm := nsLen_take hix
    have hm2 := nsLen_take_le ns (i + 1)
    (conv => whnf); repeat ((apply And.intro;· exact Cl2); conv => whnf)
    refine ⟨fun _ => ⟨by omega, by rw [strs_len]; omega⟩, ?_⟩
    (conv => whnf); repeat ((apply And.intro;· exact Cl2); conv => whnf)
    rw [Int.toNat_natCast, nth_strs hix]
    (conv => whnf); repeat ((apply And.intro;· exact Cl2); conv => whnf)
    rw [wrap64 (by omega) (by omega), wrap64 (by omega) (by omega)]
    refine ⟨[], i + 1, hix, by show ns.length - (i + 1) < ns.length - i; omega, ?_⟩
    rw [show ((1 + s.length + nsLen (ns.take i) : Nat) : Int) + ns[i].length = (1 + s.length + nsLen (ns.take (i + 1)) : Nat) by omega]
    simp [meets, ghosts, St.le, St.get, look, keys, PV.labs, labsL, lookB, Blk.labs]
   ·have hix : i = ns.length := by have := of_decide_eq_false h1; omega
    rw [hix, List.take_length]
    (conv => whnf); repeat ((apply And.intro;· exact Cl2); conv => whnf)
    refine ⟨Nat, fun i => ⟨41, [(5, .int .i64 i), (3, .int .i64 (1 + s.length + nsLen ns + sizeVs (l.take i) : Nat)), (1, .ptr 0 0)], [(0, .box [.int .i64 k, .int .i64 n, .str s, .sl z1 lp t1 true, .sl z2 (strs ns) t2 true])], []⟩, fun i => i ≤ l.length, fun i => l.length - i,
     ⟨[], 0, Nat.zero_le _, ?_⟩, fun i hI => ?_⟩
    ·simp [meets, ghosts, St.le, St.get, look, keys, PV.labs, labsL, lookB, Blk.labs, sizeVs]
    ·have hI : i ≤ l.length := hI
     have hdb := sizeVs_take_le l i
     conv => (arg 5; dsimp only)
     (conv => whnf); repeat ((apply And.intro;· exact Cl2); conv => whnf)
     rw [hlp]
     refine ⟨fun h1 => ?_, fun h1 => ?_⟩
     ·have hix : i < l.length := by have := of_decide_eq_true h1; omega
      have hm := sizeVs_take hix
      have hm2 := sizeVs_take_le l (i + 1)
      obtain ⟨y1, mp, u1, o1, y2, u2, o2, hp, hq, g1, g2, g3⟩ := (VPs_nth hl hix).out
      have hbm := bulkVs_mem hix
      (conv => whnf); repeat ((apply And.intro;· exact Cl2); conv => whnf)
      refine ⟨fun _ => ⟨by omega, by rw [hlp]; omega⟩, ?_⟩
      (conv => whnf); repeat ((apply And.intro;· exact Cl2); conv => whnf)
      rw [Int.toNat_natCast, hp]
      (conv => whnf); repeat ((apply And.intro;· exact Cl2); conv => whnf)
      refine ih l[i].k l[i].n l[i].s l[i].l l[i].ns (by rw [V.eta]; omega) (by omega) y1 y2 mp u1 u2 _ hq g1 g2 ?_
      rw [V.eta]
      (conv => whnf); repeat ((apply And.intro;· exact Cl2); conv => whnf)
      rw [wrap64 (by omega) (by omega), wrap64 (by omega) (by omega)]
      refine ⟨[], i + 1, hix, by show l.length - (i + 1) < l.length - i; omega, ?_⟩
      rw [show ((1 + s.length + nsLen ns + sizeVs (l.take i) : Nat) : Int) + sizeV l[i] = (1 + s.length + nsLen ns + sizeVs (l.take (i + 1)) : Nat) by omega]
      simp [meets, ghosts, St.le, St.get, look, keys, PV.labs, labsL, lookB, Blk.labs]
     ·have hix : i = l.length := by have := of_decide_eq_false h1; omega
      rw [hix, List.take_length]
      (conv => whnf); repeat ((apply And.intro;· exact Cl2); conv => whnf)
      simpa [sizeV] using h
set_option maxHeartbeats 8000000 in
theorem depth_spec (N : Nat) : ∀ (k n : Int) (s : List UInt8) (l : List V) (ns : List (List UInt8)), bulkV (.mk k n s l ns) ≤ N → N ≤ 100000000000 → ∀ (z1 z2 : Nat) (lp : List PV) (t1 t2 : Bool) (Post : PV → List (Nat × Blk) → Prop),
  VPs l lp → (z1 = 5 ∨ l = []) → (z2 = 1 ∨ ns = []) → Post (.int .i64 (depthV (.mk k n s l ns))) [] →
  Spec K 72 [.agg [.int .i64 k, .int .i64 n, .str s, .sl z1 lp t1 true, .sl z2 (strs ns) t2 true]] [] Post := by
 induction N with
 | zero => intro k n s l ns h; exact absurd (bulkV_pos (.mk k n s l ns)) (by omega)
 | succ N ih =>
  intro k n s l ns hs hN z1 z2 lp t1 t2 Post hl hz1 hz2 h
  have hlp := VPs_len hl
  have hz1' : z1 = 5 ∨ lp = [] := hz1.imp (fun h => h) fun h => by rw [h] at hlp; exact List.length_eq_zero_iff.1 hlp
  have hs' := hs
  simp only [bulkV] at hs'
  have hlb := len_sizeVs l
  have hsb := sizes_bulk l
  have hdl := depthVs_le l
  refine is72.specW K_ok K_mix false (by simp) (by simp [keys]) ?_
  (conv => whnf); repeat ((apply And.intro;· exact Cl2); conv => whnf)
  refine ⟨Nat, fun i => ⟨22, [(4, .int .i64 i), (3, .int .i64 (depthVs (l.take i))), (1, .ptr 0 0)], [(0, .box [.int .i64 k, .int .i64 n, .str s, .sl z1 lp t1 true, .sl z2 (strs ns) t2 true])], []⟩, fun i => i ≤ l.length, fun i => l.length - i,
   ⟨[], 0, Nat.zero_le _, ?_⟩, fun i hI => ?_⟩
  ·simp [meets, ghosts, St.le, St.get, look, keys, PV.labs, labsL, lookB, Blk.labs, depthVs]
  ·have hI : i ≤ l.length := hI
   have hdb := depthVs_take_le l i
   conv => (arg 5; dsimp only)
   (conv => whnf); repeat ((apply And.intro;· exact Cl2); conv => whnf)
   rw [hlp]
   refine ⟨fun h1 => ?_, fun h1 => ?_⟩
   ·have hix : i < l.length := by have := of_decide_eq_true h1; omega
    have hm := depthVs_take hix
    obtain ⟨y1, mp, u1, o1, y2, u2, o2, hp, hq, g1, g2, g3⟩ := (VPs_nth hl hix).out
    have hbm := bulkVs_mem hix
    (conv => whnf); repeat ((apply And.intro;· exact Cl2); conv => whnf)
    refine ⟨fun _ => ⟨by omega, by rw [hlp]; omega⟩, ?_⟩
    (conv => whnf); repeat ((apply And.intro;· exact Cl2); conv => whnf)
    rw [Int.toNat_natCast, hp]
    (conv => whnf); repeat ((apply And.intro;· exact Cl2); conv => whnf)
    refine ih l[i].k l[i].n l[i].s l[i].l l[i].ns (by rw [V.eta]; omega) (by omega) y1 y2 mp u1 u2 _ hq g1 g2 ?_
    rw [V.eta]
    (conv => whnf); repeat ((apply And.intro;· exact Cl2); conv => whnf)
    rw [wrap64 (by omega) (by omega)]
    refine ⟨[], i + 1, hix, by show l.length - (i + 1) < l.length - i; omega, ?_⟩
    have e : (if depthVs (l.take i) < depthV l[i] then (depthV l[i] : Int) else (depthVs (l.take i) : Int)) = (depthVs (l.take (i + 1)) : Int) := by
     split <;> omega
    simp [meets, ghosts, St.le, St.get, look, keys, PV.labs, labsL, lookB, Blk.labs, e]
   ·have hix : i = l.length := by have := of_decide_eq_false h1; omega
    rw [hix, List.take_length]
    (conv => whnf); repeat ((apply And.intro;· exact Cl2); conv => whnf)
    rw [wrap64 (by omega) (by omega)]
    simpa [depthV] using h
theorem rise_head (s : List UInt8) (r : List (List UInt8)) : rise [] (s :: r) = (isName s && rise s r) := by
 cases s with
 | nil => simp [rise, isName]
 | cons c t =>
  have : Op.bytesLess (c :: t) [] = false := rfl
  simp [rise, this]
set_option maxHeartbeats 8000000 in
theorem names_spec (ns : List (List UInt8)) (z : Nat) (t : Bool) (hz : z = 1 ∨ ns = []) (hl : ns.length ≤ 1000000000000) (Post : PV → List (Nat × Blk) → Prop) (h : Post (.bool (rise [] ns)) []) : Spec K 122 [.sl z (strs ns) t true] [] Post := by
 refine is122.specW K_ok K_mix false (by simp) (by simp [keys]) ?_
 have hz2 : z = 1 ∨ strs ns = [] := hz.imp (fun h => h) fun h => by rw [h]; rfl
 (conv => whnf); repeat ((apply And.intro;· exact Cl2); conv => whnf)
 refine ⟨Nat, fun i => ⟨32, [(3, .int .i64 i), (2, .bool false), (0, .sl z (strs ns) t true)], [], []⟩, fun i => i ≤ ns.length ∧ rise [] ns = (if i = 0 then rise [] ns else rise (ns.getD (i - 1) []) (ns.drop i)), fun i => ns.length - i,
  ⟨[], 0, ⟨Nat.zero_le _, rfl⟩, ?_⟩, fun i hI => ?_⟩
 ·simp [meets, ghosts, St.le, St.get, look, keys, PV.labs, labsL]
 ·obtain ⟨hi, hin⟩ := hI
  conv => (arg 5; dsimp only)
  (conv => whnf); repeat ((apply And.intro;· exact Cl2); conv => whnf)
  rw [strs_len]
  refine ⟨fun h1 => ?_, fun h1 => ?_⟩
  ·have hix : i < ns.length := by have := of_decide_eq_true h1; omega
   have hdr : ns.drop i = ns[i] :: ns.drop (i + 1) := List.drop_eq_getElem_cons hix
   have hg : ns.getD (i + 1 - 1) [] = ns[i] := by rw [List.getD_eq_getElem?_getD, Nat.add_sub_cancel, List.getElem?_eq_getElem hix]; rfl
   (conv => whnf); repeat ((apply And.intro;· exact Cl2); conv => whnf)
   refine ⟨fun _ => ⟨by omega, by rw [strs_len]; omega⟩, ?_⟩
   (conv => whnf); repeat ((apply And.intro;· exact Cl2); conv => whnf)
   rw [Int.toNat_natCast, nth_strs hix]
   (conv => whnf); repeat ((apply And.intro;· exact Cl2); conv => whnf)
   refine nameV_spec ns[i] _ ?_
   rcases i with _ | j
   ·have hr := rise_head ns[0] (ns.drop 1)
    rw [← hdr, List.drop_zero] at hr
    have e0 : (IntKind.i64.wrap (((0 : Nat) : Int) - 1)).toNat = 0 := rfl
    cases hnm : isName ns[0] with
    | true =>
     (conv => whnf); repeat ((apply And.intro;· exact Cl2); conv => whnf)
     rw [e0, Int.toNat_natCast, nth_strs hix]
     refine ⟨?_, ?_⟩ <;> (
      (conv => whnf); repeat ((apply And.intro;· exact Cl2); conv => whnf)
      refine ⟨fun h2 => (by cases h2), fun _ => ?_⟩
      (conv => whnf); repeat ((apply And.intro;· exact Cl2); conv => whnf)
      refine ⟨[], 1, ⟨hix, ?_⟩, by show ns.length - 1 < ns.length - 0; omega, ?_⟩
      ·rw [hr, hnm, if_neg (by omega), hg]; rfl
      ·simp [meets, ghosts, St.le, St.get, look, keys, PV.labs, labsL]
       rfl)
    | false =>
     (conv => whnf); repeat ((apply And.intro;· exact Cl2); conv => whnf)
     rw [e0, Int.toNat_natCast, nth_strs hix]
     rw [hr, hnm] at h
     refine ⟨?_, ?_⟩ <;> (
      (conv => whnf); repeat ((apply And.intro;· exact Cl2); conv => whnf)
      refine ⟨fun _ => ?_, fun h2 => (by cases h2)⟩
      (conv => whnf); repeat ((apply And.intro;· exact Cl2); conv => whnf)
      exact h)
   ·have e0 : (IntKind.i64.wrap (((j + 1 : Nat) : Int) - 1)).toNat = j := by rw [wrap64 (by omega) (by omega)]; omega
    have hj : j < ns.length := by omega
    have hg' : ns.getD (j + 1 - 1) [] = ns[j] := by rw [List.getD_eq_getElem?_getD, Nat.add_sub_cancel, List.getElem?_eq_getElem hj]; rfl
    rw [if_neg (by omega), hg', hdr, rise] at hin
    cases hnm : isName ns[j + 1] with
    | true =>
     (conv => whnf); repeat ((apply And.intro;· exact Cl2); conv => whnf)
     refine ⟨fun _ => ⟨by omega, by rw [strs_len]; omega⟩, ?_⟩
     (conv => whnf); repeat ((apply And.intro;· exact Cl2); conv => whnf)
     refine ⟨fun _ => ⟨by rw [wrap64 (by omega) (by omega)]; omega, by rw [strs_len, wrap64 (by omega) (by omega)]; omega⟩, ?_⟩
     (conv => whnf); repeat ((apply And.intro;· exact Cl2); conv => whnf)
     rw [e0, Int.toNat_natCast, nth_strs hix, nth_strs hj]
     rw [show decide (0 < ((j + 1 : Nat) : Int)) = true from decide_eq_true (by omega)]
     refine ⟨?_, ?_⟩ <;> (
      (conv => whnf); repeat ((apply And.intro;· exact Cl2); conv => whnf)
      refine ⟨fun h2 => ?_, fun h2 => ?_⟩
      ·have h2' : (Op.bytesLess ns[j + 1] ns[j] || ns[j + 1] == ns[j]) = true := h2
       (conv => whnf); repeat ((apply And.intro;· exact Cl2); conv => whnf)
       rw [hin, h2'] at h
       exact h
      ·have h2' : (Op.bytesLess ns[j + 1] ns[j] || ns[j + 1] == ns[j]) = false := h2
       (conv => whnf); repeat ((apply And.intro;· exact Cl2); conv => whnf)
       rw [wrap64 (by omega) (by omega)]
       refine ⟨[], j + 1 + 1, ⟨hix, ?_⟩, by show ns.length - (j + 1 + 1) < ns.length - (j + 1); omega, ?_⟩
       ·rw [hin, h2', hnm, if_neg (by omega), hg]; rfl
       ·simp [meets, ghosts, St.le, St.get, look, keys, PV.labs, labsL])
    | false =>
     (conv => whnf); repeat ((apply And.intro;· exact Cl2); conv => whnf)
     rw [e0, Int.toNat_natCast, nth_strs hix, nth_strs hj]
     have hf : rise [] ns = false := by rw [hin, hnm]; simp
     rw [hf] at h
     refine ⟨?_, ?_⟩ <;> (
      (conv => whnf); repeat ((apply And.intro;· exact Cl2); conv => whnf)
      refine ⟨fun _ => ?_, fun h2 => (by cases h2)⟩
      (conv => whnf); repeat ((apply And.intro;· exact Cl2); conv => whnf)
      exact h)
  ·have hix : i = ns.length := by have := of_decide_eq_false h1; omega
   (conv => whnf); repeat ((apply And.intro;· exact Cl2); conv => whnf)
   have : rise [] ns = true := by
    cases ns with
    | nil => rfl
    | cons a r => rw [hin, if_neg (by rw [hix]; simp), hix, List.drop_length]; rfl
   rwa [this] at h
theorem es_nil (s : List UInt8) : (s == ({ data := #[] } : ByteArray).data.toList) = s.isEmpty := by cases s <;> rfl
theorem el_nil {α : Type} (l : List α) : ((l.length : Int) == 0) = (l.length == 0) := by rw [i0]
set_option maxHeartbeats 8000000 in
theorem fields_spec (k n : Int) (s : List UInt8) (z1 z2 : Nat) (lp : List PV) (ns : List (List UInt8)) (t1 t2 : Bool) (hz : z2 = 1 ∨ ns = []) (hn : ns.length ≤ 1000000000000) (Post : PV → List (Nat × Blk) → Prop)
  (h : Post (.bool (ownB k n s lp.length ns)) []) : Spec K 104 [.agg [.int .i64 k, .int .i64 n, .str s, .sl z1 lp t1 true, .sl z2 (strs ns) t2 true]] [] Post := by
 refine is104.specW K_ok K_mix false (by simp) (by simp [keys]) ?_
 have en : (ns.length == 0) = ns.isEmpty := by cases ns <;> rfl
 (conv => whnf); repeat ((apply And.intro;· exact Cl2); conv => whnf)
 refine ⟨fun h0 => ?_, fun h0 => ?_⟩
 ·obtain rfl : k = 0 := by simpa using h0
  (conv => whnf); repeat ((apply And.intro;· exact Cl2); conv => whnf)
  refine (congrArg (fun r => Post (.bool r) []) ?_).mpr h
  rw [es_nil, el_nil, el_nil, strs_len, en]
  simp only [ownB]
  cases (n == 0) <;> cases s.isEmpty <;> cases (lp.length == 0) <;> cases ns.isEmpty <;> rfl
 ·have h0' : k ≠ 0 := by simpa using h0
  (conv => whnf); repeat ((apply And.intro;· exact Cl2); conv => whnf)
  refine ⟨fun h2 => ?_, fun h2 => ?_⟩
  ·obtain rfl : k = 1 := by simpa using h2
   (conv => whnf); repeat ((apply And.intro;· exact Cl2); conv => whnf)
   refine (congrArg (fun r => Post (.bool r) []) ?_).mpr h
   rw [es_nil, el_nil, el_nil, strs_len, en]
   simp only [ownB]
   cases s.isEmpty <;> cases (lp.length == 0) <;> cases ns.isEmpty <;> rfl
  ·have h2' : k ≠ 1 := by simpa using h2
   (conv => whnf); repeat ((apply And.intro;· exact Cl2); conv => whnf)
   refine ⟨fun h3 => ?_, fun h3 => ?_⟩
   ·obtain rfl : k = 2 := by simpa using h3
    (conv => whnf); repeat ((apply And.intro;· exact Cl2); conv => whnf)
    refine (congrArg (fun r => Post (.bool r) []) ?_).mpr h
    rw [es_nil, el_nil, el_nil, strs_len, en]
    simp only [ownB]
    cases (n == 0) <;> cases (n == 1) <;> cases s.isEmpty <;> cases (lp.length == 0) <;> cases ns.isEmpty <;> rfl
   ·have h3' : k ≠ 2 := by simpa using h3
    (conv => whnf); repeat ((apply And.intro;· exact Cl2); conv => whnf)
    refine ⟨fun h4 => ?_, fun h4 => ?_⟩
    ·obtain rfl : k = 3 := by simpa using h4
     (conv => whnf); repeat ((apply And.intro;· exact Cl2); conv => whnf)
     refine (congrArg (fun r => Post (.bool r) []) ?_).mpr h
     rw [el_nil, el_nil, strs_len, en, show decide ((s.length : Int) ≤ 64) = decide (s.length ≤ 64) from decide_eq_decide.2 (by omega)]
     simp only [ownB]
     cases (n == 0) <;> cases decide (s.length ≤ 64) <;> cases (lp.length == 0) <;> cases ns.isEmpty <;> rfl
    ·have h4' : k ≠ 3 := by simpa using h4
     (conv => whnf); repeat ((apply And.intro;· exact Cl2); conv => whnf)
     refine ⟨fun h5 => ?_, fun h5 => ?_⟩
     ·obtain rfl : k = 4 := by simpa using h5
      (conv => whnf); repeat ((apply And.intro;· exact Cl2); conv => whnf)
      refine (congrArg (fun r => Post (.bool r) []) ?_).mpr h
      rw [es_nil, el_nil, strs_len, en, show decide ((lp.length : Int) ≤ 32) = decide (lp.length ≤ 32) from decide_eq_decide.2 (by omega)]
      simp only [ownB]
      cases (n == 0) <;> cases decide (lp.length ≤ 32) <;> cases s.isEmpty <;> cases ns.isEmpty <;> rfl
     ·have h5' : k ≠ 4 := by simpa using h5
      (conv => whnf); repeat ((apply And.intro;· exact Cl2); conv => whnf)
      refine ⟨fun h6 => ?_, fun h6 => ?_⟩
      ·obtain rfl : k = 5 := by simpa using h6
       (conv => whnf); repeat ((apply And.intro;· exact Cl2); conv => whnf)
       have e1 : (bif bif bif n == 0 then s == ({ data := #[] } : ByteArray).data.toList else false then (lp.length : Int) == ((strs ns).length : Int) else false then decide ((lp.length : Int) ≤ 8) else false) = (n == 0 && lp.length == ns.length && decide (lp.length ≤ 8) && s.isEmpty) := by
        rw [es_nil, strs_len, show ((lp.length : Int) == (ns.length : Int)) = (lp.length == ns.length) by rw [Bool.eq_iff_iff]; simp; omega, show decide ((lp.length : Int) ≤ 8) = decide (lp.length ≤ 8) from decide_eq_decide.2 (by omega)]
        cases (n == 0) <;> cases s.isEmpty <;> cases (lp.length == ns.length) <;> cases decide (lp.length ≤ 8) <;> rfl
       rw [e1]
       refine ⟨fun _ h7 => ?_, fun h7 => ?_⟩
       ·rw [h7]
        (conv => whnf); repeat ((apply And.intro;· exact Cl2); conv => whnf)
        refine names_spec ns z2 t2 hz hn _ ?_
        (conv => whnf); repeat ((apply And.intro;· exact Cl2); conv => whnf)
        refine (congrArg (fun r => Post (.bool r) []) ?_).mpr h
        simp only [ownB]
        show rise [] ns = (_ && rise [] ns)
        rw [h7]; rfl
       ·have h7' := h7 rfl
        rw [h7']
        (conv => whnf); repeat ((apply And.intro;· exact Cl2); conv => whnf)
        refine (congrArg (fun r => Post (.bool r) []) ?_).mpr h
        simp only [ownB]
        show false = (_ && rise [] ns)
        rw [h7']; rfl
      ·have h6' : k ≠ 5 := by simpa using h6
       (conv => whnf); repeat ((apply And.intro;· exact Cl2); conv => whnf)
       refine ⟨fun h7 => ?_, fun h7 => ?_⟩
       ·obtain rfl : k = 6 := by simpa using h7
        (conv => whnf); repeat ((apply And.intro;· exact Cl2); conv => whnf)
        refine (congrArg (fun r => Post (.bool r) []) ?_).mpr h
        rw [es_nil, el_nil, el_nil, strs_len, en]
        simp only [ownB]
        cases decide (1 ≤ n) <;> cases decide (n ≤ 64) <;> cases s.isEmpty <;> cases (lp.length == 0) <;> cases ns.isEmpty <;> rfl
       ·have h7' : k ≠ 6 := by simpa using h7
        (conv => whnf); repeat ((apply And.intro;· exact Cl2); conv => whnf)
        simpa [ownB, h0', h2', h3', h4', h5', h6', h7'] using h
set_option maxHeartbeats 8000000 in
theorem all_spec (N : Nat) : ∀ (k n : Int) (s : List UInt8) (l : List V) (ns : List (List UInt8)), bulkV (.mk k n s l ns) ≤ N → N ≤ 100000000000 → ∀ (z1 z2 : Nat) (lp : List PV) (t1 t2 : Bool) (Post : PV → List (Nat × Blk) → Prop),
  VPs l lp → (z1 = 5 ∨ l = []) → (z2 = 1 ∨ ns = []) → Post (.bool (allV (.mk k n s l ns))) [] →
  Spec K 74 [.agg [.int .i64 k, .int .i64 n, .str s, .sl z1 lp t1 true, .sl z2 (strs ns) t2 true]] [] Post := by
 induction N with
 | zero => intro k n s l ns h; exact absurd (bulkV_pos (.mk k n s l ns)) (by omega)
 | succ N ih =>
  intro k n s l ns hs hN z1 z2 lp t1 t2 Post hl hz1 hz2 h
  have hlp := VPs_len hl
  have hz1' : z1 = 5 ∨ lp = [] := hz1.imp (fun h => h) fun h => by rw [h] at hlp; exact List.length_eq_zero_iff.1 hlp
  have hs' := hs
  simp only [bulkV] at hs'
  have hnb := nsBulk_le ns
  have hlb := len_sizeVs l
  have hsb := sizes_bulk l
  refine is74.specW K_ok K_mix false (by simp) (by simp [keys]) ?_
  (conv => whnf); repeat ((apply And.intro;· exact Cl2); conv => whnf)
  refine fields_spec k n s z1 z2 lp ns t1 t2 hz2 (by omega) _ ?_
  rw [hlp]
  (conv => whnf); repeat ((apply And.intro;· exact Cl2); conv => whnf)
  rw [allV] at h
  refine ⟨fun h1 => ?_, fun h1 => ?_⟩
  ·have h1' : ownB k n s l.length ns = false := by simpa using h1
   (conv => whnf); repeat ((apply And.intro;· exact Cl2); conv => whnf)
   rw [h1'] at h
   exact h
  ·have h1' : ownB k n s l.length ns = true := by simpa using h1
   rw [h1', Bool.true_and] at h
   (conv => whnf); repeat ((apply And.intro;· exact Cl2); conv => whnf)
   refine ⟨Nat, fun i => ⟨21, [(3, .int .i64 i), (2, .bool false), (1, .ptr 0 0)], [(0, .box [.int .i64 k, .int .i64 n, .str s, .sl z1 lp t1 true, .sl z2 (strs ns) t2 true])], []⟩, fun i => i ≤ l.length ∧ allVs l = allVs (l.drop i), fun i => l.length - i,
    ⟨[], 0, ⟨Nat.zero_le _, rfl⟩, ?_⟩, fun i hI => ?_⟩
   ·simp [meets, ghosts, St.le, St.get, look, keys, PV.labs, labsL, lookB, Blk.labs]
   ·obtain ⟨hi, hin⟩ := hI
    conv => (arg 5; dsimp only)
    (conv => whnf); repeat ((apply And.intro;· exact Cl2); conv => whnf)
    rw [hlp]
    refine ⟨fun h1 => ?_, fun h1 => ?_⟩
    ·have hix : i < l.length := by have := of_decide_eq_true h1; omega
     have hdr : l.drop i = l[i] :: l.drop (i + 1) := List.drop_eq_getElem_cons hix
     obtain ⟨y1, mp, u1, o1, y2, u2, o2, hp, hq, g1, g2, g3⟩ := (VPs_nth hl hix).out
     have hbm := bulkVs_mem hix
     rw [hdr, allVs] at hin
     (conv => whnf); repeat ((apply And.intro;· exact Cl2); conv => whnf)
     refine ⟨fun _ => ⟨by omega, by rw [hlp]; omega⟩, ?_⟩
     (conv => whnf); repeat ((apply And.intro;· exact Cl2); conv => whnf)
     rw [Int.toNat_natCast, hp]
     (conv => whnf); repeat ((apply And.intro;· exact Cl2); conv => whnf)
     refine ih l[i].k l[i].n l[i].s l[i].l l[i].ns (by rw [V.eta]; omega) (by omega) y1 y2 mp u1 u2 _ hq g1 g2 ?_
     rw [V.eta]
     (conv => whnf); repeat ((apply And.intro;· exact Cl2); conv => whnf)
     refine ⟨fun h2 => ?_, fun h2 => ?_⟩
     ·have h2' : allV l[i] = false := by simpa using h2
      (conv => whnf); repeat ((apply And.intro;· exact Cl2); conv => whnf)
      rw [hin, h2'] at h
      exact h
     ·have h2' : allV l[i] = true := by simpa using h2
      (conv => whnf); repeat ((apply And.intro;· exact Cl2); conv => whnf)
      rw [wrap64 (by omega) (by omega)]
      refine ⟨[], i + 1, ⟨hix, by rw [hin, h2']; rfl⟩, by show l.length - (i + 1) < l.length - i; omega, ?_⟩
      simp [meets, ghosts, St.le, St.get, look, keys, PV.labs, labsL, lookB, Blk.labs]
    ·have hix : i = l.length := by have := of_decide_eq_false h1; omega
     rw [hin, hix, List.drop_length] at h
     (conv => whnf); repeat ((apply And.intro;· exact Cl2); conv => whnf)
     exact h
theorem mayV_eq (v : V) : mayV v = (decide (depthV v ≤ 8) && decide (sizeV v ≤ 256) && allV v) := by
 unfold mayV okV
 rw [Nat.zero_add]
 congr 2
 exact decide_eq_decide.2 (by omega)
set_option maxHeartbeats 8000000 in
theorem may_spec (v : V) (z1 z2 : Nat) (lp : List PV) (t1 t2 : Bool) (Post : PV → List (Nat × Blk) → Prop) (a : VA v z1 lp z2) (h : Post (.bool (mayV v)) []) :
  Spec K 41 [.agg (vc v z1 lp t1 z2 t2)] [] Post := by
 refine is41.specW K_ok K_mix false (by simp) (by simp [keys]) ?_
 have hb := a.b
 rw [← V.eta v] at hb
 (conv => whnf); repeat ((apply And.intro;· exact Cl2); conv => whnf)
 refine depth_spec 100000000000 v.k v.n v.s v.l v.ns hb (by omega) z1 z2 lp t1 t2 _ a.l a.z1 a.z2 ?_
 rw [V.eta] at hb ⊢
 (conv => whnf); repeat ((apply And.intro;· exact Cl2); conv => whnf)
 have e1 : decide ((depthV v : Int) ≤ 8) = decide (depthV v ≤ 8) := decide_eq_decide.2 (by omega)
 have e2 : decide ((sizeV v : Int) ≤ 256) = decide (sizeV v ≤ 256) := decide_eq_decide.2 (by omega)
 rw [mayV_eq] at h
 rw [e1]
 refine ⟨fun _ h1 => ?_, fun h1 => ?_⟩
 ·rw [h1] at h ⊢
  (conv => whnf); repeat ((apply And.intro;· exact Cl2); conv => whnf)
  rw [← V.eta v] at hb
  refine size_spec 100000000000 v.k v.n v.s v.l v.ns hb (by omega) z1 z2 lp t1 t2 _ a.l a.z1 a.z2 ?_
  rw [V.eta] at hb ⊢
  (conv => whnf); repeat ((apply And.intro;· exact Cl2); conv => whnf)
  rw [e2]
  refine ⟨fun _ h2 => ?_, fun h2 => ?_⟩
  ·have h2' : decide (sizeV v ≤ 256) = true := h2
   rw [h2] at ⊢
   rw [h2'] at h
   (conv => whnf); repeat ((apply And.intro;· exact Cl2); conv => whnf)
   rw [← V.eta v] at hb
   refine all_spec 100000000000 v.k v.n v.s v.l v.ns hb (by omega) z1 z2 lp t1 t2 _ a.l a.z1 a.z2 ?_
   rw [V.eta]
   (conv => whnf); repeat ((apply And.intro;· exact Cl2); conv => whnf)
   exact h
  ·have h2' : decide (sizeV v ≤ 256) = false := h2 rfl
   rw [h2']
   rw [h2'] at h
   (conv => whnf); repeat ((apply And.intro;· exact Cl2); conv => whnf)
   exact h
 ·have h1' := h1 rfl
  rw [h1'] at h ⊢
  (conv => whnf); repeat ((apply And.intro;· exact Cl2); conv => whnf)
  refine ⟨fun _ h2 => (by cases h2), fun _ => ?_⟩
  (conv => whnf); repeat ((apply And.intro;· exact Cl2); conv => whnf)
  exact h
end Go.Vc
namespace Go.Vc
open Go Go.Proofs
set_option maxRecDepth 100000
def cmpI (a b : Int) : Int := if a < b then -1 else if b < a then 1 else 0
def cmpS (a b : List UInt8) : Int := if Op.bytesLess a b = true then -1 else if (Op.bytesLess a b || a == b) = true then 0 else 1
def cmpNs : List (List UInt8) → List (List UInt8) → Int
 | [], [] => 0
 | [], _ :: _ => -1
 | _ :: _, [] => 1
 | a :: r, b :: q => if a = b then cmpNs r q else cmpS a b
mutual
def cmpV : V → V → Int
 | .mk k n s l ns, w => if k ≠ w.k then cmpI k w.k else if n ≠ w.n then cmpI n w.n else if s ≠ w.s then cmpS s w.s else if cmpNs ns w.ns ≠ 0 then cmpNs ns w.ns else cmpVs l w.l
def cmpVs : List V → List V → Int
 | [], [] => 0
 | [], _ :: _ => -1
 | _ :: _, [] => 1
 | v :: r, w :: q => if cmpV v w ≠ 0 then cmpV v w else cmpVs r q
end
theorem cmpV_mk (k n : Int) (s : List UInt8) (l : List V) (ns : List (List UInt8)) (k' n' : Int) (s' : List UInt8) (l' : List V) (ns' : List (List UInt8)) :
  cmpV (.mk k n s l ns) (.mk k' n' s' l' ns') = if k ≠ k' then cmpI k k' else if n ≠ n' then cmpI n n' else if s ≠ s' then cmpS s s' else if cmpNs ns ns' ≠ 0 then cmpNs ns ns' else cmpVs l l' := by
 rw [cmpV]; rfl
theorem cmpS_ne {a b : List UInt8} (h : a ≠ b) : cmpS a b ≠ 0 := by
 unfold cmpS
 split
 ·simp
 ·rename_i h1
  rw [if_neg (by simp [h1, h])]; simp
theorem number_spec2 (a b : Int) (Post : PV → List (Nat × Blk) → Prop) (h : Post (.int .i64 (cmpI a b)) []) : Spec K 114 [.int .i64 a, .int .i64 b] [] Post := by
 refine is114.specW K_ok K_mix false (by simp) (by simp [keys]) ?_
 (conv => whnf); repeat ((apply And.intro;· exact Cl2); conv => whnf)
 refine ⟨fun h1 => ?_, fun h1 => ?_⟩
 ·have h1' : a < b := of_decide_eq_true h1
  (conv => whnf); repeat ((apply And.intro;· exact Cl2); conv => whnf)
  rwa [cmpI, if_pos h1'] at h
 ·have h1' : ¬ a < b := of_decide_eq_false h1
  (conv => whnf); repeat ((apply And.intro;· exact Cl2); conv => whnf)
  refine ⟨fun h2 => ?_, fun h2 => ?_⟩
  ·have h2' : b < a := of_decide_eq_true h2
   (conv => whnf); repeat ((apply And.intro;· exact Cl2); conv => whnf)
   rwa [cmpI, if_neg h1', if_pos h2'] at h
  ·have h2' : ¬ b < a := of_decide_eq_false h2
   (conv => whnf); repeat ((apply And.intro;· exact Cl2); conv => whnf)
   rwa [cmpI, if_neg h1', if_neg h2'] at h
theorem textC_spec (a b : List UInt8) (Post : PV → List (Nat × Blk) → Prop) (h : Post (.int .i64 (cmpS a b)) []) : Spec K 115 [.str a, .str b] [] Post := by
 refine is115.specW K_ok K_mix false (by simp) (by simp [keys]) ?_
 (conv => whnf); repeat ((apply And.intro;· exact Cl2); conv => whnf)
 refine ⟨fun h1 => ?_, fun h1 => ?_⟩
 ·(conv => whnf); repeat ((apply And.intro;· exact Cl2); conv => whnf)
  rwa [cmpS, if_pos h1] at h
 ·have h1' : ¬ Op.bytesLess a b = true := by rw [h1]; simp
  (conv => whnf); repeat ((apply And.intro;· exact Cl2); conv => whnf)
  refine ⟨fun h2 => ?_, fun h2 => ?_⟩
  ·have h2' : ¬ (Op.bytesLess a b || a == b) = true := fun hh => by rw [hh] at h2; cases h2
   (conv => whnf); repeat ((apply And.intro;· exact Cl2); conv => whnf)
   rwa [cmpS, if_neg h1', if_neg h2'] at h
  ·have h2' : (Op.bytesLess a b || a == b) = true := by
    cases hh : (Op.bytesLess a b || a == b) with
    | true => rfl
    | false => rw [hh] at h2; cases h2
   (conv => whnf); repeat ((apply And.intro;· exact Cl2); conv => whnf)
   rwa [cmpS, if_neg h1', if_pos h2'] at h
theorem cmpNs_end {a b : List (List UInt8)} {i : Nat} (hi : i ≤ a.length) (hj : i ≤ b.length) (h : ¬ (i < a.length ∧ i < b.length)) : cmpNs (a.drop i) (b.drop i) = cmpI a.length b.length := by
 rcases Nat.lt_or_ge i a.length with h1 | h1
 ·have h2 : i = b.length := by omega
  rw [h2, List.drop_length, List.drop_eq_getElem_cons (by omega), cmpNs, cmpI, if_neg (by omega), if_pos (by omega)]
 ·have h2 : i = a.length := by omega
  rcases Nat.lt_or_ge i b.length with h3 | h3
  ·rw [h2, List.drop_length, List.drop_eq_getElem_cons (by omega), cmpNs, cmpI, if_pos (by omega)]
  ·rw [h2, List.drop_length, List.drop_eq_nil_of_le (by omega), cmpNs, cmpI, if_neg (by omega), if_neg (by omega)]
theorem cmpVs_end {a b : List V} {i : Nat} (hi : i ≤ a.length) (hj : i ≤ b.length) (h : ¬ (i < a.length ∧ i < b.length)) : cmpVs (a.drop i) (b.drop i) = cmpI a.length b.length := by
 rcases Nat.lt_or_ge i a.length with h1 | h1
 ·have h2 : i = b.length := by omega
  rw [h2, List.drop_length, List.drop_eq_getElem_cons (by omega), cmpVs, cmpI, if_neg (by omega), if_pos (by omega)]
 ·have h2 : i = a.length := by omega
  rcases Nat.lt_or_ge i b.length with h3 | h3
  ·rw [h2, List.drop_length, List.drop_eq_getElem_cons (by omega), cmpVs, cmpI, if_pos (by omega)]
  ·rw [h2, List.drop_length, List.drop_eq_nil_of_le (by omega), cmpVs, cmpI, if_neg (by omega), if_neg (by omega)]
theorem cmpI_ne {a b : Int} (h : a ≠ b) : cmpI a b ≠ 0 := by
 unfold cmpI
 split
 ·simp
 ·split
  ·simp
  ·omega
set_option maxHeartbeats 16000000 in
theorem compare_spec (N : Nat) : ∀ (k n : Int) (s : List UInt8) (l : List V) (ns : List (List UInt8)) (w : V), bulkV (.mk k n s l ns) ≤ N → N ≤ 100000000000 → bulkV w ≤ 100000000000 → ∀ (z1 z2 : Nat) (lp : List PV) (t1 t2 : Bool) (x1 x2 : Nat) (mp : List PV) (u1 u2 : Bool) (Post : PV → List (Nat × Blk) → Prop),
  VPs l lp → (z1 = 5 ∨ l = []) → (z2 = 1 ∨ ns = []) → VPs w.l mp → (x1 = 5 ∨ w.l = []) → (x2 = 1 ∨ w.ns = []) → Post (.int .i64 (cmpV (.mk k n s l ns) w)) [] →
  Spec K 92 [.agg [.int .i64 k, .int .i64 n, .str s, .sl z1 lp t1 true, .sl z2 (strs ns) t2 true], .agg [.int .i64 w.k, .int .i64 w.n, .str w.s, .sl x1 mp u1 true, .sl x2 (strs w.ns) u2 true]] [] Post := by
 induction N with
 | zero => intro k n s l ns w h; exact absurd (bulkV_pos (.mk k n s l ns)) (by omega)
 | succ N ih =>
  intro k n s l ns w hs hN hw z1 z2 lp t1 t2 x1 x2 mp u1 u2 Post hl hz1 hz2 hm hx1 hx2 h
  obtain ⟨k', n', s', l', ns'⟩ := w
  simp only [V.k, V.n, V.s, V.l, V.ns] at *
  have hlp := VPs_len hl
  have hmp := VPs_len hm
  have hz1' : z1 = 5 ∨ lp = [] := hz1.imp (fun h => h) fun h => by rw [h] at hlp; exact List.length_eq_zero_iff.1 hlp
  have hx1' : x1 = 5 ∨ mp = [] := hx1.imp (fun h => h) fun h => by rw [h] at hmp; exact List.length_eq_zero_iff.1 hmp
  have hz2' : z2 = 1 ∨ strs ns = [] := hz2.imp (fun h => h) fun h => by rw [h]; rfl
  have hx2' : x2 = 1 ∨ strs ns' = [] := hx2.imp (fun h => h) fun h => by rw [h]; rfl
  have hs' := hs
  have hw' := hw
  simp only [bulkV] at hs' hw'
  have hnb := nsBulk_le ns
  have hlb := len_sizeVs l
  have hsb := sizes_bulk l
  have hnb' := nsBulk_le ns'
  have hlb' := len_sizeVs l'
  have hsb' := sizes_bulk l'
  refine is92.specW K_ok K_mix false (by simp) (by simp [keys]) ?_
  rw [cmpV_mk] at h
  (conv => whnf); repeat ((apply And.intro;· exact Cl2); conv => whnf)
  refine ⟨fun h1 => ?_, fun h1 => ?_⟩
  ·have h1' : k ≠ k' := by simpa using h1
   rw [if_pos h1'] at h
   (conv => whnf); repeat ((apply And.intro;· exact Cl2); conv => whnf)
   refine number_spec2 _ _ _ ?_
   (conv => whnf); repeat ((apply And.intro;· exact Cl2); conv => whnf)
   exact h
  ·have h1' : ¬ k ≠ k' := by simpa using h1
   rw [if_neg h1'] at h
   (conv => whnf); repeat ((apply And.intro;· exact Cl2); conv => whnf)
   refine ⟨fun h2 => ?_, fun h2 => ?_⟩
   ·have h2' : n ≠ n' := by simpa using h2
    rw [if_pos h2'] at h
    (conv => whnf); repeat ((apply And.intro;· exact Cl2); conv => whnf)
    refine number_spec2 _ _ _ ?_
    (conv => whnf); repeat ((apply And.intro;· exact Cl2); conv => whnf)
    exact h
   ·have h2' : ¬ n ≠ n' := by simpa using h2
    rw [if_neg h2'] at h
    (conv => whnf); repeat ((apply And.intro;· exact Cl2); conv => whnf)
    refine ⟨fun h3 => ?_, fun h3 => ?_⟩
    ·have h3' : s ≠ s' := by simpa using h3
     rw [if_pos h3'] at h
     (conv => whnf); repeat ((apply And.intro;· exact Cl2); conv => whnf)
     refine textC_spec _ _ _ ?_
     (conv => whnf); repeat ((apply And.intro;· exact Cl2); conv => whnf)
     exact h
    ·have h3' : ¬ s ≠ s' := by simpa using h3
     rw [if_neg h3'] at h
     (conv => whnf); repeat ((apply And.intro;· exact Cl2); conv => whnf)
     refine ⟨Nat, fun i => ⟨123, [(5, .int .i64 i), (4, .int .i64 0), (3, .ptr 1 0), (2, .ptr 0 0)], [(0, .box [.int .i64 k, .int .i64 n, .str s, .sl z1 lp t1 true, .sl z2 (strs ns) t2 true]), (1, .box [.int .i64 k', .int .i64 n', .str s', .sl x1 mp u1 true, .sl x2 (strs ns') u2 true])], []⟩,
      fun i => i ≤ ns.length ∧ i ≤ ns'.length ∧ cmpNs ns ns' = cmpNs (ns.drop i) (ns'.drop i), fun i => ns.length - i, ⟨[], 0, ⟨Nat.zero_le _, Nat.zero_le _, rfl⟩, ?_⟩, fun i hI => ?_⟩
     ·simp [meets, ghosts, St.le, St.get, look, keys, PV.labs, labsL, lookB, Blk.labs]
     ·obtain ⟨hi, hi2, hin⟩ := hI
      conv => (arg 5; dsimp only)
      (conv => whnf); repeat ((apply And.intro;· exact Cl2); conv => whnf)
      rw [strs_len, strs_len]
      refine ⟨fun h4 => ?_, fun h4 => ?_⟩
      ·have h5 : i < ns.length ∧ i < ns'.length := by
        by_cases h6 : (i : Int) < ns.length
        ·simp [h6] at h4; omega
        ·simp [h6] at h4
       have hix := h5.1
       have hix' := h5.2
       have hdr : ns.drop i = ns[i] :: ns.drop (i + 1) := List.drop_eq_getElem_cons hix
       have hdr' : ns'.drop i = ns'[i] :: ns'.drop (i + 1) := List.drop_eq_getElem_cons hix'
       rw [hdr, hdr', cmpNs] at hin
       have hb1 : True → (0 : Int) ≤ (i : Int) ∧ (i : Int) < ((strs ns).length : Int) := fun _ => ⟨by omega, by rw [strs_len]; omega⟩
       have hb2 : True → (0 : Int) ≤ (i : Int) ∧ (i : Int) < ((strs ns').length : Int) := fun _ => ⟨by omega, by rw [strs_len]; omega⟩
       have hn1 : nth (strs ns) ((i : Int)).toNat = .str ns[i] := by rw [Int.toNat_natCast, nth_strs hix]
       have hn2 : nth (strs ns') ((i : Int)).toNat = .str ns'[i] := by rw [Int.toNat_natCast, nth_strs hix']
       (conv => whnf); repeat' (first | ((apply And.intro;· exact Cl2); conv => whnf) | (rw [hn1]; conv => whnf) | (rw [hn2]; conv => whnf) | ((refine Both.mk ?_ ?_ <;> fail_if_success (intro _)) <;> conv => whnf))
       all_goals (
        refine ⟨fun h6 => ?_, fun h6 => ?_⟩
        ·have h6' : ¬ ns[i] = ns'[i] := by simpa using h6
         rw [if_neg h6'] at hin
         have hne := cmpS_ne h6'
         rw [if_pos (by rw [hin]; exact hne), hin] at h
         (conv => whnf); repeat' (first | ((apply And.intro;· exact Cl2); conv => whnf) | (rw [hn1]; conv => whnf) | (rw [hn2]; conv => whnf) | ((refine Both.mk ?_ ?_ <;> fail_if_success (intro _)) <;> conv => whnf))
         all_goals (
          refine textC_spec _ _ _ ?_
          (conv => whnf); repeat ((apply And.intro;· exact Cl2); conv => whnf)
          exact h)
        ·have h6' : ns[i] = ns'[i] := by simpa using h6
         rw [if_pos h6'] at hin
         (conv => whnf); repeat ((apply And.intro;· exact Cl2); conv => whnf)
         rw [wrap64 (by omega) (by omega)]
         refine ⟨[], i + 1, ⟨hix, hix', hin⟩, by show ns.length - (i + 1) < ns.length - i; omega, ?_⟩
         simp [meets, ghosts, St.le, St.get, look, keys, PV.labs, labsL, lookB, Blk.labs])
      ·have h5 : ¬ (i < ns.length ∧ i < ns'.length) := by
        by_cases h6 : (i : Int) < ns.length
        ·simp [h6] at h4; omega
        ·omega
       have he := cmpNs_end hi hi2 h5
       rw [← hin] at he
       rw [he] at h
       (conv => whnf); repeat ((apply And.intro;· exact Cl2); conv => whnf)
       rw [strs_len, strs_len]
       clear hin hi hi2 h4 h5
       refine ⟨fun h7 => ?_, fun h7 => ?_⟩
       ·have h7' : (ns.length : Int) ≠ ns'.length := by simpa using h7
        rw [if_pos (cmpI_ne h7')] at h
        (conv => whnf); repeat ((apply And.intro;· exact Cl2); conv => whnf)
        rw [strs_len, strs_len]
        refine number_spec2 _ _ _ ?_
        (conv => whnf); repeat ((apply And.intro;· exact Cl2); conv => whnf)
        exact h
       ·have h7' : (ns.length : Int) = ns'.length := by simpa using h7
        have h8 : cmpI ns.length ns'.length = 0 := by rw [h7', cmpI, if_neg (by omega), if_neg (by omega)]
        rw [if_neg (by rw [h8]; simp)] at h
        (conv => whnf); repeat ((apply And.intro;· exact Cl2); conv => whnf)
        clear he
        refine ⟨Nat, fun i => ⟨123, [(6, .int .i64 i), (4, .int .i64 0), (3, .ptr 1 0), (2, .ptr 0 0)], [(0, .box [.int .i64 k, .int .i64 n, .str s, .sl z1 lp t1 true, .sl z2 (strs ns) t2 true]), (1, .box [.int .i64 k', .int .i64 n', .str s', .sl x1 mp u1 true, .sl x2 (strs ns') u2 true])], []⟩,
         fun i => i ≤ l.length ∧ i ≤ l'.length ∧ cmpVs l l' = cmpVs (l.drop i) (l'.drop i), fun i => l.length - i, ⟨[], 0, ⟨Nat.zero_le _, Nat.zero_le _, rfl⟩, ?_⟩, fun i hI => ?_⟩
        ·simp [meets, ghosts, St.le, St.get, look, keys, PV.labs, labsL, lookB, Blk.labs]
        ·obtain ⟨hi, hi2, hin⟩ := hI
         conv => (arg 5; dsimp only)
         (conv => whnf); repeat ((apply And.intro;· exact Cl2); conv => whnf)
         rw [hlp, hmp]
         refine ⟨fun h4 => ?_, fun h4 => ?_⟩
         ·have h5 : i < l.length ∧ i < l'.length := by
           by_cases h6 : (i : Int) < l.length
           ·simp [h6] at h4; omega
           ·simp [h6] at h4
          have hix := h5.1
          have hix' := h5.2
          have hdr : l.drop i = l[i] :: l.drop (i + 1) := List.drop_eq_getElem_cons hix
          have hdr' : l'.drop i = l'[i] :: l'.drop (i + 1) := List.drop_eq_getElem_cons hix'
          rw [hdr, hdr', cmpVs] at hin
          obtain ⟨y1, lp2, v1, o1, y2, v2, o2, hp, hq, g1, g2, g3⟩ := (VPs_nth hl hix).out
          obtain ⟨y1', mp2, v1', o1', y2', v2', o2', hp', hq', g1', g2', g3'⟩ := (VPs_nth hm hix').out
          have hbm := bulkVs_mem hix
          have hbm' := bulkVs_mem hix'
          have hb1 : True → (0 : Int) ≤ (i : Int) ∧ (i : Int) < (lp.length : Int) := fun _ => ⟨by omega, by omega⟩
          have hb2 : True → (0 : Int) ≤ (i : Int) ∧ (i : Int) < (mp.length : Int) := fun _ => ⟨by omega, by omega⟩
          have hn1 := (congrArg (nth lp) (Int.toNat_natCast i)).trans hp
          have hn2 := (congrArg (nth mp) (Int.toNat_natCast i)).trans hp'
          (conv => whnf); repeat' (first | ((apply And.intro;· exact Cl2); conv => whnf) | (rw [hn1]; conv => whnf) | (rw [hn2]; conv => whnf) | ((refine Both.mk ?_ ?_ <;> fail_if_success (intro _)) <;> conv => whnf))
          all_goals (
           refine ih l[i].k l[i].n l[i].s l[i].l l[i].ns l'[i] (by rw [V.eta]; omega) (by omega) (by omega) y1 y2 lp2 v1 v2 y1' y2' mp2 v1' v2' _ hq g1 g2 hq' g1' g2' ?_
           rw [V.eta]
           (conv => whnf); repeat ((apply And.intro;· exact Cl2); conv => whnf)
           refine ⟨fun h6 => ?_, fun h6 => ?_⟩
           ·have h6' : cmpV l[i] l'[i] ≠ 0 := by simpa using h6
            rw [if_pos h6'] at hin
            rw [hin] at h
            (conv => whnf); repeat ((apply And.intro;· exact Cl2); conv => whnf)
            exact h
           ·have h6' : ¬ cmpV l[i] l'[i] ≠ 0 := by simpa using h6
            rw [if_neg h6'] at hin
            (conv => whnf); repeat ((apply And.intro;· exact Cl2); conv => whnf)
            rw [wrap64 (by omega) (by omega)]
            refine ⟨[], i + 1, ⟨hix, hix', hin⟩, by show l.length - (i + 1) < l.length - i; omega, ?_⟩
            simp [meets, ghosts, St.le, St.get, look, keys, PV.labs, labsL, lookB, Blk.labs])
         ·have h5 : ¬ (i < l.length ∧ i < l'.length) := by
           by_cases h6 : (i : Int) < l.length
           ·simp [h6] at h4; omega
           ·omega
          have he := cmpVs_end hi hi2 h5
          rw [← hin] at he
          rw [he] at h
          (conv => whnf); repeat ((apply And.intro;· exact Cl2); conv => whnf)
          rw [hlp, hmp]
          refine number_spec2 _ _ _ ?_
          (conv => whnf); repeat ((apply And.intro;· exact Cl2); conv => whnf)
          exact h
def sameV (a b : V) : Bool := cmpV a b == 0
set_option maxHeartbeats 8000000 in
theorem sameR_spec (v w : V) (z1 z2 : Nat) (lp : List PV) (t1 t2 : Bool) (x1 x2 : Nat) (mp : List PV) (u1 u2 : Bool) (Post : PV → List (Nat × Blk) → Prop) (a : VA v z1 lp z2) (b : VA w x1 mp x2)
  (h : Post (.bool (sameV v w)) []) : Spec K 66 [.agg (vc v z1 lp t1 z2 t2), .agg (vc w x1 mp u1 x2 u2)] [] Post := by
 refine is66.specW K_ok K_mix false (by simp) (by simp [keys]) ?_
 (conv => whnf); repeat ((apply And.intro;· exact Cl2); conv => whnf)
 refine compare_spec 100000000000 v.k v.n v.s v.l v.ns w (by rw [V.eta]; exact a.b) (by omega) b.b z1 z2 lp t1 t2 x1 x2 mp u1 u2 _ a.l a.z1 a.z2 b.l b.z1 b.z2 ?_
 rw [V.eta]
 (conv => whnf); repeat ((apply And.intro;· exact Cl2); conv => whnf)
 exact h
def V0 : V := .mk 0 0 [] [] []
end Go.Vc
namespace Go.Vc
open Go Go.Proofs
set_option maxRecDepth 100000
structure EV where
 kind : Int
 flow : Int
 id : Int
 n : Int
 s : List UInt8
 v : V
def ec (e : EV) (z1 : Nat) (lp : List PV) (t1 : Bool) (z2 : Nat) (t2 : Bool) : List PV :=
 [.int .i64 e.kind, .int .i64 e.flow, .int .i64 e.id, .int .i64 e.n, .str e.s, .int .i64 e.v.k, .int .i64 e.v.n, .str e.v.s, .sl z1 lp t1 true, .sl z2 (strs e.v.ns) t2 true]
structure EA (e : EV) (z1 : Nat) (lp : List PV) (z2 : Nat) : Prop where
 v : VA e.v z1 lp z2
 s : e.s.length ≤ 100000000000
 id : i64 e.id
 n : i64 e.n
end Go.Vc
namespace Go.Vc
open Go Go.Proofs
set_option maxRecDepth 100000
end Go.Vc
namespace Go.Vc
open Go Go.Proofs
set_option maxRecDepth 100000
abbrev tp (z : Nat) (b : List UInt8) (t : Bool) (e : Int) : List (Nat × Blk) := [(0, .box [.sl z (bs b) t true, .int .i64 e])]
def failE (e : Int) (is : Bool) (e' : Int) : Int := if e ≠ 0 then e else if is then e' else 0
theorem fail_spec (z : Nat) (b : List UInt8) (t : Bool) (e e' : Int) (is : Bool) (Post : PV → List (Nat × Blk) → Prop) (h : Post (.tup []) (tp z b t (failE e is e'))) : Spec K 125 [.ptr 0 0, .bool is, .int .i64 e'] (tp z b t e) Post := by
 refine is125.spec K_ok K_mix true (by simp) (by simp [keys]) ?_
 by_cases h0 : e = 0
 ·subst h0
  cases is
  ·(conv => whnf); repeat ((first | (apply And.intro;· exact Cl3) | apply T1 | apply T2 | apply T3 | apply T4 | apply T6 | apply T5); conv => whnf)
   exact h
  ·(conv => whnf); repeat ((first | (apply And.intro;· exact Cl3) | apply T1 | apply T2 | apply T3 | apply T4 | apply T6 | apply T5); conv => whnf)
   exact h
 ·have h1 : (e == 0) = false := by simpa using h0
  (conv => whnf); repeat ((first | (apply And.intro;· exact Cl3) | apply T1 | apply T2 | apply T3 | apply T4 | apply T6 | apply T5); conv => whnf)
  rw [h1]
  (conv => whnf); repeat ((first | (apply And.intro;· exact Cl3) | apply T1 | apply T2 | apply T3 | apply T4 | apply T6 | apply T5); conv => whnf)
  simpa [failE, h0] using h
def offE (n : Nat) (b : List UInt8) (e : Int) : Int := failE e (decide (b.length < n)) 3
def offB (n : Nat) (b : List UInt8) (e : Int) : List UInt8 := if offE n b e ≠ 0 then [] else b.take n
def offR (n : Nat) (b : List UInt8) (e : Int) : List UInt8 := if offE n b e ≠ 0 then b else b.drop n
theorem off_spec (z : Nat) (b : List UInt8) (t : Bool) (e : Int) (n : Nat) (hz : z = 1 ∨ b = []) (hb : b.length ≤ 1000000000) (hn : n ≤ 1000) (Post : PV → List (Nat × Blk) → Prop)
  (h : ∀ z' t', (z' = 1 ∨ offB n b e = []) → Post (.sl z' (bs (offB n b e)) false true) (tp z (offR n b e) t' (offE n b e))) : Spec K 127 [.ptr 0 0, .int .i64 n] (tp z b t e) Post := by
 refine is127.specW K_ok K_mix false (by simp) (by simp [keys]) ?_
 (conv => whnf); repeat ((first | (apply And.intro;· exact Cl3) | apply T1 | apply T2 | apply T3 | apply T4 | apply T6 | apply T5); conv => whnf)
 refine fail_spec z b t e 3 _ _ ?_
 rw [bs_len, show decide ((b.length : Int) < (n : Int)) = decide (b.length < n) from decide_eq_decide.2 (by omega)]
 have he : failE e (decide (b.length < n)) 3 = offE n b e := rfl
 rw [he]
 by_cases h0 : offE n b e = 0
 ·have h1 : (offE n b e != 0) = false := by simpa using h0
  have hlen : n ≤ b.length := by
   by_cases hl : b.length < n
   ·unfold offE failE at h0
    split at h0
    ·rename_i h2; exact absurd h0 h2
    ·simp [hl] at h0
   ·omega
  have hz2 : z = 1 ∨ bs b = [] := hz.imp id fun h => by rw [h]; rfl
  have hb1 : True → (0 : Int) ≤ (n : Int) ∧ (n : Int) ≤ ((bs b).length : Int) := fun _ => ⟨by omega, by rw [bs_len]; omega⟩
  (conv => whnf); repeat ((first | (apply And.intro;· exact Cl3) | apply T1 | apply T2 | apply T3 | apply T4 | apply T6 | apply T5); conv => whnf)
  rw [h1]
  (conv => whnf); repeat ((first | (apply And.intro;· exact Cl3) | apply T1 | apply T2 | apply T3 | apply T4 | apply T6 | apply T5); conv => whnf)
  rw [Int.toNat_natCast, List.drop_zero, List.take_of_length_le (l := bs b) (i := (bs b).length) (Nat.le_refl _), bs_take, bs_drop]
  have e1 : offB n b e = b.take n := by rw [offB, if_neg (by rw [h0]; simp)]
  have e2 : offR n b e = b.drop n := by rw [offR, if_neg (by rw [h0]; simp)]
  rw [e1, e2] at h
  exact h z _ (hz.imp id fun h => by rw [h]; simp)
 ·have h1 : (offE n b e != 0) = true := by simpa using h0
  (conv => whnf); repeat ((first | (apply And.intro;· exact Cl3) | apply T1 | apply T2 | apply T3 | apply T4 | apply T6 | apply T5); conv => whnf)
  rw [h1]
  (conv => whnf); repeat ((first | (apply And.intro;· exact Cl3) | apply T1 | apply T2 | apply T3 | apply T4 | apply T6 | apply T5); conv => whnf)
  have e1 : offB n b e = [] := by rw [offB, if_pos h0]
  have e2 : offR n b e = b := by rw [offR, if_pos h0]
  rw [e1, e2] at h
  exact h 0 t (.inr rfl)
def byteN (b : List UInt8) (e : Int) : Nat := if offE 1 b e ≠ 0 then 0 else (b.headD 0).toNat
theorem offE_len {n : Nat} {b : List UInt8} {e : Int} (h : offE n b e = 0) : n ≤ b.length := by
 by_cases hl : b.length < n
 ·unfold offE failE at h
  split at h
  ·rename_i h2; exact absurd h h2
  ·simp [hl] at h
 ·omega
theorem byte_spec (z : Nat) (b : List UInt8) (t : Bool) (e : Int) (hz : z = 1 ∨ b = []) (hb : b.length ≤ 1000000000) (Post : PV → List (Nat × Blk) → Prop)
  (h : ∀ t', Post (.int .i64 (byteN b e)) (tp z (offR 1 b e) t' (offE 1 b e))) : Spec K 126 [.ptr 0 0] (tp z b t e) Post := by
 refine is126.specW K_ok K_mix false (by simp) (by simp [keys]) ?_
 (conv => whnf); repeat ((first | (apply And.intro;· exact Cl3) | apply T1 | apply T2 | apply T3 | apply T4 | apply T6 | apply T5); conv => whnf)
 refine off_spec z b t e 1 hz hb (by omega) _ fun z' t' hz' => ?_
 (conv => whnf); repeat ((first | (apply And.intro;· exact Cl3) | apply T1 | apply T2 | apply T3 | apply T4 | apply T6 | apply T5); conv => whnf)
 rw [bs_len]
 by_cases h0 : offE 1 b e = 0
 ·have hl := offE_len h0
  have e1 : offB 1 b e = [b.headD 0] := by
   rw [offB, if_neg (by rw [h0]; simp)]
   cases b with
   | nil => simp at hl
   | cons c r => rfl
  rw [e1]
  (conv => whnf); repeat ((first | (apply And.intro;· exact Cl3) | apply T1 | apply T2 | apply T3 | apply T4 | apply T6 | apply T5); conv => whnf)
  refine ⟨hz'.imp id fun h => (by rw [e1] at h; cases h), ?_⟩
  (conv => whnf); repeat ((first | (apply And.intro;· exact Cl3) | apply T1 | apply T2 | apply T3 | apply T4 | apply T6 | apply T5); conv => whnf)
  refine ⟨fun _ => ⟨by decide, by rw [bs_len]; simp⟩, ?_⟩
  (conv => whnf); repeat ((first | (apply And.intro;· exact Cl3) | apply T1 | apply T2 | apply T3 | apply T4 | apply T6 | apply T5); conv => whnf)
  rw [wrap64 (by omega) (by have := (b.headD 0).toNat_lt; omega)]
  have := h t'
  rw [byteN, if_neg (by rw [h0]; simp)] at this
  exact this
 ·have e1 : offB 1 b e = [] := by rw [offB, if_pos h0]
  rw [e1]
  (conv => whnf); repeat ((first | (apply And.intro;· exact Cl3) | apply T1 | apply T2 | apply T3 | apply T4 | apply T6 | apply T5); conv => whnf)
  have := h t'
  rw [byteN, if_pos h0] at this
  exact this
def cntE (most : Nat) (b : List UInt8) (e : Int) : Int := failE (offE 1 b e) (decide (most < byteN b e)) 5
def cntN (most : Nat) (b : List UInt8) (e : Int) : Nat := if cntE most b e ≠ 0 then 0 else byteN b e
theorem counts_spec (z : Nat) (b : List UInt8) (t : Bool) (e : Int) (most : Nat) (hm : most ≤ 1000) (hz : z = 1 ∨ b = []) (hb : b.length ≤ 1000000000) (Post : PV → List (Nat × Blk) → Prop)
  (h : ∀ t', Post (.int .i64 (cntN most b e)) (tp z (offR 1 b e) t' (cntE most b e))) : Spec K 129 [.ptr 0 0, .int .i64 most] (tp z b t e) Post := by
 refine is129.specW K_ok K_mix false (by simp) (by simp [keys]) ?_
 (conv => whnf); repeat ((first | (apply And.intro;· exact Cl3) | apply T1 | apply T2 | apply T3 | apply T4 | apply T6 | apply T5); conv => whnf)
 refine byte_spec z b t e hz hb _ fun t' => ?_
 (conv => whnf); repeat ((first | (apply And.intro;· exact Cl3) | apply T1 | apply T2 | apply T3 | apply T4 | apply T6 | apply T5); conv => whnf)
 rw [show decide ((most : Int) < (byteN b e : Int)) = decide (most < byteN b e) from decide_eq_decide.2 (by omega)]
 refine fail_spec z (offR 1 b e) t' (offE 1 b e) 5 _ _ ?_
 have he : failE (offE 1 b e) (decide (most < byteN b e)) 5 = cntE most b e := rfl
 rw [he]
 (conv => whnf); repeat ((first | (apply And.intro;· exact Cl3) | apply T1 | apply T2 | apply T3 | apply T4 | apply T6 | apply T5); conv => whnf)
 have h' := h t'
 by_cases h0 : cntE most b e = 0
 ·have h1 : (cntE most b e != 0) = false := by simpa using h0
  rw [h1]
  (conv => whnf); repeat ((first | (apply And.intro;· exact Cl3) | apply T1 | apply T2 | apply T3 | apply T4 | apply T6 | apply T5); conv => whnf)
  rw [cntN, if_neg (by rw [h0]; simp)] at h'
  exact h'
 ·have h1 : (cntE most b e != 0) = true := by simpa using h0
  rw [h1]
  (conv => whnf); repeat ((first | (apply And.intro;· exact Cl3) | apply T1 | apply T2 | apply T3 | apply T4 | apply T6 | apply T5); conv => whnf)
  rw [cntN, if_pos h0] at h'
  exact h'
end Go.Vc
namespace Go.Vc
open Go Go.Proofs
set_option maxRecDepth 100000
def n8 (l : List UInt8) : Int := l.foldl (fun n c => bitsI .or .i64 (IntKind.i64.wrap (n * 2 ^ 8)) (c.toNat : Int)) 0
theorem wrap_def (n : Int) : IntKind.i64.wrap n = if 9223372036854775808 ≤ n % 18446744073709551616 then n % 18446744073709551616 - 18446744073709551616 else n % 18446744073709551616 := by
 show (if (true && decide (n % 18446744073709551616 ≥ 9223372036854775808)) = true then n % 18446744073709551616 - 18446744073709551616 else n % 18446744073709551616) = _
 by_cases h : 9223372036854775808 ≤ n % 18446744073709551616
 ·rw [if_pos (by rw [decide_eq_true h]; rfl), if_pos h]
 ·rw [if_neg (by rw [decide_eq_false (show ¬ (n % 18446744073709551616 ≥ 9223372036854775808) from h)]; decide), if_neg h]
theorem wrap_congr {a b : Int} (h : a % 18446744073709551616 = b % 18446744073709551616) : IntKind.i64.wrap a = IntKind.i64.wrap b := by
 rw [wrap_def, wrap_def, h]
theorem wrap_mod (a : Int) : IntKind.i64.wrap a % 18446744073709551616 = a % 18446744073709551616 := by
 rw [wrap_def]
 split <;> omega
theorem wrap_i64 (a : Int) : i64 (IntKind.i64.wrap a) := by
 unfold i64
 rw [wrap_def]
 split <;> constructor <;> omega
theorem ofInt_mod (a : Int) (N : Nat) (h : a % 18446744073709551616 = (N : Int) % 18446744073709551616) : BitVec.ofInt 64 a = BitVec.ofNat 64 N := by
 apply BitVec.eq_of_toNat_eq
 rw [BitVec.toNat_ofInt, BitVec.toNat_ofNat]
 have h' : a % ((2 ^ 64 : Nat) : Int) = (N : Int) % 18446744073709551616 := h
 rw [h']
 omega
theorem orW (N c : Nat) (hc : c < 256) : bitsI .or .i64 (IntKind.i64.wrap (IntKind.i64.wrap (N : Int) * 2 ^ 8)) (c : Int) = IntKind.i64.wrap ((N * 256 + c : Nat) : Int) := by
 have h1 : IntKind.i64.wrap (IntKind.i64.wrap (N : Int) * 2 ^ 8) % 18446744073709551616 = (IntKind.i64.wrap (N : Int) * 256) % 18446744073709551616 := wrap_mod (IntKind.i64.wrap (N : Int) * 2 ^ 8)
 have h2 := wrap_mod (N : Int)
 generalize hA : IntKind.i64.wrap (IntKind.i64.wrap (N : Int) * 2 ^ 8) = A at *
 generalize IntKind.i64.wrap (N : Int) = B at *
 unfold bitsI
 show IntKind.i64.wrap (((BitVec.ofInt 64 A ||| BitVec.ofInt 64 (c : Int)).toNat : Nat) : Int) = _
 rw [ofInt_mod A (N % 72057594037927936 * 256) (by omega), BitVec.ofInt_natCast, BitVec.toNat_or, BitVec.toNat_ofNat, BitVec.toNat_ofNat, Nat.mod_eq_of_lt (a := N % 72057594037927936 * 256) (by omega), Nat.mod_eq_of_lt (a := c) (by omega)]
 have := Nat.shiftLeft_add_eq_or_of_lt (i := 8) hc (N % 72057594037927936)
 rw [Nat.shiftLeft_eq] at this
 rw [show (256 : Nat) = 2 ^ 8 from rfl, ← this]
 apply wrap_congr
 omega
theorem n8_go : ∀ (l : List UInt8) (N : Nat), l.foldl (fun n c => bitsI .or .i64 (IntKind.i64.wrap (n * 2 ^ 8)) (c.toNat : Int)) (IntKind.i64.wrap (N : Int)) = IntKind.i64.wrap ((horner N l : Nat) : Int)
 | [], N => rfl
 | c :: r, N => by
  rw [List.foldl_cons, orW N c.toNat c.toNat_lt, n8_go r]
  rfl
theorem n8_eq (l : List UInt8) : n8 l = IntKind.i64.wrap ((horner 0 l : Nat) : Int) := n8_go l 0
theorem n8_i64 (l : List UInt8) : i64 (n8 l) := by rw [n8_eq]; exact wrap_i64 _
theorem n8_snoc (l : List UInt8) (i : Nat) (h : i < l.length) : n8 (l.take (i + 1)) = bitsI .or .i64 (IntKind.i64.wrap (n8 (l.take i) * 2 ^ 8)) (l[i].toNat : Int) := by
 unfold n8
 rw [List.take_add_one, List.getElem?_eq_getElem h, List.foldl_append]
 rfl
def cntP (most : Nat) : List UInt8 → Except Int (Nat × List UInt8)
 | [] => .error 3
 | c :: r => if most < c.toNat then .error 5 else .ok (c.toNat, r)
def takeP (n : Nat) (b : List UInt8) : Except Int (List UInt8 × List UInt8) := if b.length < n then .error 3 else .ok (b.take n, b.drop n)
def textP (most : Nat) (b : List UInt8) : Except Int (List UInt8 × List UInt8) :=
 match cntP most b with
 | .error e => .error e
 | .ok (n, r) => takeP n r
abbrev VPar := List UInt8 → Except Int (V × List UInt8)
def listP (f : VPar) : Nat → List UInt8 → Except Int (List V × List UInt8)
 | 0, b => .ok ([], b)
 | n + 1, b => match f b with
  | .error e => .error e
  | .ok (v, r) => match listP f n r with
   | .error e => .error e
   | .ok (l, r) => .ok (v :: l, r)
def recP (f : VPar) : Nat → List UInt8 → Except Int ((List (List UInt8) × List V) × List UInt8)
 | 0, b => .ok (([], []), b)
 | n + 1, b => match textP 16 b with
  | .error e => .error e
  | .ok (s, r) => match f r with
   | .error e => .error e
   | .ok (v, r) => match recP f n r with
    | .error e => .error e
    | .ok ((ns, l), r) => .ok ((s :: ns, v :: l), r)
def bodyP (f : VPar) (k : Nat) (r : List UInt8) : Except Int (V × List UInt8) :=
 if k = 0 then .ok (.mk 0 0 [] [] [], r)
 else if k = 1 then match takeP 8 r with
  | .error e => .error e
  | .ok (l, r) => .ok (.mk 1 (n8 l) [] [] [], r)
 else if k = 2 then match takeP 1 r with
  | .error e => .error e
  | .ok (l, r) => if 1 < (l.headD 0).toNat then .error 4 else .ok (.mk 2 (l.headD 0).toNat [] [] [], r)
 else if k = 3 then match textP 64 r with
  | .error e => .error e
  | .ok (s, r) => .ok (.mk 3 0 s [] [], r)
 else if k = 4 then match cntP 32 r with
  | .error e => .error e
  | .ok (n, r) => match listP f n r with
   | .error e => .error e
   | .ok (l, r) => .ok (.mk 4 0 [] l [], r)
 else if k = 5 then match cntP 8 r with
  | .error e => .error e
  | .ok (n, r) => match recP f n r with
   | .error e => .error e
   | .ok ((ns, l), r) => .ok (.mk 5 0 [] l ns, r)
 else match takeP 1 r with
  | .error e => .error e
  | .ok (l, r) => .ok (.mk 6 (l.headD 0).toNat [] [] [], r)
def parseV : Nat → VPar
 | _, [] => .error 3
 | 0, _ :: _ => .error 5
 | d + 1, c :: r => if 6 < c.toNat then .error 4 else bodyP (parseV d) c.toNat r
end Go.Vc
namespace Go.Vc
open Go Go.Proofs
set_option maxRecDepth 100000
def lift {α : Type} (e : Int) (p : Except Int α) : Except Int α := if e ≠ 0 then .error e else p
theorem lift0 {α : Type} (p : Except Int α) : lift 0 p = p := rfl
theorem liftE {α : Type} {e : Int} (h : e ≠ 0) (p : Except Int α) : lift e p = .error e := if_pos h
def is345 (e : Int) : Prop := e = 3 ∨ e = 4 ∨ e = 5
theorem is345_ne {e : Int} (h : is345 e) : e ≠ 0 := by rcases h with rfl | rfl | rfl <;> decide
theorem cnt_err {m : Nat} {b : List UInt8} {e : Int} (h : cntP m b = .error e) : is345 e := by
 cases b with
 | nil => cases h; exact .inl rfl
 | cons c r => simp only [cntP] at h; split at h <;> cases h; exact .inr (.inr rfl)
theorem takeP_err {n : Nat} {b : List UInt8} {e : Int} (h : takeP n b = .error e) : e = 3 := by
 unfold takeP at h; split at h <;> cases h; rfl
theorem text_err {m : Nat} {b : List UInt8} {e : Int} (h : textP m b = .error e) : is345 e := by
 unfold textP at h
 split at h
 ·rename_i e' he; cases h; exact cnt_err he
 ·exact .inl (takeP_err h)
theorem cnt_ok {m : Nat} {b : List UInt8} {n : Nat} {r : List UInt8} (h : cntP m b = .ok (n, r)) : b = UInt8.ofNat n :: r ∧ n ≤ m ∧ n < 256 := by
 cases b with
 | nil => cases h
 | cons c l =>
  simp only [cntP] at h
  split at h
  ·cases h
  ·cases h
   refine ⟨?_, by omega, c.toNat_lt⟩
   rw [UInt8.ofNat_toNat]
theorem takeP_ok {n : Nat} {b s r : List UInt8} (h : takeP n b = .ok (s, r)) : b = s ++ r ∧ s.length = n := by
 unfold takeP at h
 split at h
 ·cases h
 ·cases h
  refine ⟨(List.take_append_drop n b).symm, ?_⟩
  rw [List.length_take]; omega
theorem text_ok {m : Nat} {b s r : List UInt8} (h : textP m b = .ok (s, r)) : b = UInt8.ofNat s.length :: (s ++ r) ∧ s.length ≤ m ∧ s.length < 256 := by
 unfold textP at h
 split at h
 ·cases h
 ·rename_i n r' hc
  obtain ⟨rfl, h1, h2⟩ := cnt_ok hc
  obtain ⟨rfl, rfl⟩ := takeP_ok h
  exact ⟨rfl, h1, h2⟩
theorem list_bulk {f : VPar} (hf : ∀ b v r, f b = .ok (v, r) → bulkV v + r.length ≤ b.length) : ∀ (n : Nat) (b : List UInt8) (l : List V) (r : List UInt8), listP f n b = .ok (l, r) → bulkVs l + r.length ≤ b.length ∧ l.length = n
 | 0, b, l, r, h => by cases h; simp [bulkVs]
 | n + 1, b, l, r, h => by
  simp only [listP] at h
  split at h
  ·cases h
  ·rename_i v r1 hv
   split at h
   ·cases h
   ·rename_i l1 r2 hl
    cases h
    have h1 := hf _ _ _ hv
    have h2 := list_bulk hf n _ _ _ hl
    simp only [bulkVs, List.length_cons]
    omega
theorem rec_bulk {f : VPar} (hf : ∀ b v r, f b = .ok (v, r) → bulkV v + r.length ≤ b.length) : ∀ (n : Nat) (b : List UInt8) (ns : List (List UInt8)) (l : List V) (r : List UInt8), recP f n b = .ok ((ns, l), r) →
  nsBulk ns + bulkVs l + r.length ≤ b.length ∧ l.length = n ∧ ns.length = n
 | 0, b, ns, l, r, h => by cases h; simp [bulkVs, nsBulk]
 | n + 1, b, ns, l, r, h => by
  simp only [recP] at h
  split at h
  ·cases h
  ·rename_i s r0 hs
   obtain ⟨rfl, _⟩ := text_ok hs
   split at h
   ·cases h
   ·rename_i v r1 hv
    split at h
    ·cases h
    ·rename_i ns1 l1 r2 hl
     cases h
     have h1 := hf _ _ _ hv
     have h2 := rec_bulk hf n _ _ _ _ hl
     simp only [bulkVs, nsBulk, List.length_cons, List.length_append]
     omega
theorem body_bulk {f : VPar} (hf : ∀ b v r, f b = .ok (v, r) → bulkV v + r.length ≤ b.length) {k : Nat} {b : List UInt8} {v : V} {r : List UInt8} (h : bodyP f k b = .ok (v, r)) : bulkV v + r.length ≤ b.length + 1 := by
 unfold bodyP at h
 split at h
 ·cases h; simp [bulkV, bulkVs, nsBulk]; omega
 split at h
 ·split at h
  ·cases h
  ·rename_i l r1 hl
   cases h
   obtain ⟨rfl, _⟩ := takeP_ok hl
   simp [bulkV, bulkVs, nsBulk]; omega
 split at h
 ·split at h
  ·cases h
  ·rename_i l r1 hl
   obtain ⟨rfl, _⟩ := takeP_ok hl
   split at h
   ·cases h
   ·cases h; simp [bulkV, bulkVs, nsBulk]; omega
 split at h
 ·split at h
  ·cases h
  ·rename_i l r1 hl
   cases h
   obtain ⟨rfl, _⟩ := text_ok hl
   simp [bulkV, bulkVs, nsBulk]; omega
 split at h
 ·split at h
  ·cases h
  ·rename_i n r1 hn
   obtain ⟨rfl, _⟩ := cnt_ok hn
   split at h
   ·cases h
   ·rename_i l r2 hl
    cases h
    have := list_bulk hf _ _ _ _ hl
    simp [bulkV, nsBulk]; omega
 split at h
 ·split at h
  ·cases h
  ·rename_i n r1 hn
   obtain ⟨rfl, _⟩ := cnt_ok hn
   split at h
   ·cases h
   ·rename_i ns l r2 hl
    cases h
    have := rec_bulk hf _ _ _ _ _ hl
    simp [bulkV]; omega
 split at h
 ·cases h
 ·rename_i l r1 hl
  cases h
  obtain ⟨rfl, _⟩ := takeP_ok hl
  simp [bulkV, bulkVs, nsBulk]; omega
theorem parse_bulk : ∀ (d : Nat) (b : List UInt8) (v : V) (r : List UInt8), parseV d b = .ok (v, r) → bulkV v + r.length ≤ b.length
 | 0, [], v, r, h => by cases h
 | 0, _ :: _, v, r, h => by cases h
 | d + 1, [], v, r, h => by cases h
 | d + 1, c :: b, v, r, h => by
  simp only [parseV] at h
  split at h
  ·cases h
  ·exact body_bulk (parse_bulk d) h
theorem failE_ne {e : Int} (h : e ≠ 0) (is : Bool) (e' : Int) : failE e is e' = e := if_pos h
theorem fail_e (z : Nat) (b : List UInt8) (t : Bool) (e e' : Int) (is : Bool) (he : e ≠ 0) (Post : PV → List (Nat × Blk) → Prop) (h : Post (.tup []) (tp z b t e)) : Spec K 125 [.ptr 0 0, .bool is, .int .i64 e'] (tp z b t e) Post :=
 fail_spec z b t e e' is Post (by rw [failE_ne he]; exact h)
theorem fail_t (z : Nat) (b : List UInt8) (t : Bool) (e' : Int) (is : Bool) (hi : is = true) (Post : PV → List (Nat × Blk) → Prop) (h : Post (.tup []) (tp z b t e')) : Spec K 125 [.ptr 0 0, .bool is, .int .i64 e'] (tp z b t 0) Post :=
 fail_spec z b t 0 e' is Post (by subst hi; exact h)
theorem fail_f (z : Nat) (b : List UInt8) (t : Bool) (e' : Int) (is : Bool) (hi : is = false) (Post : PV → List (Nat × Blk) → Prop) (h : Post (.tup []) (tp z b t 0)) : Spec K 125 [.ptr 0 0, .bool is, .int .i64 e'] (tp z b t 0) Post :=
 fail_spec z b t 0 e' is Post (by subst hi; exact h)
theorem off_c (z : Nat) (b : List UInt8) (t : Bool) (e : Int) (n : Nat) (hz : z = 1 ∨ b = []) (hb : b.length ≤ 1000000000) (hn : n ≤ 1000) (Post : PV → List (Nat × Blk) → Prop)
  (herr : ∀ e', lift e (takeP n b) = .error e' → ∀ z' t' b', b'.length ≤ b.length → (z = 1 ∨ b' = []) → Post (.sl z' [] false true) (tp z b' t' e'))
  (hok : ∀ s r, lift e (takeP n b) = .ok (s, r) → e = 0 → ∀ z' t', (z' = 1 ∨ s = []) → (z = 1 ∨ r = []) → Post (.sl z' (bs s) false true) (tp z r t' 0)) : Spec K 127 [.ptr 0 0, .int .i64 n] (tp z b t e) Post := by
 refine off_spec z b t e n hz hb hn Post fun z' t' hz' => ?_
 by_cases he : e = 0
 ·subst he
  by_cases hl : b.length < n
  ·have h1 : offE n b 0 = 3 := by simp [offE, failE, hl]
   rw [offB, offR, h1]
   exact herr 3 (by rw [lift0, takeP, if_pos hl]) z' t' b (Nat.le_refl _) hz
  ·have h1 : offE n b 0 = 0 := by simp [offE, failE, hl]
   rw [offB, h1] at hz'
   rw [offB, offR, h1]
   exact hok (b.take n) (b.drop n) (by rw [lift0, takeP, if_neg hl]) rfl z' t' hz' (hz.imp id fun h => by rw [h]; simp)
 ·have h1 : offE n b e = e := failE_ne he _ _
  rw [offB, offR, h1, if_pos he, if_pos he]
  exact herr e (liftE he _) z' t' b (Nat.le_refl _) hz
theorem byte_c (z : Nat) (b : List UInt8) (t : Bool) (e : Int) (hz : z = 1 ∨ b = []) (hb : b.length ≤ 1000000000) (Post : PV → List (Nat × Blk) → Prop)
  (herr : ∀ e', lift e (takeP 1 b) = .error e' → ∀ t' b', b'.length ≤ b.length → (z = 1 ∨ b' = []) → Post (.int .i64 0) (tp z b' t' e'))
  (hok : ∀ c r, b = c :: r → e = 0 → ∀ t', z = 1 → Post (.int .i64 c.toNat) (tp z r t' 0)) : Spec K 126 [.ptr 0 0] (tp z b t e) Post := by
 refine byte_spec z b t e hz hb Post fun t' => ?_
 by_cases he : e = 0
 ·subst he
  cases b with
  | nil => exact herr 3 rfl t' [] (Nat.le_refl _) hz
  | cons c r =>
   have h1 : offE 1 (c :: r) 0 = 0 := by simp [offE, failE]
   rw [byteN, offR, h1]
   exact hok c r rfl rfl t' (hz.resolve_right (by simp))
 ·have h1 : offE 1 b e = e := failE_ne he _ _
  rw [byteN, offR, h1, if_pos he, if_pos he]
  exact herr e (liftE he _) t' b (Nat.le_refl _) hz
theorem counts_c (z : Nat) (b : List UInt8) (t : Bool) (e : Int) (most : Nat) (hm : most ≤ 1000) (hz : z = 1 ∨ b = []) (hb : b.length ≤ 1000000000) (Post : PV → List (Nat × Blk) → Prop)
  (herr : ∀ e', lift e (cntP most b) = .error e' → ∀ t' b', b'.length ≤ b.length → (z = 1 ∨ b' = []) → Post (.int .i64 (0 : Nat)) (tp z b' t' e'))
  (hok : ∀ (n : Nat) r, lift e (cntP most b) = .ok (n, r) → e = 0 → ∀ t', z = 1 → Post (.int .i64 n) (tp z r t' 0)) : Spec K 129 [.ptr 0 0, .int .i64 most] (tp z b t e) Post := by
 refine counts_spec z b t e most hm hz hb Post fun t' => ?_
 by_cases he : e = 0
 ·subst he
  cases b with
  | nil => exact herr 3 rfl t' [] (Nat.le_refl _) hz
  | cons c r =>
   have h1 : offE 1 (c :: r) 0 = 0 := by simp [offE, failE]
   have h2 : byteN (c :: r) 0 = c.toNat := by rw [byteN, h1]; rfl
   by_cases hc : most < c.toNat
   ·have h3 : cntE most (c :: r) 0 = 5 := by rw [cntE, h1, h2]; simp [failE, hc]
    rw [cntN, h3, offR, h1]
    exact herr 5 (by rw [lift0, cntP, if_pos hc]) t' r (by simp) (.inl (hz.resolve_right (by simp)))
   ·have h3 : cntE most (c :: r) 0 = 0 := by rw [cntE, h1, h2]; simp [failE, hc]
    rw [cntN, h3, offR, h1, h2]
    exact hok c.toNat r (by rw [lift0, cntP, if_neg hc]) rfl t' (hz.resolve_right (by simp))
 ·have h1 : offE 1 b e = e := failE_ne he _ _
  have h3 : cntE most b e = e := by rw [cntE, h1]; exact failE_ne he _ _
  rw [cntN, offR, h3, h1, if_pos he, if_pos he]
  exact herr e (liftE he _) t' b (Nat.le_refl _) hz
theorem text_c (z : Nat) (b : List UInt8) (t : Bool) (e : Int) (most : Nat) (hm : most ≤ 1000) (hz : z = 1 ∨ b = []) (hb : b.length ≤ 1000000000) (Post : PV → List (Nat × Blk) → Prop)
  (herr : ∀ e', lift e (textP most b) = .error e' → ∀ t' b', b'.length ≤ b.length → (z = 1 ∨ b' = []) → Post (.str []) (tp z b' t' e'))
  (hok : ∀ s r, lift e (textP most b) = .ok (s, r) → e = 0 → ∀ t', z = 1 → Post (.str s) (tp z r t' 0)) : Spec K 128 [.ptr 0 0, .int .i64 most] (tp z b t e) Post := by
 refine is128.specW K_ok K_mix false (by simp) (by simp [keys]) ?_
 (conv => whnf); repeat ((first | (apply And.intro;· exact Cl3) | apply T1 | apply T2 | apply T3 | apply T4 | apply T6 | apply T5); conv => whnf)
 refine counts_c z b t e most hm hz hb _ (fun e' he' t' b' hb' hz' => ?_) (fun n r hnr he t' hz' => ?_)
 ·have hne : e' ≠ 0 := by
   intro h0
   subst h0
   by_cases he : e = 0
   ·subst he
    exact is345_ne (cnt_err he') rfl
   ·rw [liftE he] at he'
    cases he'
    exact he rfl
  (conv => whnf); repeat ((first | (apply And.intro;· exact Cl3) | apply T1 | apply T2 | apply T3 | apply T4 | apply T6 | apply T5); conv => whnf)
  refine off_c z b' t' e' 0 hz' (by omega) (by omega) _ (fun e2 h2 z2 t2 b2 hb2 hz2 => ?_) (fun s r _ h0 => absurd h0 hne)
  rw [liftE hne] at h2
  cases h2
  (conv => whnf); repeat ((first | (apply And.intro;· exact Cl3) | apply T1 | apply T2 | apply T3 | apply T4 | apply T6 | apply T5); conv => whnf)
  refine herr e' ?_ t2 b2 (by omega) hz2
  by_cases he : e = 0
  ·subst he
   rw [lift0] at he' ⊢
   unfold textP
   rw [he']
  ·rw [liftE he] at he' ⊢
   cases he'
   rfl
 ·subst he
  rw [lift0] at hnr
  obtain ⟨hbr, hn1, hn2⟩ := cnt_ok hnr
  (conv => whnf); repeat ((first | (apply And.intro;· exact Cl3) | apply T1 | apply T2 | apply T3 | apply T4 | apply T6 | apply T5); conv => whnf)
  refine off_c z r t' 0 n (.inl hz') (by rw [hbr] at hb; simp at hb; omega) (by omega) _ (fun e2 h2 z2 t2 b2 hb2 hz2 => ?_) (fun s r2 h2 _ z2 t2 hz2 hz3 => ?_)
  ·(conv => whnf); repeat ((first | (apply And.intro;· exact Cl3) | apply T1 | apply T2 | apply T3 | apply T4 | apply T6 | apply T5); conv => whnf)
   refine herr e2 ?_ t2 b2 (by rw [hbr]; simp; omega) hz2
   rw [lift0] at h2 ⊢
   unfold textP
   rw [hnr]
   exact h2
  ·(conv => whnf); repeat ((first | (apply And.intro;· exact Cl3) | apply T1 | apply T2 | apply T3 | apply T4 | apply T6 | apply T5); conv => whnf)
   refine ⟨bs_int _, ?_⟩
   (conv => whnf); repeat ((first | (apply And.intro;· exact Cl3) | apply T1 | apply T2 | apply T3 | apply T4 | apply T6 | apply T5); conv => whnf)
   rw [str_bs]
   refine hok s r2 ?_ rfl t2 hz'
   rw [lift0] at h2 ⊢
   unfold textP
   rw [hnr]
   exact h2
end Go.Vc
namespace Go.Vc
open Go Go.Proofs
set_option maxRecDepth 100000
def Out {α : Type} (p : Except Int (α × List UInt8)) (a : α) (b : List UInt8) (e : Int) : Prop := p = .ok (a, b) ∧ e = 0 ∨ p = .error e ∧ is345 e
theorem lift_err {α : Type} {e e' : Int} {p : Except Int α} (he : e = 0 ∨ is345 e) (hp : ∀ e, p = .error e → is345 e) (h : lift e p = .error e') : is345 e' := by
 rcases he with rfl | he
 ·exact hp _ h
 ·rw [liftE (is345_ne he)] at h; cases h; exact he
theorem off_m (z : Nat) (b : List UInt8) (t : Bool) (e : Int) (n : Nat) (he : e = 0 ∨ is345 e) (hz : z = 1 ∨ b = []) (hb : b.length ≤ 1000000000) (hn : n ≤ 1000) (Post : PV → List (Nat × Blk) → Prop)
  (h : ∀ s b' e', Out (lift e (takeP n b)) s b' e' → (s = [] ∨ s.length = n) → ∀ z' t', b'.length ≤ b.length → (z = 1 ∨ b' = []) → (z' = 1 ∨ s = []) → Post (.sl z' (bs s) false true) (tp z b' t' e')) : Spec K 127 [.ptr 0 0, .int .i64 n] (tp z b t e) Post := by
 refine off_c z b t e n hz hb hn Post (fun e' he' z' t' b' hb' hz' => ?_) (fun s r hs _ z' t' hz' hz2 => ?_)
 ·exact h [] b' e' (.inr ⟨he', lift_err he (fun e h => .inl (takeP_err h)) he'⟩) (.inl rfl) z' t' hb' hz' (.inr rfl)
 ·have : lift e (takeP n b) = takeP n b := by
   by_cases h0 : e = 0
   ·subst h0; rfl
   ·rw [liftE h0] at hs; cases hs
  obtain ⟨hb2, hl⟩ := takeP_ok (this ▸ hs)
  exact h s r 0 (.inl ⟨hs, rfl⟩) (.inr hl) z' t' (by rw [hb2]; simp) hz2 hz'
theorem text_m (z : Nat) (b : List UInt8) (t : Bool) (e : Int) (most : Nat) (hm : most ≤ 1000) (he : e = 0 ∨ is345 e) (hz : z = 1 ∨ b = []) (hb : b.length ≤ 1000000000) (Post : PV → List (Nat × Blk) → Prop)
  (h : ∀ s b' e', Out (lift e (textP most b)) s b' e' → ∀ t', b'.length ≤ b.length → (z = 1 ∨ b' = []) → Post (.str s) (tp z b' t' e')) : Spec K 128 [.ptr 0 0, .int .i64 most] (tp z b t e) Post := by
 refine text_c z b t e most hm hz hb Post (fun e' he' t' b' hb' hz' => ?_) (fun s r hs h0 t' hz' => ?_)
 ·exact h [] b' e' (.inr ⟨he', lift_err he (fun e h => text_err h) he'⟩) t' hb' hz'
 ·subst h0
  obtain ⟨hb2, _⟩ := text_ok (lift0 (textP most b) ▸ hs)
  exact h s r 0 (.inl ⟨hs, rfl⟩) t' (by rw [hb2]; simp; omega) (.inl hz')
theorem counts_m (z : Nat) (b : List UInt8) (t : Bool) (e : Int) (most : Nat) (hm : most ≤ 1000) (he : e = 0 ∨ is345 e) (hz : z = 1 ∨ b = []) (hb : b.length ≤ 1000000000) (Post : PV → List (Nat × Blk) → Prop)
  (h : ∀ (n : Nat) b' e', Out (lift e (cntP most b)) n b' e' → n ≤ most → ∀ t', (e' ≠ 0 → n = 0) → b'.length ≤ b.length → (z = 1 ∨ b' = []) → Post (.int .i64 n) (tp z b' t' e')) : Spec K 129 [.ptr 0 0, .int .i64 most] (tp z b t e) Post := by
 refine counts_c z b t e most hm hz hb Post (fun e' he' t' b' hb' hz' => ?_) (fun s r hs h0 t' hz' => ?_)
 ·exact h 0 b' e' (.inr ⟨he', lift_err he (fun e h => cnt_err h) he'⟩) (Nat.zero_le _) t' (fun _ => rfl) hb' hz'
 ·subst h0
  obtain ⟨hb2, h2, _⟩ := cnt_ok (lift0 (cntP most b) ▸ hs)
  exact h s r 0 (.inl ⟨hs, rfl⟩) h2 t' (fun h => absurd rfl h) (by rw [hb2]; simp) (.inl hz')
structure VO (v : V) (z1 : Nat) (lp : List PV) (z2 : Nat) : Prop where
 l : VPs v.l lp
 z1 : z1 = 5 ∨ v.l = []
 z2 : z2 = 1 ∨ v.ns = []
 n : i64 v.n
theorem VO0 : VO V0 0 [] 0 := ⟨rfl, .inr rfl, .inr rfl, ⟨by decide, by decide⟩⟩
theorem VPs_snoc : ∀ {l : List V} {lp : List PV} {v : V} {p : PV}, VPs l lp → VP v p → VPs (l ++ [v]) (lp ++ [p])
 | [], lp, v, p, h, hv => by
  simp only [VPs] at h
  subst h
  exact ⟨p, [], rfl, hv, rfl⟩
 | w :: r, lp, v, p, h, hv => by
  simp only [VPs] at h
  obtain ⟨q, lq, rfl, h1, h2⟩ := h
  exact ⟨q, lq ++ [p], rfl, h1, VPs_snoc h2 hv⟩
theorem VO.vp {v : V} {z1 : Nat} {lp : List PV} {z2 : Nat} (h : VO v z1 lp z2) (t1 t2 : Bool) : VP v (.agg (vc v z1 lp t1 z2 t2)) := by
 cases v
 exact ⟨z1, lp, t1, true, z2, t2, true, rfl, h.l, h.z1, h.z2, h.n⟩
def vcN (v : V) (z1 : Nat) (lp : List PV) (z2 : Nat) : List PV := [.int .i64 v.k, .int .i64 v.n, .str v.s, .sl z1 lp false false, .sl z2 (strs v.ns) false false]
theorem VO.vpN {v : V} {z1 : Nat} {lp : List PV} {z2 : Nat} (h : VO v z1 lp z2) : VP v (.agg (vcN v z1 lp z2)) := by
 cases v
 exact ⟨z1, lp, false, false, z2, false, false, rfl, h.l, h.z1, h.z2, h.n⟩
def ValC (d : Nat) : Prop := ∀ (b : List UInt8) (z : Nat) (t : Bool) (w : Int), w = 8 - (d : Int) → (z = 1 ∨ b = []) → b.length ≤ 1000000000 → ∀ Post : PV → List (Nat × Blk) → Prop,
 (∀ v b' e' t' z1 lp z2, VO v z1 lp z2 → b'.length ≤ b.length → (z = 1 ∨ b' = []) → Out (parseV d b) v b' e' → Post (.agg (vcN v z1 lp z2)) (tp z b' t' e')) → Spec K 110 [.ptr 0 0, .int .i64 w] (tp z b t 0) Post
theorem within_m (d : Nat) (hd : d ≤ 7) (IH : ValC d) (b : List UInt8) (e : Int) (z : Nat) (t : Bool) (w : Int) (hw : w = 8 - ((d + 1 : Nat) : Int)) (he : e = 0 ∨ is345 e) (hz : z = 1 ∨ b = []) (hb : b.length ≤ 1000000000) (Post : PV → List (Nat × Blk) → Prop)
  (h : ∀ v b' e' t' z1 lp z2, VO v z1 lp z2 → b'.length ≤ b.length → (z = 1 ∨ b' = []) → Out (lift e (parseV d b)) v b' e' → Post (.agg (vcN v z1 lp z2)) (tp z b' t' e')) :
  Spec K 130 [.ptr 0 0, .int .i64 w] (tp z b t e) Post := by
 refine is130.specN K_ok K_mix false (by simp) (by simp [keys]) ?_
 rcases he with rfl | he
 ·(conv => whnf); repeat ((first | (apply And.intro;· exact Cl3) | apply T1 | apply T2 | apply T3 | apply T4 | apply T6 | apply T5); conv => whnf)
  rw [show IntKind.i64.wrap (w + 1) = w + 1 from wrap64 (by omega) (by omega)]
  refine IH b z t (w + 1) (by omega) hz hb _ fun v b' e' t' z1 lp z2 hv hb' hz' ho => ?_
  (conv => whnf); repeat ((first | (apply And.intro;· exact Cl3) | apply T1 | apply T2 | apply T3 | apply T4 | apply T6 | apply T5); conv => whnf)
  exact h v b' e' t' z1 lp z2 hv hb' hz' ho
 ·have h1 : (e != 0) = true := by simpa using is345_ne he
  (conv => whnf); repeat ((first | (apply And.intro;· exact Cl3) | apply T1 | apply T2 | apply T3 | apply T4 | apply T6 | apply T5); conv => whnf)
  rw [h1]
  (conv => whnf); repeat ((first | (apply And.intro;· exact Cl3) | apply T1 | apply T2 | apply T3 | apply T4 | apply T6 | apply T5); conv => whnf)
  exact h V0 b e t 0 [] 0 VO0 (Nat.le_refl _) hz (.inr ⟨liftE (is345_ne he) _, he⟩)
def preL {α : Type} (l : List α) (p : Except Int (List α × List UInt8)) : Except Int (List α × List UInt8) :=
 match p with
 | .error e => .error e
 | .ok (l', r) => .ok (l ++ l', r)
theorem preL_nil {α : Type} (p : Except Int (List α × List UInt8)) : preL [] p = p := by cases p <;> rfl
theorem list_step {f : VPar} {l : List V} {e : Int} {n : Nat} {b : List UInt8} {v : V} {b' : List UInt8} {e' : Int} (h : Out (lift e (f b)) v b' e') : preL l (lift e (listP f (n + 1) b)) = preL (l ++ [v]) (lift e' (listP f n b')) := by
 by_cases he : e = 0
 ·subst he
  rw [lift0] at h ⊢
  rcases h with ⟨h, rfl⟩ | ⟨h, h2⟩
  ·rw [lift0, listP, h]
   simp only
   cases hl : listP f n b' with
   | error e => rfl
   | ok p => simp [preL]
  ·rw [liftE (is345_ne h2), listP, h]
   rfl
 ·rw [liftE he] at h ⊢
  rcases h with ⟨h, _⟩ | ⟨h, h2⟩
  ·cases h
  ·cases h
   rw [liftE he]
   rfl
theorem list_end {f : VPar} {l : List V} {e : Int} {b : List UInt8} (he : e = 0 ∨ is345 e) {p : Except Int (List V × List UInt8)} (h : p = preL l (lift e (listP f 0 b))) : Out p l b e := by
 rcases he with rfl | he
 ·refine .inl ⟨?_, rfl⟩
  rw [h, lift0, listP, preL, List.append_nil]
 ·refine .inr ⟨?_, he⟩
  rw [h, liftE (is345_ne he), preL]
def preR (ns : List (List UInt8)) (l : List V) (p : Except Int ((List (List UInt8) × List V) × List UInt8)) : Except Int ((List (List UInt8) × List V) × List UInt8) :=
 match p with
 | .error e => .error e
 | .ok ((ns', l'), r) => .ok ((ns ++ ns', l ++ l'), r)
theorem preR_nil (p : Except Int ((List (List UInt8) × List V) × List UInt8)) : preR [] [] p = p := by cases p <;> rfl
theorem rec_stepV {f : VPar} {ns : List (List UInt8)} {l : List V} {e : Int} {n : Nat} {b : List UInt8} {s : List UInt8} {b1 : List UInt8} {e1 : Int} {v : V} {b' : List UInt8} {e' : Int} (h1 : Out (lift e (textP 16 b)) s b1 e1) (h : Out (lift e1 (f b1)) v b' e') :
  preR ns l (lift e (recP f (n + 1) b)) = preR (ns ++ [s]) (l ++ [v]) (lift e' (recP f n b')) := by
 by_cases he : e = 0
 ·subst he
  rw [lift0] at h1 ⊢
  rcases h1 with ⟨h1, rfl⟩ | ⟨h1, h2⟩
  ·rw [lift0] at h
   rcases h with ⟨h, rfl⟩ | ⟨h, h2⟩
   ·rw [lift0, recP, h1]
    simp only
    rw [h]
    simp only
    cases hl : recP f n b' with
    | error e => rfl
    | ok p => simp [preR]
   ·rw [liftE (is345_ne h2), recP, h1]
    simp only
    rw [h]
    rfl
  ·rw [liftE (is345_ne h2)] at h
   rcases h with ⟨h, _⟩ | ⟨h, h3⟩
   ·cases h
   ·cases h
    rw [liftE (is345_ne h2), recP, h1]
    rfl
 ·rw [liftE he] at h1 ⊢
  rcases h1 with ⟨h1, _⟩ | ⟨h1, h2⟩
  ·cases h1
  ·cases h1
   rw [liftE he] at h
   rcases h with ⟨h, _⟩ | ⟨h, h3⟩
   ·cases h
   ·cases h
    rw [liftE he]
    rfl
theorem rec_end {f : VPar} {ns : List (List UInt8)} {l : List V} {e : Int} {b : List UInt8} (he : e = 0 ∨ is345 e) {p : Except Int ((List (List UInt8) × List V) × List UInt8)} (h : p = preR ns l (lift e (recP f 0 b))) : Out p (ns, l) b e := by
 rcases he with rfl | he
 ·refine .inl ⟨?_, rfl⟩
  rw [h, lift0, recP, preR, List.append_nil, List.append_nil]
 ·refine .inr ⟨?_, he⟩
  rw [h, liftE (is345_ne he), preR]
theorem Out.e {α : Type} {p : Except Int (α × List UInt8)} {a : α} {b : List UInt8} {e : Int} (h : Out p a b e) : e = 0 ∨ is345 e := h.imp (·.2) (·.2)
theorem Out.map {α β : Type} {p : Except Int (α × List UInt8)} {a : α} {b : List UInt8} {e : Int} {q : Except Int (β × List UInt8)} {c : β} (h : Out p a b e) (h1 : p = .ok (a, b) → q = .ok (c, b)) (h2 : ∀ e, p = .error e → q = .error e) : Out q c b e :=
 h.imp (fun h => ⟨h1 h.1, h.2⟩) (fun h => ⟨h2 _ h.1, h.2⟩)
end Go.Vc
