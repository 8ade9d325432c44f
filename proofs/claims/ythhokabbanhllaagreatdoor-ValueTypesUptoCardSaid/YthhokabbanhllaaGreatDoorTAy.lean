/- What is proved here: contracts of functions of the program: of each function what it hands back and what it leaves in memory. Conditions: those that each theorem names. -/
import Derived.Test.YthhokabbanhllaaGreatDoorTAw
import Derived.Test.YthhokabbanhllaaGreatDoorTAx
set_option linter.unusedVariables false
set_option linter.unusedSimpArgs false
set_option linter.unusedSectionVars false
namespace Go.Vc
open Go Go.Proofs
set_option maxRecDepth 100000
noncomputable def ops10a : Array Oper := match Tryz.f39.body with | some (.seq (.region _ o _) _) => o | _ => #[]
noncomputable def ops10b : Array Oper := match Tryz.f39.body with | some (.seq _ (.seq (.region _ o _) _)) => o | _ => #[]
theorem body10 : Tryz.f39.body = some (.seq (.region 0 ops10a false) (.seq (.region 1 ops10b true) .ret)) := by kernel_rfl
theorem noSel10 : Region.noSelect ops10b = true := by kernel_rfl
theorem take10 : takeOk K ops10b [4, 9, 14, 19, 24, 25, 26, 27] [0, 2, 5, 7, 10, 12, 15, 17, 20, 22, 1, 3, 6, 8, 11, 13, 16, 18, 21, 23] ops10b.size (Array.replicate ops10b.size false) = true := by kernel_rfl
set_option maxHeartbeats 8000000 in
theorem cmp_step {N : Nat} (ih : CmpC N) : CmpC (N + 1) := by
 intro v w hv hv9 hw z1 z2 lp t1 t2 x1 x2 mp u1 u2 Post hl hz1 hz2 hm hx1 hx2 h
 obtain ⟨k, n, s, l, ns⟩ := v
 obtain ⟨k', n', s', l', ns'⟩ := w
 simp only [V.k, V.n, V.s, V.l, V.ns, vc] at *
 simp only [bulkV] at hv hv9 hw
 have hnb := nsBulk_le ns
 have hnb' := nsBulk_le ns'
 refine calm_spec K_ok K_mix (n := 32) (rs := [.tmp 4]) [0, 2, 5, 7, 10, 12, 15, 17, 20, 22, 1, 3, 6, 8, 11, 13, 16, 18, 21, 23] [4, 9, 14, 19, 24, 25, 26, 27] (x0 := x10a) (xt := x10t) (xl := x10l) Tryz.func39 (by kernel_rfl) body10 noSel10 take10 (by kernel_rfl) (by kernel_rfl) rfl (by kernel_rfl) (by kernel_rfl) (by kernel_rfl) false (by show (2 : Nat) ≤ _; decide) ?_
 (conv => whnf); repeat ((first | (apply And.intro;· exact Cl4) | apply T1 | apply T2 | apply T3 | apply T4 | apply T6 | apply T5); conv => whnf)
 refine cmpInt_spec k k' _ ?_
 (conv => whnf); repeat ((first | (apply And.intro;· exact Cl4) | apply T1 | apply T2 | apply T3 | apply T4 | apply T6 | apply T5); conv => whnf)
 refine cmpInt_spec n n' _ ?_
 (conv => whnf); repeat ((first | (apply And.intro;· exact Cl4) | apply T1 | apply T2 | apply T3 | apply T4 | apply T6 | apply T5); conv => whnf)
 refine strCompare_spec s s' _ ?_
 (conv => whnf); repeat ((first | (apply And.intro;· exact Cl4) | apply T1 | apply T2 | apply T3 | apply T4 | apply T6 | apply T5); conv => whnf)
 refine cmpNames_spec ns ns' z2 x2 _ _ hz2 hx2 (by omega) (by omega) _ ?_
 (conv => whnf); repeat ((first | (apply And.intro;· exact Cl4) | apply T1 | apply T2 | apply T3 | apply T4 | apply T6 | apply T5); conv => whnf)
 refine cmpFunc_spec l l' lp mp z1 x1 _ _ hl hm hz1 hx1 (by omega) (by omega) (fun v w hv hv9 hw => ih v w (by omega) hv9 hw) _ ?_
 (conv => whnf); repeat ((first | (apply And.intro;· exact Cl4) | apply T1 | apply T2 | apply T3 | apply T4 | apply T6 | apply T5); conv => whnf)
 refine cmpOr_spec [cmpI k k', cmpI n n', cmpS s s', cmpNs ns ns', cmpVs l l'] 1 _ (.inl rfl) (by simp) _ ?_
 have ho : orI [cmpI k k', cmpI n n', cmpS s s', cmpNs ns ns', cmpVs l l'] = cmpV (.mk k n s l ns) (.mk k' n' s' l' ns') := by
  rw [cmpV_mk]
  simp only [orI]
  by_cases e1 : k = k'
  ·rw [if_pos (cmpI_eq.2 e1), if_neg (show ¬ k ≠ k' from fun h => h e1)]
   by_cases e2 : n = n'
   ·rw [if_pos (cmpI_eq.2 e2), if_neg (show ¬ n ≠ n' from fun h => h e2)]
    by_cases e3 : s = s'
    ·rw [if_pos (cmpS_eq.2 e3), if_neg (show ¬ s ≠ s' from fun h => h e3)]
     by_cases e4 : cmpNs ns ns' = 0
     ·rw [if_pos e4, if_neg (show ¬ cmpNs ns ns' ≠ 0 from fun h => h e4)]
      split
      ·rename_i h; exact h.symm
      ·rfl
     ·rw [if_neg e4, if_pos e4]
    ·rw [if_neg (cmpS_ne e3), if_pos e3]
   ·rw [if_neg (cmpI_ne e2), if_pos e2]
  ·rw [if_neg (cmpI_ne e1), if_pos e1]
 rw [ho]
 (conv => whnf); repeat ((first | (apply And.intro;· exact Cl4) | apply T1 | apply T2 | apply T3 | apply T4 | apply T6 | apply T5); conv => whnf)
 exact h
theorem cmp_all : ∀ N, CmpC N
 | 0 => fun v w hv _ => absurd (bulkV_pos v) (by omega)
 | N + 1 => cmp_step (cmp_all N)
theorem cmp_spec (v w : V) (z1 z2 : Nat) (lp : List PV) (t1 t2 : Bool) (x1 x2 : Nat) (mp : List PV) (u1 u2 : Bool) (Post : PV → List (Nat × Blk) → Prop) (a : VA v z1 lp z2) (b : VA w x1 mp x2)
  (h : Post (.int .i64 (cmpV v w)) []) : Spec K 39 [.agg (vc v z1 lp t1 z2 t2), .agg (vc w x1 mp u1 x2 u2)] [] Post :=
 cmp_all _ v w (Nat.le_refl _) a.b b.b z1 z2 lp t1 t2 x1 x2 mp u1 u2 Post a.l a.z1 a.z2 b.l b.z1 b.z2 h
end Go.Vc
namespace Go.Vc
open Go Go.Proofs
set_option maxRecDepth 100000
def SizeC (N : Nat) : Prop := ∀ v : V, bulkV v ≤ N → bulkV v ≤ 100000000000 → ∀ (z1 z2 : Nat) (lp : List PV) (t1 t2 : Bool) (Post : PV → List (Nat × Blk) → Prop), VPs v.l lp → (z1 = 5 ∨ v.l = []) → (z2 = 1 ∨ v.ns = []) → Post (.int .i64 (sizeV v)) [] → Spec K 11 [.agg (vc v z1 lp t1 z2 t2)] [] Post
set_option maxHeartbeats 8000000 in
theorem size_step {N : Nat} (ih : SizeC N) : SizeC (N + 1) := by
 intro v hs hs9 z1 z2 lp t1 t2 Post hl hz1 hz2 h
 obtain ⟨k, n, s, l, ns⟩ := v
 simp only [V.k, V.n, V.s, V.l, V.ns, vc] at *
 have hlp := VPs_len hl
 have hz1' : z1 = 5 ∨ lp = [] := hz1.imp (fun h => h) fun h => by rw [h] at hlp; exact List.length_eq_zero_iff.1 hlp
 have hz2' : z2 = 1 ∨ strs ns = [] := hz2.imp (fun h => h) fun h => by rw [h]; rfl
 simp only [bulkV] at hs hs9
 have hnb := nsBulk_le ns
 have hlb := len_sizeVs l
 have hsb := sizes_bulk l
 refine is11.specW K_ok K_mix false (by simp) (by simp [keys]) ?_
 (conv => whnf); repeat ((first | (apply And.intro;· exact Cl4) | apply T1 | apply T2 | apply T3 | apply T4 | apply T6 | apply T5); conv => whnf)
 rw [strs_len]
 refine ⟨Nat, fun i => ⟨37, [(15, .int .i64 i), (14, .int .i64 ns.length), (13, .sl z2 (strs ns) t2 true), (3, .int .i64 (1 + s.length + nsLen (ns.take i) : Nat)), (1, .ptr 0 0)], [(0, .box [.int .i64 k, .int .i64 n, .str s, .sl z1 lp t1 true, .sl z2 (strs ns) t2 true])], []⟩, fun i => i ≤ ns.length, fun i => ns.length - i,
  ⟨[], 0, Nat.zero_le _, ?_⟩, fun i hI => ?_⟩
 ·rw [wrap64 (by omega) (by omega)]
  simp [meets, ghosts, St.le, St.get, look, keys, PV.labs, labsL, lookB, Blk.labs, nsLen]
 ·have hI : i ≤ ns.length := hI
  have hdb := nsLen_take_le ns i
  conv => (arg 5; dsimp only)
  (conv => whnf); repeat ((first | (apply And.intro;· exact Cl4) | apply T1 | apply T2 | apply T3 | apply T4 | apply T6 | apply T5); conv => whnf)
  by_cases hix : i < ns.length
  ·rw [decide_eq_true (show (i : Int) < (ns.length : Int) by omega)]
   have hm := nsLen_take hix
   have hm2 := nsLen_take_le ns (i + 1)
   (conv => whnf); repeat ((first | (apply And.intro;· exact Cl4) | apply T1 | apply T2 | apply T3 | apply T4 | apply T6 | apply T5); conv => whnf)
   refine ⟨fun _ => ⟨by omega, by rw [strs_len]; omega⟩, ?_⟩
   (conv => whnf); repeat ((first | (apply And.intro;· exact Cl4) | apply T1 | apply T2 | apply T3 | apply T4 | apply T6 | apply T5); conv => whnf)
   rw [Int.toNat_natCast, nth_strs hix]
   (conv => whnf); repeat ((first | (apply And.intro;· exact Cl4) | apply T1 | apply T2 | apply T3 | apply T4 | apply T6 | apply T5); conv => whnf)
   rw [wrap64 (n := (i : Int) + 1) (by omega) (by omega), wrap64 (by omega) (by omega)]
   refine ⟨[], i + 1, hix, by show ns.length - (i + 1) < ns.length - i; omega, ?_⟩
   rw [show ((1 + s.length + nsLen (ns.take i) : Nat) : Int) + ns[i].length = (1 + s.length + nsLen (ns.take (i + 1)) : Nat) by omega]
   simp [meets, ghosts, St.le, St.get, look, keys, PV.labs, labsL, lookB, Blk.labs]
  ·obtain rfl : i = ns.length := by omega
   rw [decide_eq_false (show ¬ (ns.length : Int) < (ns.length : Int) by omega), List.take_length]
   (conv => whnf); repeat ((first | (apply And.intro;· exact Cl4) | apply T1 | apply T2 | apply T3 | apply T4 | apply T6 | apply T5); conv => whnf)
   rw [hlp]
   refine ⟨Nat, fun i => ⟨37, [(27, .int .i64 i), (26, .int .i64 l.length), (25, .sl z1 lp t1 true), (3, .int .i64 (1 + s.length + nsLen ns + sizeVs (l.take i) : Nat)), (1, .ptr 0 0)], [(0, .box [.int .i64 k, .int .i64 n, .str s, .sl z1 lp t1 true, .sl z2 (strs ns) t2 true])], []⟩, fun i => i ≤ l.length, fun i => l.length - i,
    ⟨[], 0, Nat.zero_le _, ?_⟩, fun i hI => ?_⟩
   ·simp [meets, ghosts, St.le, St.get, look, keys, PV.labs, labsL, lookB, Blk.labs, sizeVs]
   ·have hI : i ≤ l.length := hI
    have hdb := sizeVs_take_le l i
    conv => (arg 5; dsimp only)
    (conv => whnf); repeat ((first | (apply And.intro;· exact Cl4) | apply T1 | apply T2 | apply T3 | apply T4 | apply T6 | apply T5); conv => whnf)
    by_cases hix : i < l.length
    ·rw [decide_eq_true (show (i : Int) < (l.length : Int) by omega)]
     have hm := sizeVs_take hix
     have hm2 := sizeVs_take_le l (i + 1)
     obtain ⟨y1, mp, u1, o1, y2, u2, o2, hp, hq, g1, g2, g3⟩ := (VPs_nth hl hix).out
     have hbm := bulkVs_mem hix
     (conv => whnf); repeat ((first | (apply And.intro;· exact Cl4) | apply T1 | apply T2 | apply T3 | apply T4 | apply T6 | apply T5); conv => whnf)
     rw [Int.toNat_natCast, hp]
     (conv => whnf); repeat ((first | (apply And.intro;· exact Cl4) | apply T1 | apply T2 | apply T3 | apply T4 | apply T6 | apply T5); conv => whnf)
     refine ih l[i] (by omega) (by omega) y1 y2 mp _ _ _ hq g1 g2 ?_
     (conv => whnf); repeat ((first | (apply And.intro;· exact Cl4) | apply T1 | apply T2 | apply T3 | apply T4 | apply T6 | apply T5); conv => whnf)
     rw [wrap64 (n := (i : Int) + 1) (by omega) (by omega), wrap64 (by omega) (by omega)]
     refine ⟨[], i + 1, hix, by show l.length - (i + 1) < l.length - i; omega, ?_⟩
     rw [show ((1 + s.length + nsLen ns + sizeVs (l.take i) : Nat) : Int) + sizeV l[i] = (1 + s.length + nsLen ns + sizeVs (l.take (i + 1)) : Nat) by omega]
     simp [meets, ghosts, St.le, St.get, look, keys, PV.labs, labsL, lookB, Blk.labs]
    ·obtain rfl : i = l.length := by omega
     rw [decide_eq_false (show ¬ (l.length : Int) < (l.length : Int) by omega), List.take_length]
     (conv => whnf); repeat ((first | (apply And.intro;· exact Cl4) | apply T1 | apply T2 | apply T3 | apply T4 | apply T6 | apply T5); conv => whnf)
     simpa [sizeV] using h
theorem size_all : ∀ N, SizeC N
 | 0 => fun v hv => absurd (bulkV_pos v) (by omega)
 | N + 1 => size_step (size_all N)
def DepthC (N : Nat) : Prop := ∀ v : V, bulkV v ≤ N → bulkV v ≤ 100000000000 → ∀ (z1 z2 : Nat) (lp : List PV) (t1 t2 : Bool) (Post : PV → List (Nat × Blk) → Prop), VPs v.l lp → (z1 = 5 ∨ v.l = []) → (z2 = 1 ∨ v.ns = []) → Post (.int .i64 (depthV v)) [] → Spec K 13 [.agg (vc v z1 lp t1 z2 t2)] [] Post
set_option maxHeartbeats 8000000 in
theorem depth_step {N : Nat} (ih : DepthC N) : DepthC (N + 1) := by
 intro v hs hs9 z1 z2 lp t1 t2 Post hl hz1 hz2 h
 obtain ⟨k, n, s, l, ns⟩ := v
 simp only [V.k, V.n, V.s, V.l, V.ns, vc] at *
 have hlp := VPs_len hl
 have hz1' : z1 = 5 ∨ lp = [] := hz1.imp (fun h => h) fun h => by rw [h] at hlp; exact List.length_eq_zero_iff.1 hlp
 simp only [bulkV] at hs hs9
 have hlb := len_sizeVs l
 have hsb := sizes_bulk l
 have hdl := depthVs_le l
 refine is13.specW K_ok K_mix false (by simp) (by simp [keys]) ?_
 (conv => whnf); repeat ((first | (apply And.intro;· exact Cl4) | apply T1 | apply T2 | apply T3 | apply T4 | apply T6 | apply T5); conv => whnf)
 rw [hlp]
 refine ⟨Nat, fun i => ⟨20, [(9, .int .i64 i), (8, .int .i64 l.length), (7, .sl z1 lp t1 true), (3, .int .i64 (depthVs (l.take i))), (1, .ptr 0 0)], [(0, .box [.int .i64 k, .int .i64 n, .str s, .sl z1 lp t1 true, .sl z2 (strs ns) t2 true])], []⟩, fun i => i ≤ l.length, fun i => l.length - i,
  ⟨[], 0, Nat.zero_le _, ?_⟩, fun i hI => ?_⟩
 ·simp [meets, ghosts, St.le, St.get, look, keys, PV.labs, labsL, lookB, Blk.labs, depthVs]
 ·have hI : i ≤ l.length := hI
  have hdb := depthVs_take_le l i
  conv => (arg 5; dsimp only)
  (conv => whnf); repeat ((first | (apply And.intro;· exact Cl4) | apply T1 | apply T2 | apply T3 | apply T4 | apply T6 | apply T5); conv => whnf)
  by_cases hix : i < l.length
  ·rw [decide_eq_true (show (i : Int) < (l.length : Int) by omega)]
   have hm := depthVs_take hix
   obtain ⟨y1, mp, u1, o1, y2, u2, o2, hp, hq, g1, g2, g3⟩ := (VPs_nth hl hix).out
   have hbm := bulkVs_mem hix
   (conv => whnf); repeat ((first | (apply And.intro;· exact Cl4) | apply T1 | apply T2 | apply T3 | apply T4 | apply T6 | apply T5); conv => whnf)
   rw [Int.toNat_natCast, hp]
   (conv => whnf); repeat ((first | (apply And.intro;· exact Cl4) | apply T1 | apply T2 | apply T3 | apply T4 | apply T6 | apply T5); conv => whnf)
   refine ih l[i] (by omega) (by omega) y1 y2 mp _ _ _ hq g1 g2 ?_
   (conv => whnf); repeat ((first | (apply And.intro;· exact Cl4) | apply T1 | apply T2 | apply T3 | apply T4 | apply T6 | apply T5); conv => whnf)
   rw [wrap64 (n := (i : Int) + 1) (by omega) (by omega)]
   refine ⟨[], i + 1, hix, by show l.length - (i + 1) < l.length - i; omega, ?_⟩
   have e : (if depthVs (l.take i) < depthV l[i] then (depthV l[i] : Int) else (depthVs (l.take i) : Int)) = (depthVs (l.take (i + 1)) : Int) := by
    split <;> omega
   simp [meets, ghosts, St.le, St.get, look, keys, PV.labs, labsL, lookB, Blk.labs, e]
  ·obtain rfl : i = l.length := by omega
   rw [decide_eq_false (show ¬ (l.length : Int) < (l.length : Int) by omega), List.take_length]
   (conv => whnf); repeat ((first | (apply And.intro;· exact Cl4) | apply T1 | apply T2 | apply T3 | apply T4 | apply T6 | apply T5); conv => whnf)
   rw [wrap64 (by omega) (by omega)]
   have e : (depthVs l : Int) + 1 = (depthV (.mk k n s l ns) : Nat) := by simp only [depthV]; omega
   rw [e]
   exact h
theorem depth_all : ∀ N, DepthC N
 | 0 => fun v hv => absurd (bulkV_pos v) (by omega)
 | N + 1 => depth_step (depth_all N)
end Go.Vc
