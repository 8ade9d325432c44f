/- What is proved here: contracts of functions of the program: of each function what it hands back and what it leaves in memory. Conditions: those that each theorem names. -/
import Derived.Test.YtmbopgmllnijjaaGreatTBg
import Derived.Test.YtmbopgmllnijjaaGreatTBa
import Derived.Test.YtmbopgmllnijjaaGreatTAw
import Derived.Test.YtmbopgmllnijjaaGreatTBc
import Derived.Test.YtmbopgmllnijjaaGreatTBd
set_option linter.unusedVariables false
set_option linter.unusedSimpArgs false
set_option linter.unusedSectionVars false
namespace Go.Vc
open Go Go.Proofs
set_option maxRecDepth 100000
theorem FnIs.specCr {C : Ctx} {f n : Nat} {rs : List ResultVar} {cd : Cd} (hF : FnIs C f n rs cd) (l : List Nat) (hT : TyOk C) (hmix : C.P.follows .mixedOrders = true) (gv : Bool) {args : List PV} {h : List (Nat × Blk)} {Post : PV → List (Nat × Blk) → Prop}
  (hlen : args.length ≤ n) (hnd : (keys h).Nodup) (hwp : forceSt (St.entry n args h) fun s => forceN (Vc.fresh h) fun n0 => forceNs (boxes h) fun kb => cdWp C (Spec C) (cd.cutAt l) (bodyF C gv n0 kb rs Post) s) : Spec C f args h Post := by
 obtain ⟨fn, c, pl, h1, h2, h3, _⟩ := hF.is
 exact spec_of_cspec h1 h2 h3 (hF.cspecC l hT hmix gv hlen hnd hwp)
set_option maxHeartbeats 32000000 in
theorem copyP_spec (p : PG) (zf : Nat) (lf : List PV) (tf : Bool) (zc : Nat) (lc : List PV) (tc : Bool) (hp : PGA p zf lf zc lc) (Post : PV → List (Nat × Blk) → Prop)
  (h : ∀ M N, FPs p.funcs M → VPs p.consts N → Post (.agg [.ref 4 0 0 p.funcs.length, .ref 5 1 0 p.consts.length]) [(0, .row 55 4 M true), (1, .row 58 5 N true)]) : Spec K 8 [.agg (pgc zf lf tf zc lc tc)] [] Post := by
 refine (is8.specCr [42] K_ok K_mix true (by simp) (by simp [keys]) ?_)
 have hfl := FPs_len hp.fs
 have hcl := VPs_len hp.cs
 have hz := zlf hp
 have hz2 : zc = 5 ∨ lc = [] := hp.zc.imp id fun h => by rw [h] at hcl; exact List.length_eq_zero_iff.1 hcl
 have hnf := hp.nf
 have hnc := hp.nc
 (conv => whnf); repeat ((first | (apply And.intro;· exact Cl4) | apply T1 | apply T2 | apply T3 | apply T4 | apply T6 | apply T5); conv => whnf)
 refine ⟨Nat × List PV, fun x => ⟨54, [(4, .int .i64 x.1), (3, .ptr 2 0), (2, .ptr 1 0), (1, .ptr 0 0)], [(0, .box (pgc zf lf tf zc lc tc)), (1, .box [.sl 0 [] true false, .sl 0 [] true false]), (2, .box [.ref 4 3 0 x.1, .sl 0 [] true false]), (3, .row 55 4 x.2 true)], []⟩, fun x => x.1 ≤ p.funcs.length ∧ FPs (p.funcs.take x.1) x.2, fun x => p.funcs.length - x.1, ⟨[.cell 2 0 55, .age 3], (0, []), ⟨Nat.zero_le _, rfl⟩, ?_⟩, fun x hI => ?_⟩
 ·simp [meets, ghosts, ghost, St.le, St.get, St.put, look, keys, PV.labs, labsL, lookB, Blk.labs, fresh, updB, nth]
  exact rfl
 ·obtain ⟨i, M⟩ := x
  obtain ⟨hi, hM⟩ := hI
  simp only at hi hM
  have hMl : M.length = i := by rw [FPs_len hM, List.length_take]; omega
  conv => (arg 5; dsimp only)
  (conv => whnf); repeat ((first | (apply And.intro;· exact Cl4) | apply T1 | apply T2 | apply T3 | apply T4 | apply T6 | apply T5); conv => whnf)
  rw [hfl]
  by_cases hix : i < p.funcs.length
  ·rw [decide_eq_true (show (i : Int) < (p.funcs.length : Int) by omega)]
   obtain ⟨z, t, o, hqf, hzc⟩ := FPs_nth hp.fs hix
   have hfb := hp.fb _ (List.getElem_mem hix)
   have htk : p.funcs.take (i + 1) = p.funcs.take i ++ [p.funcs[i]] := List.take_succ_eq_append_getElem hix
   generalize p.funcs[i] = f at *
   rw [← Int.toNat_natCast i] at hqf
   have hcm : (f.code.map INP).length = f.code.length := List.length_map _
   have hz3 : z = 3 ∨ f.code.map INP = [] := hzc.imp id fun h => by rw [h]; rfl
   have hfc := hfb.code
   have hfl3 : ∀ u ∈ f.code.map INP, u.cells.length = 3 ∧ u.cells.all PV.flat = true := fun u hu => by
    obtain ⟨_, _, rfl⟩ := List.mem_map.1 hu
    exact ⟨rfl, rfl⟩
   (conv => whnf); repeat' (first | ((first | (apply And.intro;· exact Cl4) | apply T1 | apply T2 | apply T3 | apply T4 | apply T6 | apply T5); conv => whnf) | (rw [hqf]; conv => whnf) | ((refine Both.mk ?_ ?_ <;> fail_if_success (intro _)) <;> conv => whnf))
   refine ⟨by show (0 + (f.code.map INP).length) * 25 ≤ _; rw [hcm]; omega, ?_⟩
   (conv => whnf); repeat ((first | (apply And.intro;· exact Cl4) | apply T1 | apply T2 | apply T3 | apply T4 | apply T6 | apply T5); conv => whnf)
   refine ⟨by show (i + 1) * 57 ≤ _; omega, ?_⟩
   (conv => whnf); repeat ((first | (apply And.intro;· exact Cl4) | apply T1 | apply T2 | apply T3 | apply T4 | apply T6 | apply T5); conv => whnf)
   rw [wrap64 (n := (i : Int) + 1) (by omega) (by omega)]
   refine ⟨[], (i + 1, M ++ [.agg (fdc f 3 false)]), ⟨hix, by show FPs (p.funcs.take (i + 1)) _; rw [htk]; exact FPs_snoc hM ⟨3, false, true, rfl, .inl rfl⟩⟩, by show p.funcs.length - (i + 1) < p.funcs.length - i; omega, ?_⟩
   have htM : List.take i M = M := List.take_of_length_le (by omega)
   have htc : List.take f.code.length (f.code.map INP) = f.code.map INP := List.take_of_length_le (by omega)
   simp [meets, ghosts, St.le, St.get, look, keys, PV.labs, labsL, lookB, Blk.labs, fdc, htM, htc]
   done
  ·obtain rfl : i = p.funcs.length := by omega
   rw [decide_eq_false (show ¬ (p.funcs.length : Int) < (p.funcs.length : Int) by omega)]
   rw [List.take_length] at hM
   (conv => whnf); repeat ((first | (apply And.intro;· exact Cl4) | apply T1 | apply T2 | apply T3 | apply T4 | apply T6 | apply T5); conv => whnf)
   refine ⟨Nat × List PV, fun x => ⟨54, [(6, .int .i64 x.1), (3, .ptr 2 0), (2, .ptr 1 0), (1, .ptr 0 0)], [(0, .box (pgc zf lf tf zc lc tc)), (1, .box [.sl 0 [] true false, .sl 0 [] true false]), (2, .box [.ref 4 3 0 p.funcs.length, .ref 5 4 0 x.1]), (3, .row 55 4 M true), (4, .row 58 5 x.2 true)], []⟩, fun x => x.1 ≤ p.consts.length ∧ VPs (p.consts.take x.1) x.2, fun x => p.consts.length - x.1, ⟨[.cell 2 1 58, .age 4], (0, []), ⟨Nat.zero_le _, rfl⟩, ?_⟩, fun x hI => ?_⟩
   ·simp [meets, ghosts, ghost, St.le, St.get, St.put, look, keys, PV.labs, labsL, lookB, Blk.labs, fresh, updB, nth]
    exact rfl
   ·obtain ⟨j, N⟩ := x
    obtain ⟨hj, hN⟩ := hI
    simp only at hj hN
    have hNl : N.length = j := by rw [VPs_len hN, List.length_take]; omega
    conv => (arg 5; dsimp only)
    (conv => whnf); repeat ((first | (apply And.intro;· exact Cl4) | apply T1 | apply T2 | apply T3 | apply T4 | apply T6 | apply T5); conv => whnf)
    rw [hcl]
    by_cases hjx : j < p.consts.length
    ·rw [decide_eq_true (show (j : Int) < (p.consts.length : Int) by omega)]
     have hb := (hp.cb _ (List.getElem_mem hjx)).2
     have hc := copyV_spec p.consts[j]
     obtain ⟨x1, bp, v1, u1, x2, v2, u2, hq, hv, r1, r2, r3⟩ := (VPs_nth hp.cs hjx).out
     have hq : nth lc (Int.toNat (j : Int)) = .agg [.int .i64 p.consts[j].k, .int .i64 p.consts[j].n, .str p.consts[j].s, .sl x1 bp v1 u1, .sl x2 (strs p.consts[j].ns) v2 u2] := by rw [Int.toNat_natCast]; exact hq
     have hva : VA p.consts[j] x1 bp x2 := ⟨hv, r1, r2, r3, by omega⟩
     have htk : p.consts.take (j + 1) = p.consts.take j ++ [p.consts[j]] := List.take_succ_eq_append_getElem hjx
     generalize p.consts[j] = w at *
     (conv => whnf); repeat ((first | (apply And.intro;· exact Cl4) | apply T1 | apply T2 | apply T3 | apply T4 | apply T6 | apply T5); conv => whnf)
     refine ⟨PV, fun R => ⟨54, [(6, .int .i64 j), (3, .ptr 2 0), (2, .ptr 1 0), (1, .ptr 0 0)], [(0, .box (pgc zf lf tf zc lc tc)), (1, .box [.sl 0 [] true false, .sl 0 [] true false]), (2, .box [.ref 4 3 0 p.funcs.length, .ref 5 4 0 (j + 1)]), (3, .row 55 4 M true), (4, .row 58 5 (N ++ [R]) true)], []⟩, fun R => VP w R, ?_, fun R hR => ?_⟩
     ·have htN : List.take j N = N := List.take_of_length_le (by omega)
      (conv => whnf); repeat' (first | ((first | (apply And.intro;· exact Cl4) | apply T1 | apply T2 | apply T3 | apply T4 | apply T6 | apply T5); conv => whnf) | (rw [hq]; conv => whnf) | (refine hc x1 bp _ x2 _ hva _ (fun y1 mp y2 hvo => ?_); conv => whnf) | ((refine ⟨by show (j + 1) * 81 ≤ _; omega, ?_⟩); conv => whnf) | ((refine Both.mk ?_ ?_ <;> fail_if_success (intro _)) <;> conv => whnf))
      all_goals (
       refine ⟨[], .agg (vc w y1 mp false y2 false), hvo.vp false false, ?_⟩
       simp [meets, ghosts, St.le, St.get, look, keys, PV.labs, labsL, lookB, Blk.labs, vc, htN])
     conv => (arg 4; dsimp only)
     (conv => whnf); repeat ((first | (apply And.intro;· exact Cl4) | apply T1 | apply T2 | apply T3 | apply T4 | apply T6 | apply T5); conv => whnf)
     rw [wrap64 (n := (j : Int) + 1) (by omega) (by omega)]
     refine ⟨[], (j + 1, N ++ [R]), ⟨hjx, by show VPs (p.consts.take (j + 1)) (N ++ [R]); rw [htk]; exact VPs_snoc hN hR⟩, by show p.consts.length - (j + 1) < p.consts.length - j; omega, ?_⟩
     simp [meets, ghosts, St.le, St.get, look, keys, PV.labs, labsL, lookB, Blk.labs]
    ·obtain rfl : j = p.consts.length := by omega
     rw [decide_eq_false (show ¬ (p.consts.length : Int) < (p.consts.length : Int) by omega)]
     rw [List.take_length] at hN
     (conv => whnf); repeat ((first | (apply And.intro;· exact Cl4) | apply T1 | apply T2 | apply T3 | apply T4 | apply T6 | apply T5); conv => whnf)
     exact h M N hM hN
end Go.Vc
namespace Go.Vc
open Go Go.Proofs
set_option maxRecDepth 100000
theorem PGA.own {p : PG} {zf zc : Nat} {lf lc M N : List PV} (hp : PGA p zf lf zc lc) (hM : FPs p.funcs M) (hN : VPs p.consts N) : PGA p 4 M 5 N := ⟨hM, hN, .inl rfl, .inl rfl, hp.nf, hp.nc, hp.fb, hp.cb⟩
end Go.Vc
namespace Go.Vc
open Go Go.Proofs
set_option maxRecDepth 100000
set_option maxHeartbeats 16000000 in
theorem bytes_law (hF : FitsC) (hW : WorksD) (hS : SameC) (p : PG) (zf : Nat) (lf : List PV) (tf : Bool) (zc : Nat) (lc : List PV) (tc : Bool) (hp : PGA p zf lf zc lc) : CSpec K 6 [.agg (pgc zf lf tf zc lc tc)] [] LawPost := by
 refine is6.cspecC [] K_ok K_mix false (by simp) (by simp [keys]) ?_
 have hnf := hp.nf
 have hnc := hp.nc
 (conv => whnf); repeat ((first | (apply And.intro;· exact Cl4) | apply T1 | apply T2 | apply T3 | apply T4 | apply T6 | apply T5); conv => whnf)
 refine copyP_spec p zf lf tf zc lc tc hp _ (fun M N hM hN => ?_)
 have hMl := FPs_len hM
 have hNl := VPs_len hN
 have hpo := hp.own hM hN
 have hMt : List.take p.funcs.length (List.drop 0 M) = M := by rw [List.drop_zero, List.take_of_length_le (by omega)]
 have hNt : List.take p.consts.length (List.drop 0 N) = N := by rw [List.drop_zero, List.take_of_length_le (by omega)]
 (conv => whnf); repeat ((first | (apply And.intro;· exact Cl4) | apply T1 | apply T2 | apply T3 | apply T4 | apply T6 | apply T5); conv => whnf)
 rw [hMt, hNt]
 by_cases hc : chkM p = 0
 ·refine (bytes_spec hF p 4 M _ 5 N _ hpo _ (fun h => absurd hc h) (fun _ => ?_)).of2
  (conv => whnf); repeat ((first | (apply And.intro;· exact Cl4) | apply T1 | apply T2 | apply T3 | apply T4 | apply T6 | apply T5); conv => whnf)
  refine bytesR_spec p zf lf tf zc lc tc hp _ (fun h => absurd hc h) (fun _ => ?_)
  (conv => whnf); repeat ((first | (apply And.intro;· exact Cl4) | apply T1 | apply T2 | apply T3 | apply T4 | apply T6 | apply T5); conv => whnf)
  have hlb := bytesM_len hc
  refine eq_spec (bytesM p) (bytesM p) 1 1 _ _ _ _ (.inl rfl) (.inl rfl) (by omega) _ ?_
  rw [beq_self_eq_true]
  (conv => whnf); repeat ((first | (apply And.intro;· exact Cl4) | apply T1 | apply T2 | apply T3 | apply T4 | apply T6 | apply T5); conv => whnf)
  rw [beq_self_eq_true]
  (conv => whnf); repeat ((first | (apply And.intro;· exact Cl4) | apply T1 | apply T2 | apply T3 | apply T4 | apply T6 | apply T5); conv => whnf)
  rw [hMt, hNt]
  refine hS p 4 M _ 5 N _ zf lf tf zc lc tc hpo hp _ ?_
  (conv => whnf); repeat ((first | (apply And.intro;· exact Cl4) | apply T1 | apply T2 | apply T3 | apply T4 | apply T6 | apply T5); conv => whnf)
  refine hW _ ?_
  (conv => whnf); repeat ((first | (apply And.intro;· exact Cl4) | apply T1 | apply T2 | apply T3 | apply T4 | apply T6 | apply T5); conv => whnf)
 ·refine (bytes_spec hF p 4 M _ 5 N _ hpo _ (fun _ => ?_) (fun h => absurd h hc)).of2
  (conv => whnf); repeat ((first | (apply And.intro;· exact Cl4) | apply T1 | apply T2 | apply T3 | apply T4 | apply T6 | apply T5); conv => whnf)
  refine bytesR_spec p zf lf tf zc lc tc hp _ (fun _ => ?_) (fun h => absurd h hc)
  (conv => whnf); repeat ((first | (apply And.intro;· exact Cl4) | apply T1 | apply T2 | apply T3 | apply T4 | apply T6 | apply T5); conv => whnf)
  refine eq_spec [] [] 0 0 _ _ _ _ (.inr rfl) (.inr rfl) (by decide) _ ?_
  rw [beq_self_eq_true]
  (conv => whnf); repeat ((first | (apply And.intro;· exact Cl4) | apply T1 | apply T2 | apply T3 | apply T4 | apply T6 | apply T5); conv => whnf)
  rw [beq_self_eq_true]
  (conv => whnf); repeat ((first | (apply And.intro;· exact Cl4) | apply T1 | apply T2 | apply T3 | apply T4 | apply T6 | apply T5); conv => whnf)
  rw [hMt, hNt]
  refine hS p 4 M _ 5 N _ zf lf tf zc lc tc hpo hp _ ?_
  (conv => whnf); repeat ((first | (apply And.intro;· exact Cl4) | apply T1 | apply T2 | apply T3 | apply T4 | apply T6 | apply T5); conv => whnf)
  refine hW _ ?_
  (conv => whnf); repeat ((first | (apply And.intro;· exact Cl4) | apply T1 | apply T2 | apply T3 | apply T4 | apply T6 | apply T5); conv => whnf)
end Go.Vc
