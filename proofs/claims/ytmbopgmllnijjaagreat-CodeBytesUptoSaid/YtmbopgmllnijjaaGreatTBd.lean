/- What is proved here: contracts of functions of the program: of each function what it hands back and what it leaves in memory. Conditions: those that each theorem names. -/
import Derived.Test.YtmbopgmllnijjaaGreatTAt
import Derived.Test.YtmbopgmllnijjaaGreatTAw
import Derived.Test.YtmbopgmllnijjaaGreatTAy
import Derived.Test.YtmbopgmllnijjaaGreatTBa
import Derived.Test.YtmbopgmllnijjaaGreatTBc
set_option linter.unusedVariables false
set_option linter.unusedSimpArgs false
set_option linter.unusedSectionVars false
namespace Go.Vc
open Go Go.Proofs
set_option maxRecDepth 100000
theorem valueBytesR_spec (v : V) (z1 z2 : Nat) (lp : List PV) (t1 t2 : Bool) (Post : PV → List (Nat × Blk) → Prop) (a : VA v z1 lp z2)
  (h1 : mayV v = true → Post (.tup [.sl 1 (bs (writeV v)) false true, .int .i64 0]) []) (h2 : mayV v = false → Post (.tup [.sl 0 [] false true, .int .i64 2]) []) :
  Spec K 52 [.agg (vc v z1 lp t1 z2 t2)] [] Post := by
 refine is52.specW K_ok K_mix false (by simp) (by simp [keys]) ?_
 (conv => whnf); repeat ((first | (apply And.intro;· exact Cl3) | apply T1 | apply T2 | apply T3 | apply T4 | apply T6 | apply T5); conv => whnf)
 refine may_spec v z1 z2 lp t1 t2 _ a ?_
 cases hm : mayV v
 ·(conv => whnf); repeat ((first | (apply And.intro;· exact Cl3) | apply T1 | apply T2 | apply T3 | apply T4 | apply T6 | apply T5); conv => whnf)
  exact h2 hm
 ·(conv => whnf); repeat ((first | (apply And.intro;· exact Cl3) | apply T1 | apply T2 | apply T3 | apply T4 | apply T6 | apply T5); conv => whnf)
  refine writeR_spec 100000000000 v.k v.n v.s v.l v.ns (by rw [V.eta]; exact a.b) (by omega) z1 z2 lp t1 t2 _ a.l a.z1 a.z2 (by rw [V.eta]; exact allV_of hm) ?_
  rw [V.eta]
  (conv => whnf); repeat ((first | (apply And.intro;· exact Cl3) | apply T1 | apply T2 | apply T3 | apply T4 | apply T6 | apply T5); conv => whnf)
  exact h1 hm
theorem twoR_spec (n : Int) (h0 : 0 ≤ n) (h1 : n ≤ 1000000000) (Post : PV → List (Nat × Blk) → Prop) (h : Post (.sl 1 (bs (twoB n)) false true) []) : Spec K 51 [.int .i64 n] [] Post := by
 refine is51.specW K_ok K_mix false (by simp) (by simp [keys]) ?_
 (conv => whnf); repeat ((first | (apply And.intro;· exact Cl4) | apply T1 | apply T2 | apply T3 | apply T4 | apply T6 | apply T5); conv => whnf)
 have e1 : IntKind.u8.wrap (IntKind.i64.wrap (n.tdiv 256)) = ((ub (n / 256)).toNat : Int) := by
  rw [Int.tdiv_eq_ediv_of_nonneg h0, wrap64 (by omega) (by omega), wrapub]
 have e2 : IntKind.u8.wrap (n.tmod 256) = ((ub n).toNat : Int) := by
  rw [Int.tmod_eq_emod_of_nonneg h0, wrapub]
  unfold ub
  rw [Int.emod_emod_of_dvd n (Int.dvd_refl 256)]
 rw [e1, e2]
 exact h
set_option maxHeartbeats 32000000 in
theorem bytesR_spec (p : PG) (zf : Nat) (lf : List PV) (tf : Bool) (zc : Nat) (lc : List PV) (tc : Bool) (hp : PGA p zf lf zc lc) (Post : PV → List (Nat × Blk) → Prop)
  (h0 : chkM p ≠ 0 → Post (.tup [.sl 0 [] false true, .int .i64 (chkM p)]) []) (h1 : chkM p = 0 → Post (.tup [.sl 1 (bs (bytesM p)) false true, .int .i64 0]) []) : Spec K 20 [.agg (pgc zf lf tf zc lc tc)] [] Post := by
 refine is20.specW K_ok K_mix false (by simp) (by simp [keys]) ?_
 have hfl := FPs_len hp.fs
 have hcl := VPs_len hp.cs
 have hz := zlf hp
 have hz2 : zc = 5 ∨ lc = [] := hp.zc.imp id fun h => by rw [h] at hcl; exact List.length_eq_zero_iff.1 hcl
 have hnf := hp.nf
 have hnc := hp.nc
 (conv => whnf); repeat ((first | (apply And.intro;· exact Cl4) | apply T1 | apply T2 | apply T3 | apply T4 | apply T6 | apply T5); conv => whnf)
 refine chkR_spec p zf lf tf zc lc tc hp _ ?_
 by_cases hc : chkM p = 0
 case neg =>
  have hc2 : (chkM p != 0) = true := by simpa using hc
  (conv => whnf); repeat ((first | (apply And.intro;· exact Cl4) | apply T1 | apply T2 | apply T3 | apply T4 | apply T6 | apply T5); conv => whnf)
  rw [hc2]
  (conv => whnf); repeat ((first | (apply And.intro;· exact Cl4) | apply T1 | apply T2 | apply T3 | apply T4 | apply T6 | apply T5); conv => whnf)
  exact h0 hc
 case pos =>
 have hmay := chk_may hc
 obtain ⟨hc256, hcv⟩ := chk_consts hc
 rw [hc]
 (conv => whnf); repeat ((first | (apply And.intro;· exact Cl4) | apply T1 | apply T2 | apply T3 | apply T4 | apply T6 | apply T5); conv => whnf)
 rw [hcl]
 refine twoR_spec p.consts.length (by omega) (by omega) _ ?_
 (conv => whnf); repeat ((first | (apply And.intro;· exact Cl4) | apply T1 | apply T2 | apply T3 | apply T4 | apply T6 | apply T5); conv => whnf)
 have hb0 : (1 : UInt8) :: twoB p.consts.length = constsB p 0 := by simp [constsB]
 refine ⟨Nat, fun i => ⟨124, [(6, .int .i64 i), (5, .ref 1 1 0 (constsB p i).length), (1, .ptr 0 0)], [(0, .box (pgc zf lf tf zc lc tc)), (1, .row 5 1 (bs (constsB p i)) true)], []⟩, fun i => i ≤ p.consts.length, fun i => p.consts.length - i, ⟨[], 0, Nat.zero_le _, ?_⟩, fun i hi => ?_⟩
 ·simp [meets, ghosts, St.le, St.get, look, keys, PV.labs, labsL, lookB, Blk.labs, ← hb0, twoB, bs]
  done
 conv => (arg 5; dsimp only)
 (conv => whnf); repeat ((first | (apply And.intro;· exact Cl4) | apply T1 | apply T2 | apply T3 | apply T4 | apply T6 | apply T5); conv => whnf)
 rw [hcl]
 have hlen := constsB_len hp i hi
 by_cases hix : i < p.consts.length
 ·rw [decide_eq_true (show (i : Int) < (p.consts.length : Int) by omega)]
  have hm := List.getElem_mem hix
  obtain ⟨y1, mp, u1, o1, y2, u2, o2, hq, hv, g1, g2, g3⟩ := (VPs_nth hp.cs hix).out
  have hq : nth lc (Int.toNat (i : Int)) = .agg [.int .i64 p.consts[i].k, .int .i64 p.consts[i].n, .str p.consts[i].s, .sl y1 mp u1 o1, .sl y2 (strs p.consts[i].ns) u2 o2] := by rw [Int.toNat_natCast]; exact hq
  have hbv := (hp.cb _ hm).2
  have hwl := writeV_len p.consts[i]
  have hsu := constsB_succ p hix
  have hmv := hcv _ hm
  (conv => whnf); repeat ((first | (apply And.intro;· exact Cl4) | apply T1 | apply T2 | apply T3 | apply T4 | apply T6 | apply T5); conv => whnf)
  rw [hq]
  (conv => whnf); repeat ((first | (apply And.intro;· exact Cl4) | apply T1 | apply T2 | apply T3 | apply T4 | apply T6 | apply T5); conv => whnf)
  refine valueBytesR_spec p.consts[i] y1 y2 mp _ _ _ ⟨hv, g1, g2, g3, by omega⟩ (fun _ => ?_) (fun hf => by rw [hmv] at hf; cases hf)
  (conv => whnf); repeat ((first | (apply And.intro;· exact Cl4) | apply T1 | apply T2 | apply T3 | apply T4 | apply T6 | apply T5); conv => whnf)
  refine ⟨by show ((constsB p i).length + (bs (writeV p.consts[i])).length) * 2 ≤ _; rw [bs_len]; omega, ?_⟩
  (conv => whnf); repeat ((first | (apply And.intro;· exact Cl4) | apply T1 | apply T2 | apply T3 | apply T4 | apply T6 | apply T5); conv => whnf)
  rw [wrap64 (n := (i : Int) + 1) (by omega) (by omega)]
  refine ⟨[], i + 1, hix, by show p.consts.length - (i + 1) < p.consts.length - i; omega, ?_⟩
  simp [meets, ghosts, St.le, St.get, look, keys, PV.labs, labsL, lookB, Blk.labs, hsu, bs_app, bs_len, tkb]
 obtain rfl : i = p.consts.length := by omega
 rw [decide_eq_false (show ¬ (p.consts.length : Int) < (p.consts.length : Int) by omega)]
 (conv => whnf); repeat ((first | (apply And.intro;· exact Cl4) | apply T1 | apply T2 | apply T3 | apply T4 | apply T6 | apply T5); conv => whnf)
 rw [hfl, wrapub]
 refine ⟨by show ((constsB p p.consts.length).length + 1) * 2 ≤ _; omega, ?_⟩
 (conv => whnf); repeat ((first | (apply And.intro;· exact Cl4) | apply T1 | apply T2 | apply T3 | apply T4 | apply T6 | apply T5); conv => whnf)
 have hb1 : constsB p p.consts.length ++ [ub p.funcs.length] = bytesI p 0 := by simp [bytesI]
 refine ⟨Nat, fun j => ⟨124, [(9, .int .i64 j), (5, .ref 1 1 0 (bytesI p j).length), (1, .ptr 0 0)], [(0, .box (pgc zf lf tf zc lc tc)), (1, .row 5 1 (bs (bytesI p j)) true)], []⟩, fun j => j ≤ p.funcs.length, fun j => p.funcs.length - j, ⟨[], 0, Nat.zero_le _, ?_⟩, fun j hj => ?_⟩
 ·simp [meets, ghosts, St.le, St.get, look, keys, PV.labs, labsL, lookB, Blk.labs, ← hb1, bs_app, tkb]
  rfl
 conv => (arg 5; dsimp only)
 (conv => whnf); repeat ((first | (apply And.intro;· exact Cl4) | apply T1 | apply T2 | apply T3 | apply T4 | apply T6 | apply T5); conv => whnf)
 rw [hfl]
 have hlen2 := bytesI_len hp hc256 (fun f hf => Nat.le_trans (hmay.len f hf) (by decide)) j hj
 have hf16 := hmay.few
 by_cases hjx : j < p.funcs.length
 rotate_left
 ·obtain rfl : j = p.funcs.length := by omega
  rw [decide_eq_false (show ¬ (p.funcs.length : Int) < (p.funcs.length : Int) by omega)]
  (conv => whnf); repeat ((first | (apply And.intro;· exact Cl4) | apply T1 | apply T2 | apply T3 | apply T4 | apply T6 | apply T5); conv => whnf)
  rw [List.drop_zero, tkb]
  exact h1 hc
 rw [decide_eq_true (show (j : Int) < (p.funcs.length : Int) by omega)]
 have hm := List.getElem_mem hjx
 obtain ⟨z, t, o, hqf, hzc⟩ := FPs_nth hp.fs hjx
 have hqf : nth lf (Int.toNat (j : Int)) = .agg [.str p.funcs[j].name, .int .i64 p.funcs[j].args, .int .i64 p.funcs[j].locals, .sl z (p.funcs[j].code.map INP) t o] := by rw [Int.toNat_natCast]; exact hqf
 have hsu := bytesI_succ p hjx
 have hfb := hp.fb _ hm
 have hcl2 := hmay.len _ hm
 obtain ⟨fb1, fb2, fb3, fb4, fb5⟩ := hfb
 (conv => whnf); repeat ((first | (apply And.intro;· exact Cl4) | apply T1 | apply T2 | apply T3 | apply T4 | apply T6 | apply T5); conv => whnf)
 rw [hqf]
 (conv => whnf); repeat ((first | (apply And.intro;· exact Cl4) | apply T1 | apply T2 | apply T3 | apply T4 | apply T6 | apply T5); conv => whnf)
 generalize hBj : bytesI p j = B at *
 generalize p.funcs[j] = f at *
 rw [wrapub]
 refine ⟨by show (B.length + 1) * 2 ≤ _; omega, ?_⟩
 (conv => whnf); repeat ((first | (apply And.intro;· exact Cl4) | apply T1 | apply T2 | apply T3 | apply T4 | apply T6 | apply T5); conv => whnf)
 refine ⟨by show (B.length + 1 + (List.map (fun c => PV.int IntKind.u8 ((c : UInt8).toNat : Int)) f.name).length) * 2 ≤ _; rw [List.length_map]; omega, ?_⟩
 (conv => whnf); repeat ((first | (apply And.intro;· exact Cl4) | apply T1 | apply T2 | apply T3 | apply T4 | apply T6 | apply T5); conv => whnf)
 rw [wrapub, wrapub]
 refine ⟨by show (B.length + 1 + (List.map (fun c => PV.int IntKind.u8 ((c : UInt8).toNat : Int)) f.name).length + 2) * 2 ≤ _; rw [List.length_map]; omega, ?_⟩
 (conv => whnf); repeat ((first | (apply And.intro;· exact Cl4) | apply T1 | apply T2 | apply T3 | apply T4 | apply T6 | apply T5); conv => whnf)
 have hcm : (f.code.map INP).length = f.code.length := List.length_map _
 rw [hcm]
 refine twoR_spec f.code.length (by omega) (by omega) _ ?_
 (conv => whnf); repeat ((first | (apply And.intro;· exact Cl4) | apply T1 | apply T2 | apply T3 | apply T4 | apply T6 | apply T5); conv => whnf)
 refine ⟨by show (B.length + 1 + (List.map (fun c => PV.int IntKind.u8 ((c : UInt8).toNat : Int)) f.name).length + 2 + 2) * 2 ≤ _; rw [List.length_map]; omega, ?_⟩
 (conv => whnf); repeat ((first | (apply And.intro;· exact Cl4) | apply T1 | apply T2 | apply T3 | apply T4 | apply T6 | apply T5); conv => whnf)
 have hmf : f ∈ p.funcs := hm
 obtain ⟨b1, b2, b3, _⟩ := head_b (hmay.head f hmf)
 have hzy : z = 3 ∨ f.code.map INP = [] := hzc.imp id fun h => by rw [h]; rfl
 have hlb : (B ++ headB f).length = B.length + f.name.length + 5 := by simp only [headB, twoB, List.length_append, List.length_cons, List.length_nil]; omega
 refine ⟨Nat, fun k => ⟨124, [(11, .int .i64 k), (10, .ptr 2 0), (9, .int .i64 j), (5, .ref 1 1 0 (B ++ headB f ++ (f.code.take k).flatMap insB).length), (1, .ptr 0 0)], [(0, .box (pgc zf lf tf zc lc tc)), (1, .row 5 1 (bs (B ++ headB f ++ (f.code.take k).flatMap insB)) true), (2, .box (fdc f z t))], []⟩, fun k => k ≤ f.code.length, fun k => f.code.length - k, ⟨[], 0, Nat.zero_le _, ?_⟩, fun k hk => ?_⟩
 ·simp [meets, ghosts, St.le, St.get, look, keys, PV.labs, labsL, lookB, Blk.labs, headB, twoB, bs_len, bs_app, tkb, mapb]
  refine ⟨by omega, ?_⟩
  rw [List.take_of_length_le (show (bs B ++ [PV.int IntKind.u8 ((ub (f.name.length : Int)).toNat : Int)]).length ≤ B.length + 1 by simp [bs_len])]
  rw [List.take_of_length_le (show (bs B ++ [PV.int IntKind.u8 ((ub (f.name.length : Int)).toNat : Int)] ++ bs f.name).length ≤ B.length + 1 + f.name.length by simp [bs_len]; omega)]
  rw [List.take_of_length_le (by simp [bs_len]; omega)]
  simp [bs]
 conv => (arg 5; dsimp only)
 have hln : (B ++ headB f ++ (f.code.take k).flatMap insB).length = B.length + f.name.length + 5 + 5 * k := by rw [List.length_append, insB_len, List.length_take, hlb]; omega
 have hsk := fun h => code_succ f.code (i := k) h
 generalize hBk : B ++ headB f ++ (f.code.take k).flatMap insB = Bk at *
 (conv => whnf); repeat ((first | (apply And.intro;· exact Cl4) | apply T1 | apply T2 | apply T3 | apply T4 | apply T6 | apply T5); conv => whnf)
 rw [hcm]
 by_cases hkx : k < f.code.length
 rotate_left
 ·obtain rfl : k = f.code.length := by omega
  rw [decide_eq_false (show ¬ (f.code.length : Int) < (f.code.length : Int) by omega)]
  (conv => whnf); repeat ((first | (apply And.intro;· exact Cl4) | apply T1 | apply T2 | apply T3 | apply T4 | apply T6 | apply T5); conv => whnf)
  rw [wrap64 (n := (j : Int) + 1) (by omega) (by omega)]
  refine ⟨[], j + 1, hjx, by show p.funcs.length - (j + 1) < p.funcs.length - j; omega, ?_⟩
  have hfin : bytesI p (j + 1) = Bk := by rw [hsu, ← hBk, List.take_length, funB, List.append_assoc]
  simp only [hfin]
  simp [meets, ghosts, St.le, St.get, look, keys, PV.labs, labsL, lookB, Blk.labs]
 rw [decide_eq_true (show (k : Int) < (f.code.length : Int) by omega)]
 have hqx : nth (f.code.map INP) (Int.toNat (k : Int)) = .agg [.int .i64 f.code[k].op, .int .i64 f.code[k].a, .int .i64 f.code[k].b] := by rw [Int.toNat_natCast]; exact code_nth hkx
 obtain ⟨c1, c2, c3⟩ := ins_b hc256 hmay.few hcl2 b3.2 (hmay.ins f hmf _ (List.getElem_mem hkx))
 have hsk := hsk hkx
 generalize f.code[k] = x at *
 (conv => whnf); repeat ((first | (apply And.intro;· exact Cl4) | apply T1 | apply T2 | apply T3 | apply T4 | apply T6 | apply T5); conv => whnf)
 rw [hqx]
 (conv => whnf); repeat ((first | (apply And.intro;· exact Cl4) | apply T1 | apply T2 | apply T3 | apply T4 | apply T6 | apply T5); conv => whnf)
 rw [wrapub]
 refine ⟨by show (Bk.length + 1) * 2 ≤ _; omega, ?_⟩
 (conv => whnf); repeat ((first | (apply And.intro;· exact Cl4) | apply T1 | apply T2 | apply T3 | apply T4 | apply T6 | apply T5); conv => whnf)
 rw [hqx]
 (conv => whnf); repeat ((first | (apply And.intro;· exact Cl4) | apply T1 | apply T2 | apply T3 | apply T4 | apply T6 | apply T5); conv => whnf)
 refine twoR_spec x.a (by omega) (by omega) _ ?_
 (conv => whnf); repeat ((first | (apply And.intro;· exact Cl4) | apply T1 | apply T2 | apply T3 | apply T4 | apply T6 | apply T5); conv => whnf)
 refine ⟨by show (Bk.length + 1 + 2) * 2 ≤ _; omega, ?_⟩
 (conv => whnf); repeat ((first | (apply And.intro;· exact Cl4) | apply T1 | apply T2 | apply T3 | apply T4 | apply T6 | apply T5); conv => whnf)
 rw [hqx]
 (conv => whnf); repeat ((first | (apply And.intro;· exact Cl4) | apply T1 | apply T2 | apply T3 | apply T4 | apply T6 | apply T5); conv => whnf)
 refine twoR_spec x.b (by omega) (by omega) _ ?_
 (conv => whnf); repeat ((first | (apply And.intro;· exact Cl4) | apply T1 | apply T2 | apply T3 | apply T4 | apply T6 | apply T5); conv => whnf)
 refine ⟨by show (Bk.length + 1 + 2 + 2) * 2 ≤ _; omega, ?_⟩
 (conv => whnf); repeat ((first | (apply And.intro;· exact Cl4) | apply T1 | apply T2 | apply T3 | apply T4 | apply T6 | apply T5); conv => whnf)
 rw [wrap64 (n := (k : Int) + 1) (by omega) (by omega)]
 refine ⟨[], k + 1, hkx, by show f.code.length - (k + 1) < f.code.length - k; omega, ?_⟩
 have hfin : B ++ headB f ++ (f.code.take (k + 1)).flatMap insB = Bk ++ insB x := by rw [hsk, ← List.append_assoc, hBk]
 simp only [hfin]
 simp [meets, ghosts, St.le, St.get, look, keys, PV.labs, labsL, lookB, Blk.labs, insB, twoB, bs_len, bs_app, tkb]
 rw [List.take_of_length_le (show (bs Bk ++ [PV.int IntKind.u8 ((ub x.op).toNat : Int)]).length ≤ Bk.length + 1 by simp [bs_len])]
 rw [List.take_of_length_le (by simp [bs_len])]
 simp [bs]
end Go.Vc
