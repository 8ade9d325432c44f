/- What is proved here: contracts of functions of the program: of each function what it hands back and what it leaves in memory. Conditions: those that each theorem names. -/
import Derived.Test.YtmbopgmllnijjaaGreatTBe
set_option linter.unusedVariables false
set_option linter.unusedSimpArgs false
set_option linter.unusedSectionVars false
namespace Go.Vc
open Go Go.Proofs
set_option maxRecDepth 100000
def insB (x : IN) : List UInt8 := ub x.op :: (twoB x.a ++ twoB x.b)
def headB (f : FD) : List UInt8 := ub f.name.length :: f.name ++ [ub f.args, ub f.locals] ++ twoB f.code.length
def funB (f : FD) : List UInt8 := headB f ++ f.code.flatMap insB
def constsB (p : PG) (i : Nat) : List UInt8 := 1 :: twoB p.consts.length ++ (p.consts.take i).flatMap writeV
def bytesI (p : PG) (j : Nat) : List UInt8 := constsB p p.consts.length ++ [ub p.funcs.length] ++ (p.funcs.take j).flatMap funB
def bytesM (p : PG) : List UInt8 := bytesI p p.funcs.length
theorem constsB_succ (p : PG) {i : Nat} (h : i < p.consts.length) : constsB p (i + 1) = constsB p i ++ writeV p.consts[i] := by
 unfold constsB
 rw [List.take_succ_eq_append_getElem h, List.flatMap_append]
 simp
theorem bytesI_succ (p : PG) {i : Nat} (h : i < p.funcs.length) : bytesI p (i + 1) = bytesI p i ++ funB p.funcs[i] := by
 unfold bytesI
 rw [List.take_succ_eq_append_getElem h, List.flatMap_append]
 simp
theorem code_succ (c : List IN) {i : Nat} (h : i < c.length) : (c.take (i + 1)).flatMap insB = (c.take i).flatMap insB ++ insB c[i] := by
 rw [List.take_succ_eq_append_getElem h, List.flatMap_append]
 simp
theorem insB_len (c : List IN) : (c.flatMap insB).length = 5 * c.length := by
 induction c with
 | nil => rfl
 | cons x r ih => rw [List.flatMap_cons, List.length_append, ih]; simp [insB, twoB]; omega
theorem constsB_len {p : PG} {zf zc : Nat} {lf lc : List PV} (hp : PGA p zf lf zc lc) : ∀ i, i ≤ p.consts.length → (constsB p i).length ≤ 3 + i * 20000000000
 | 0, _ => by simp [constsB, twoB]
 | i + 1, h => by
  have := constsB_len hp i (by omega)
  have h2 := writeV_len p.consts[i]
  have h3 := (hp.cb _ (List.getElem_mem (show i < p.consts.length from h))).2
  rw [constsB_succ p h, List.length_append]
  omega
theorem bytesI_len {p : PG} {zf zc : Nat} {lf lc : List PV} (hp : PGA p zf lf zc lc) (hc : p.consts.length ≤ 256) (hcl : ∀ f ∈ p.funcs, f.code.length ≤ 1000) : ∀ j, j ≤ p.funcs.length → (bytesI p j).length ≤ 6000000000000 + j * 1000010000
 | 0, _ => by
  have := constsB_len hp p.consts.length (Nat.le_refl _)
  simp only [bytesI, List.length_append, List.take_zero, List.flatMap_nil, List.length_nil, List.length_cons]
  omega
 | j + 1, h => by
  have := bytesI_len hp hc hcl j (by omega)
  have hm := List.getElem_mem (show j < p.funcs.length from h)
  have h2 := (hp.fb _ hm).name
  have h3 := hcl _ hm
  rw [bytesI_succ p h, List.length_append, funB, List.length_append, insB_len]
  simp only [headB, twoB, List.length_append, List.length_cons, List.length_nil]
  omega
theorem tkb (a : List UInt8) : List.take a.length (bs a) = bs a := List.take_of_length_le (by rw [bs_len]; exact Nat.le_refl _)
theorem tkc (a : List UInt8) (n : Nat) (h : a.length ≤ n) : List.take n (bs a) = bs a := List.take_of_length_le (by rw [bs_len]; exact h)
theorem mapb (l : List UInt8) : List.map (fun c => PV.int IntKind.u8 ((c : UInt8).toNat : Int)) l = bs l := rfl
theorem chk_consts {p : PG} (h : chkM p = 0) : p.consts.length ≤ 256 ∧ ∀ v ∈ p.consts, mayV v = true := by
 unfold chkM at h
 split at h
 ·cases h
 rename_i h1
 split at h
 ·cases h
 rename_i h2
 refine ⟨Nat.le_of_not_lt fun hc => h1 (.inr (.inl hc)), fun v hv => ?_⟩
 cases hm : mayV v with
 | true => rfl
 | false => exact absurd (.inr (.inl (List.any_eq_true.2 ⟨v, hv, by rw [hm]; rfl⟩))) h2
set_option maxHeartbeats 32000000 in
theorem bytes_spec (hF : FitsC) (p : PG) (zf : Nat) (lf : List PV) (tf : Bool) (zc : Nat) (lc : List PV) (tc : Bool) (hp : PGA p zf lf zc lc) (Post : PV → List (Nat × Blk) → Prop)
  (h0 : chkM p ≠ 0 → Post (.tup [.sl 0 [] false true, .int .i64 (chkM p)]) []) (h1 : chkM p = 0 → Post (.tup [.sl 1 (bs (bytesM p)) false true, .int .i64 0]) []) : Spec K2 19 [.agg (pgc zf lf tf zc lc tc)] [] Post := by
 refine is19.to2.specC [55, 63, 82] K2_ok K2_mix false (by simp) (by simp [keys]) ?_
 have hfl := FPs_len hp.fs
 have hcl := VPs_len hp.cs
 have hz := zlf hp
 have hz2 : zc = 5 ∨ lc = [] := hp.zc.imp id fun h => by rw [h] at hcl; exact List.length_eq_zero_iff.1 hcl
 have hnf := hp.nf
 have hnc := hp.nc
 (conv => whnf); repeat ((first | (apply And.intro;· exact Cl4) | apply T1 | apply T2 | apply T3 | apply T4 | apply T6 | apply T5); conv => whnf)
 refine (chk_spec hF p zf lf tf zc lc tc hp _ ?_).to2
 by_cases hc : chkM p = 0
 case neg =>
  have hc2 : (chkM p != 0) = true := by simpa using hc
  (conv => whnf); repeat ((first | (apply And.intro;· exact Cl4) | apply T1 | apply T2 | apply T3 | apply T4 | apply T6 | apply T5); conv => whnf)
  rw [hc2]
  (conv => whnf); repeat ((first | (apply And.intro;· exact Cl4) | apply T1 | apply T2 | apply T3 | apply T4 | apply T6 | apply T5); conv => whnf)
  exact h0 hc
 case pos =>
 have hmay := chk_may hc
 obtain ⟨hc256, hcv⟩ := chk_consts hc
 rw [hc]
 (conv => whnf); repeat ((first | (apply And.intro;· exact Cl4) | apply T1 | apply T2 | apply T3 | apply T4 | apply T6 | apply T5); conv => whnf)
 refine put2_spec [1] _ (by decide) _ ?_
 (conv => whnf); repeat ((first | (apply And.intro;· exact Cl4) | apply T1 | apply T2 | apply T3 | apply T4 | apply T6 | apply T5); conv => whnf)
 rw [hcl]
 have hb0 : (1 : UInt8) :: twoB p.consts.length = constsB p 0 := by simp [constsB]
 refine ⟨Nat, fun i => ⟨95, [(27, .int .i64 i), (26, .int .i64 p.consts.length), (25, .sl zc lc tc true), (5, .ref 1 1 0 (constsB p i).length), (1, .ptr 0 0)], [(0, .box (pgc zf lf tf zc lc tc)), (1, .row 5 1 (bs (constsB p i)) true)], []⟩, fun i => i ≤ p.consts.length, fun i => p.consts.length - i, ⟨[], 0, Nat.zero_le _, ?_⟩, fun i hi => ?_⟩
 ·simp [meets, ghosts, St.le, St.get, look, keys, PV.labs, labsL, lookB, Blk.labs, ← hb0, twoB]
  done
 ·conv => (arg 5; dsimp only)
  (conv => whnf); repeat ((first | (apply And.intro;· exact Cl4) | apply T1 | apply T2 | apply T3 | apply T4 | apply T6 | apply T5); conv => whnf)
  have hlen := constsB_len hp i hi
  by_cases hix : i < p.consts.length
  ·rw [decide_eq_true (show (i : Int) < (p.consts.length : Int) by omega)]
   have hm := List.getElem_mem hix
   obtain ⟨y1, mp, u1, o1, y2, u2, o2, hq, hv, g1, g2, g3⟩ := (VPs_nth hp.cs hix).out
   have hq : nth lc (Int.toNat (i : Int)) = .agg [.int .i64 p.consts[i].k, .int .i64 p.consts[i].n, .str p.consts[i].s, .sl y1 mp u1 o1, .sl y2 (strs p.consts[i].ns) u2 o2] := by rw [Int.toNat_natCast]; exact hq
   have hbv := (hp.cb _ hm).2
   have hwl := writeV_len p.consts[i]
   have hsu := constsB_succ p hix
   have hmv := hcv _ hm
   (conv => whnf); repeat ((first | (apply And.intro;· exact Cl4) | apply T1 | apply T2 | apply T3 | apply T4 | apply T6 | apply T5); conv => whnf)
   rw [hq]
   (conv => whnf); repeat ((first | (apply And.intro;· exact Cl4) | apply T1 | apply T2 | apply T3 | apply T4 | apply T6 | apply T5); conv => whnf)
   refine (valueBytes_spec p.consts[i] y1 y2 mp _ _ _ ⟨hv, g1, g2, g3, by omega⟩ (fun _ => ?_) (fun hf => by rw [hmv] at hf; cases hf)).to2
   (conv => whnf); repeat ((first | (apply And.intro;· exact Cl4) | apply T1 | apply T2 | apply T3 | apply T4 | apply T6 | apply T5); conv => whnf)
   refine ⟨by show ((constsB p i).length + (bs (writeV p.consts[i])).length) * 2 ≤ _; rw [bs_len]; omega, ?_⟩
   (conv => whnf); repeat ((first | (apply And.intro;· exact Cl4) | apply T1 | apply T2 | apply T3 | apply T4 | apply T6 | apply T5); conv => whnf)
   rw [wrap64 (n := (i : Int) + 1) (by omega) (by omega)]
   refine ⟨[], i + 1, hix, by show p.consts.length - (i + 1) < p.consts.length - i; omega, ?_⟩
   simp [meets, ghosts, St.le, St.get, look, keys, PV.labs, labsL, lookB, Blk.labs, hsu, bs_app, bs_len, tkb]
  ·obtain rfl : i = p.consts.length := by omega
   rw [decide_eq_false (show ¬ (p.consts.length : Int) < (p.consts.length : Int) by omega)]
   (conv => whnf); repeat ((first | (apply And.intro;· exact Cl4) | apply T1 | apply T2 | apply T3 | apply T4 | apply T6 | apply T5); conv => whnf)
   refine put1_spec (constsB p p.consts.length) _ (by omega) _ ?_
   (conv => whnf); repeat ((first | (apply And.intro;· exact Cl4) | apply T1 | apply T2 | apply T3 | apply T4 | apply T6 | apply T5); conv => whnf)
   rw [hfl]
   have hb1 : constsB p p.consts.length ++ [ub p.funcs.length] = bytesI p 0 := by simp [bytesI]
   refine ⟨Nat, fun j => ⟨95, [(51, .int .i64 j), (50, .int .i64 p.funcs.length), (49, .sl zf lf tf true), (5, .ref 1 1 0 (bytesI p j).length), (1, .ptr 0 0)], [(0, .box (pgc zf lf tf zc lc tc)), (1, .row 5 1 (bs (bytesI p j)) true)], []⟩, fun j => j ≤ p.funcs.length, fun j => p.funcs.length - j, ⟨[], 0, Nat.zero_le _, ?_⟩, fun j hj => ?_⟩
   ·simp [meets, ghosts, St.le, St.get, look, keys, PV.labs, labsL, lookB, Blk.labs, ← hb1]
    done
   ·conv => (arg 5; dsimp only)
    (conv => whnf); repeat ((first | (apply And.intro;· exact Cl4) | apply T1 | apply T2 | apply T3 | apply T4 | apply T6 | apply T5); conv => whnf)
    have hlen2 := bytesI_len hp hc256 (fun f hf => Nat.le_trans (hmay.len f hf) (by decide)) j hj
    have hf16 := hmay.few
    by_cases hjx : j < p.funcs.length
    ·rw [decide_eq_true (show (j : Int) < (p.funcs.length : Int) by omega)]
     have hm := List.getElem_mem hjx
     obtain ⟨z, t, o, hqf, hzc⟩ := FPs_nth hp.fs hjx
     have hqf : nth lf (Int.toNat (j : Int)) = .agg [.str p.funcs[j].name, .int .i64 p.funcs[j].args, .int .i64 p.funcs[j].locals, .sl z (p.funcs[j].code.map INP) t o] := by rw [Int.toNat_natCast]; exact hqf
     have hsu := bytesI_succ p hjx
     have hfb := hp.fb _ hm
     have hcl2 := hmay.len _ hm
     obtain ⟨fb1, fb2, fb3, fb4, fb5⟩ := hfb
     (conv => whnf); repeat ((first | (apply And.intro;· exact Cl4) | apply T1 | apply T2 | apply T3 | apply T4 | apply T6 | apply T5); conv => whnf)
     rw [hqf]
     (conv => whnf); repeat ((first | (apply And.intro;· exact Cl4) | apply T1 | apply T2 | apply T3 | apply T4 | apply T6 | apply T5); conv => whnf)
     generalize p.funcs[j] = f at *
     refine ⟨Unit, fun _ => ⟨95, [(5, .ref 1 1 0 (bytesI p j ++ (ub f.name.length :: f.name)).length), (11, .ptr 2 0), (51, .int .i64 j), (50, .int .i64 p.funcs.length), (49, .sl zf lf tf true), (1, .ptr 0 0)], [(0, .box (pgc zf lf tf zc lc tc)), (1, .row 5 1 (bs (bytesI p j ++ (ub f.name.length :: f.name))) true), (2, .box (fdc f z t))], []⟩, fun _ => True, ?_, fun _ _ => ?_⟩
     ·(conv => whnf); repeat' (first | ((first | (apply And.intro;· exact Cl4) | apply T1 | apply T2 | apply T3 | apply T4 | apply T6 | apply T5); conv => whnf) | (refine put1_spec (bytesI p j) _ (by omega) _ ?_; conv => whnf) | ((refine ⟨by show ((bytesI p j).length + 1 + (List.map (fun c => PV.int IntKind.u8 ((c : UInt8).toNat : Int)) f.name).length) * 2 ≤ _; rw [List.length_map]; omega, ?_⟩); conv => whnf) | ((refine Both.mk ?_ ?_ <;> fail_if_success (intro _)) <;> conv => whnf))
      all_goals (
       refine ⟨[], (), trivial, ?_⟩
       have e1 : List.take ((bytesI p j).length + 1) (bs (bytesI p j ++ [ub f.name.length])) ++ List.map (fun c => PV.int IntKind.u8 ((c : UInt8).toNat : Int)) f.name = bs (bytesI p j ++ (ub f.name.length :: f.name)) := by
        rw [tkc _ _ (by simp), mapb, ← bs_app]; simp
       have e2 : (bytesI p j).length + 1 + f.name.length = (bytesI p j).length + (f.name.length + 1) := by omega
       simp [meets, ghosts, St.le, St.get, look, keys, PV.labs, labsL, lookB, Blk.labs, e1, e2])
     have hl1 : (bytesI p j ++ (ub f.name.length :: f.name)).length = (bytesI p j).length + f.name.length + 1 := by simp; omega
     generalize hB1 : bytesI p j ++ (ub f.name.length :: f.name) = B1 at hl1
     conv => (arg 4; dsimp only)
     (conv => whnf); repeat ((first | (apply And.intro;· exact Cl4) | apply T1 | apply T2 | apply T3 | apply T4 | apply T6 | apply T5); conv => whnf)
     refine ⟨Unit, fun _ => ⟨95, [(5, .ref 1 1 0 (B1 ++ [ub f.args] ++ [ub f.locals]).length), (11, .ptr 2 0), (51, .int .i64 j), (50, .int .i64 p.funcs.length), (49, .sl zf lf tf true), (1, .ptr 0 0)], [(0, .box (pgc zf lf tf zc lc tc)), (1, .row 5 1 (bs (B1 ++ [ub f.args] ++ [ub f.locals])) true), (2, .box (fdc f z t))], []⟩, fun _ => True, ?_, fun _ _ => ?_⟩
     ·(conv => whnf); repeat' (first | ((first | (apply And.intro;· exact Cl4) | apply T1 | apply T2 | apply T3 | apply T4 | apply T6 | apply T5); conv => whnf) | (refine put1w B1 _ _ rfl (by omega) _ ?_; conv => whnf) | (refine put1w (B1 ++ [ub f.args]) _ _ rfl (by simp; omega) _ ?_; conv => whnf) | ((refine Both.mk ?_ ?_ <;> fail_if_success (intro _)) <;> conv => whnf))
      all_goals (
       refine ⟨[], (), trivial, ?_⟩
       simp [meets, ghosts, St.le, St.get, look, keys, PV.labs, labsL, lookB, Blk.labs])
     have hl2 : (B1 ++ [ub f.args] ++ [ub f.locals]).length = B1.length + 2 := by simp
     generalize hB2 : B1 ++ [ub f.args] ++ [ub f.locals] = B2 at hl2
     conv => (arg 4; dsimp only)
     (conv => whnf); repeat ((first | (apply And.intro;· exact Cl4) | apply T1 | apply T2 | apply T3 | apply T4 | apply T6 | apply T5); conv => whnf)
     refine put2w B2 _ _ rfl (by omega) _ ?_
     have hcm : (f.code.map INP).length = f.code.length := List.length_map _
     have hl3 : (B2 ++ twoB f.code.length).length = B2.length + 2 := by simp [twoB]
     (conv => whnf); repeat ((first | (apply And.intro;· exact Cl4) | apply T1 | apply T2 | apply T3 | apply T4 | apply T6 | apply T5); conv => whnf)
     rw [hcm]
     generalize hB3 : B2 ++ twoB f.code.length = B3 at hl3
     have hz4 : z = 3 ∨ f.code.map INP = [] := hzc.imp id fun h => by rw [h]; rfl
     refine ⟨Nat, fun k => ⟨95, [(78, .int .i64 k), (77, .int .i64 f.code.length), (76, .sl z (f.code.map INP) t true), (5, .ref 1 1 0 (B3 ++ (f.code.take k).flatMap insB).length), (51, .int .i64 j), (50, .int .i64 p.funcs.length), (49, .sl zf lf tf true), (1, .ptr 0 0)], [(0, .box (pgc zf lf tf zc lc tc)), (1, .row 5 1 (bs (B3 ++ (f.code.take k).flatMap insB)) true)], []⟩, fun k => k ≤ f.code.length, fun k => f.code.length - k, ⟨[], 0, Nat.zero_le _, ?_⟩, fun k hk => ?_⟩
     ·simp [meets, ghosts, St.le, St.get, look, keys, PV.labs, labsL, lookB, Blk.labs]
     ·conv => (arg 5; dsimp only)
      (conv => whnf); repeat ((first | (apply And.intro;· exact Cl4) | apply T1 | apply T2 | apply T3 | apply T4 | apply T6 | apply T5); conv => whnf)
      have hln : (B3 ++ (f.code.take k).flatMap insB).length = B3.length + 5 * k := by rw [List.length_append, insB_len, List.length_take]; omega
      by_cases hkx : k < f.code.length
      ·rw [decide_eq_true (show (k : Int) < (f.code.length : Int) by omega)]
       have hsk := code_succ f.code hkx
       have hqx : nth (f.code.map INP) (Int.toNat (k : Int)) = .agg [.int .i64 f.code[k].op, .int .i64 f.code[k].a, .int .i64 f.code[k].b] := by rw [Int.toNat_natCast]; exact code_nth hkx
       (conv => whnf); repeat ((first | (apply And.intro;· exact Cl4) | apply T1 | apply T2 | apply T3 | apply T4 | apply T6 | apply T5); conv => whnf)
       rw [hqx]
       (conv => whnf); repeat ((first | (apply And.intro;· exact Cl4) | apply T1 | apply T2 | apply T3 | apply T4 | apply T6 | apply T5); conv => whnf)
       generalize f.code[k] = x at *
       generalize hBk : B3 ++ (f.code.take k).flatMap insB = Bk at *
       refine ⟨Unit, fun _ => ⟨95, [(5, .ref 1 1 0 (Bk ++ [ub x.op] ++ twoB x.a ++ twoB x.b).length), (78, .int .i64 k), (77, .int .i64 f.code.length), (76, .sl z (f.code.map INP) t true), (51, .int .i64 j), (50, .int .i64 p.funcs.length), (49, .sl zf lf tf true), (1, .ptr 0 0)], [(0, .box (pgc zf lf tf zc lc tc)), (1, .row 5 1 (bs (Bk ++ [ub x.op] ++ twoB x.a ++ twoB x.b)) true)], []⟩, fun _ => True, ?_, fun _ _ => ?_⟩
       ·(conv => whnf); repeat' (first | ((first | (apply And.intro;· exact Cl4) | apply T1 | apply T2 | apply T3 | apply T4 | apply T6 | apply T5); conv => whnf) | (refine put1w Bk _ _ rfl (by omega) _ ?_; conv => whnf) | (refine put2w (Bk ++ [ub x.op]) _ _ rfl (by simp; omega) _ ?_; conv => whnf) | (refine put2w (Bk ++ [ub x.op] ++ twoB x.a) _ _ rfl (by simp [twoB]; omega) _ ?_; conv => whnf) | ((refine Both.mk ?_ ?_ <;> fail_if_success (intro _)) <;> conv => whnf))
        all_goals (
         refine ⟨[], (), trivial, ?_⟩
         simp [meets, ghosts, St.le, St.get, look, keys, PV.labs, labsL, lookB, Blk.labs])
       conv => (arg 4; dsimp only)
       (conv => whnf); repeat ((first | (apply And.intro;· exact Cl4) | apply T1 | apply T2 | apply T3 | apply T4 | apply T6 | apply T5); conv => whnf)
       rw [wrap64 (n := (k : Int) + 1) (by omega) (by omega)]
       refine ⟨[], k + 1, hkx, by show f.code.length - (k + 1) < f.code.length - k; omega, ?_⟩
       have hfin : B3 ++ (f.code.take (k + 1)).flatMap insB = Bk ++ [ub x.op] ++ twoB x.a ++ twoB x.b := by rw [hsk, ← List.append_assoc, hBk]; simp [insB]
       simp only [hfin]
       simp [meets, ghosts, St.le, St.get, look, keys, PV.labs, labsL, lookB, Blk.labs]
      ·obtain rfl : k = f.code.length := by omega
       rw [decide_eq_false (show ¬ (f.code.length : Int) < (f.code.length : Int) by omega)]
       (conv => whnf); repeat ((first | (apply And.intro;· exact Cl4) | apply T1 | apply T2 | apply T3 | apply T4 | apply T6 | apply T5); conv => whnf)
       rw [wrap64 (n := (j : Int) + 1) (by omega) (by omega)]
       refine ⟨[], j + 1, hjx, by show p.funcs.length - (j + 1) < p.funcs.length - j; omega, ?_⟩
       have hfin : bytesI p (j + 1) = B3 ++ (f.code.take f.code.length).flatMap insB := by
        rw [hsu, List.take_length, ← hB3, ← hB2, ← hB1]
        simp [funB, headB]
       simp only [hfin]
       simp [meets, ghosts, St.le, St.get, look, keys, PV.labs, labsL, lookB, Blk.labs]
    ·obtain rfl : j = p.funcs.length := by omega
     rw [decide_eq_false (show ¬ (p.funcs.length : Int) < (p.funcs.length : Int) by omega)]
     (conv => whnf); repeat ((first | (apply And.intro;· exact Cl4) | apply T1 | apply T2 | apply T3 | apply T4 | apply T6 | apply T5); conv => whnf)
     rw [List.drop_zero, tkb]
     exact h1 hc
end Go.Vc
