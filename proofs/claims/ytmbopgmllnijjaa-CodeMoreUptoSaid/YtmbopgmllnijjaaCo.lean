/- What is proved here: contracts of functions of the program: of each function what it hands back and what it leaves in memory. Conditions: those that each theorem names. -/
import Derived.Test.YtmbopgmllnijjaaCn
import Derived.Test.YtmbopgmllnijjaaCm
import Derived.Test.YtmbopgmllnijjaaCf
import Derived.Test.YtmbopgmllnijjaaFy
set_option linter.unusedVariables false
set_option linter.unusedSimpArgs false
set_option linter.unusedSectionVars false
namespace Go.Vc
open Go Go.Proofs
set_option maxRecDepth 100000
theorem PGA_more {p : PG} {n : Int} {zf zc : Nat} {lf lc M N : List PV} (hp : PGA p zf lf zc lc) (hn : i64 n) (hM : FPs p.funcs M) (hN : VPs p.consts N) (hc : chkM p = 0) (hf : p.funcs.length < 16) (hv : p.consts.length < 256) (z : Nat) (t o : Bool) (hz : z = 3) (F : PV) (hF : F = .agg [.str exN, .int .i64 0, .int .i64 0, .sl z ((exF p.consts.length).code.map INP) t o]) :
    PGA (moreP p n) 4 (M ++ [F]) 5 (N ++ [PV.agg [.int .i64 1, .int .i64 n, .str [], .sl 0 [] false true, .sl 0 [] false true]]) := by
  subst hF hz
  refine ⟨FPs_snoc hM ⟨3, t, o, rfl, .inl rfl⟩, VPs_snoc hN ⟨0, [], false, true, 0, false, true, rfl, rfl, .inr rfl, .inr rfl, hn⟩, .inl rfl, .inl rfl, ?_, ?_, fun f hf' => ?_, fun v hv' => ?_⟩
  · simp [moreP]; omega
  · simp [moreP]; omega
  · have : f ∈ p.funcs ∨ f = exF p.consts.length := by simpa [moreP] using hf'
    rcases this with h | rfl
    · exact hp.fb f h
    · refine ⟨(by decide : (5 : Nat) ≤ 1000000000), (show i64 0 by unfold i64; decide), (show i64 0 by unfold i64; decide), (by decide : (2 : Nat) ≤ 1000000000), fun x hx => ?_⟩
      have : x = ⟨1, p.consts.length, 0⟩ ∨ x = ⟨30, 0, 0⟩ := by simpa [exF] using hx
      rcases this with rfl | rfl <;> unfold i64 <;> dsimp only <;> omega
  · have : v ∈ p.consts ∨ v = .mk 1 n [] [] [] := by simpa [moreP] using hv'
    rcases this with h | rfl
    · exact hp.cb v h
    · exact ⟨hn, by simp [bulkV, bulkVs, nsBulk]⟩
set_option maxHeartbeats 32000000 in
theorem more_law (hF : FitsC) (hW : WorksD) (p : PG) (n : Int) (hn : i64 n) (zf : Nat) (lf : List PV) (tf : Bool) (zc : Nat) (lc : List PV) (tc : Bool) (hp : PGA p zf lf zc lc) : CSpec K 11 [.agg (pgc zf lf tf zc lc tc), .int .i64 n] [] LawPost := by
  refine is11.cspecC [43, 83, 97] K_ok K_mix false (by simp) (by simp [keys]) ?_
  have hfl := FPs_len hp.fs
  have hcl := VPs_len hp.cs
  have hz := zlf hp
  have hnf := hp.nf
  have hnc := hp.nc
  (conv => whnf); repeat ((first | (refine And.intro ?_ ?_; focus exact Cl4) | refine Both.T (by exact rfl) ?_ | refine Both.F (by exact rfl) ?_ | refine Both.GT (by exact rfl) (by exact rfl) ?_ | refine Both.GF (by exact rfl) ?_ | refine Both.GN (by exact rfl) ?_); conv => whnf)
  refine hW _ ?_
  (conv => whnf); repeat ((first | (refine And.intro ?_ ?_; focus exact Cl4) | refine Both.T (by exact rfl) ?_ | refine Both.F (by exact rfl) ?_ | refine Both.GT (by exact rfl) (by exact rfl) ?_ | refine Both.GF (by exact rfl) ?_ | refine Both.GN (by exact rfl) ?_); conv => whnf)
  refine find_spec p exN zf lf tf zc lc tc hp _ ?_
  (conv => whnf); repeat ((first | (refine And.intro ?_ ?_; focus exact Cl4) | refine Both.T (by exact rfl) ?_ | refine Both.F (by exact rfl) ?_ | refine Both.GT (by exact rfl) (by exact rfl) ?_ | refine Both.GF (by exact rfl) ?_ | refine Both.GN (by exact rfl) ?_); conv => whnf)
  refine chk_spec hF p zf lf tf zc lc tc hp _ ?_
  (conv => whnf); repeat ((first | (refine And.intro ?_ ?_; focus exact Cl4) | refine Both.T (by exact rfl) ?_ | refine Both.F (by exact rfl) ?_ | refine Both.GT (by exact rfl) (by exact rfl) ?_ | refine Both.GF (by exact rfl) ?_ | refine Both.GN (by exact rfl) ?_); conv => whnf)
  rw [hfl, hcl]
  by_cases hgo : chkM p = 0 ∧ p.funcs.length < 16 ∧ p.consts.length < 256 ∧ findM p exN < 0
  case neg =>
    refine Both.T (by
      by_cases h1 : chkM p = 0
      · by_cases h2 : p.funcs.length < 16
        · by_cases h3 : p.consts.length < 256
          · have h4 : ¬ findM p exN < 0 := fun h4 => hgo ⟨h1, h2, h3, h4⟩
            rw [decide_eq_true (show 0 ≤ findM p exN by omega)]
            cases (chkM p != 0) <;> cases decide ((16 : Int) ≤ (p.funcs.length : Int)) <;> cases decide ((256 : Int) ≤ (p.consts.length : Int)) <;> rfl
          · rw [decide_eq_true (show (256 : Int) ≤ (p.consts.length : Int) by omega)]
            cases (chkM p != 0) <;> cases decide ((16 : Int) ≤ (p.funcs.length : Int)) <;> rfl
        · rw [decide_eq_true (show (16 : Int) ≤ (p.funcs.length : Int) by omega)]
          cases (chkM p != 0) <;> rfl
      · have : (chkM p != 0) = true := by simpa using h1
        rw [this]; rfl) ?_
    (conv => whnf); repeat ((first | (refine And.intro ?_ ?_; focus exact Cl4) | refine Both.T (by exact rfl) ?_ | refine Both.F (by exact rfl) ?_ | refine Both.GT (by exact rfl) (by exact rfl) ?_ | refine Both.GF (by exact rfl) ?_ | refine Both.GN (by exact rfl) ?_); conv => whnf)
  case pos =>
  obtain ⟨hc, hf16, hv256, hfind⟩ := hgo
  rw [hc, decide_eq_false (show ¬ (16 : Int) ≤ (p.funcs.length : Int) by omega), decide_eq_false (show ¬ (256 : Int) ≤ (p.consts.length : Int) by omega), decide_eq_false (show ¬ 0 ≤ findM p exN by omega)]
  (conv => whnf); repeat ((first | (refine And.intro ?_ ?_; focus exact Cl4) | refine Both.T (by exact rfl) ?_ | refine Both.F (by exact rfl) ?_ | refine Both.GT (by exact rfl) (by exact rfl) ?_ | refine Both.GF (by exact rfl) ?_ | refine Both.GN (by exact rfl) ?_); conv => whnf)
  refine copyP_spec p zf lf tf zc lc tc hp _ (fun M N hM hN => ?_)
  have hMl := FPs_len hM
  have hNl := VPs_len hN
  (conv => whnf); repeat ((first | (refine And.intro ?_ ?_; focus exact Cl4) | refine Both.T (by exact rfl) ?_ | refine Both.F (by exact rfl) ?_ | refine Both.GT (by exact rfl) (by exact rfl) ?_ | refine Both.GF (by exact rfl) ?_ | refine Both.GN (by exact rfl) ?_); conv => whnf)
  refine ⟨Unit, fun _ => ⟨135, [(7, .ptr 3 0), (2, .ptr 0 0)], [(0, .box (pgc zf lf tf zc lc tc)), (3, .box [.ref 4 1 0 p.funcs.length, .ref 5 2 0 (p.consts.length + 1)]), (1, .row 34 4 M true), (2, .row 66 5 (N ++ [PV.agg [.int .i64 1, .int .i64 n, .str [], .sl 0 [] false true, .sl 0 [] false true]]) true)], []⟩, fun _ => True, ?_, fun _ _ => ?_⟩
  · have htN : List.take p.consts.length N = N := List.take_of_length_le (by omega)
    (conv => whnf); repeat' (first | ((first | (refine And.intro ?_ ?_; focus exact Cl4) | refine Both.T (by exact rfl) ?_ | refine Both.F (by exact rfl) ?_ | refine Both.GT (by exact rfl) (by exact rfl) ?_ | refine Both.GF (by exact rfl) ?_ | refine Both.GN (by exact rfl) ?_); conv => whnf) | (refine num_spec n _ ?_; conv => whnf) | ((refine ⟨by show (p.consts.length + 1) * 81 ≤ _; omega, ?_⟩); conv => whnf) | ((refine Both.mk ?_ ?_ <;> fail_if_success (intro _)) <;> conv => whnf))
    all_goals (
      refine ⟨[], (), trivial, ?_⟩
      simp [meets, ghosts, St.le, St.get, look, keys, PV.labs, labsL, lookB, Blk.labs, htN])
  conv => (arg 4; dsimp only)
  (conv => whnf); repeat ((first | (refine And.intro ?_ ?_; focus exact Cl4) | refine Both.T (by exact rfl) ?_ | refine Both.F (by exact rfl) ?_ | refine Both.GT (by exact rfl) (by exact rfl) ?_ | refine Both.GF (by exact rfl) ?_ | refine Both.GN (by exact rfl) ?_); conv => whnf)
  rw [show IntKind.i64.wrap (((p.consts.length + 1 : Nat) : Int) - 1) = (p.consts.length : Int) by rw [wrap64 (by omega) (by omega)]; omega]
  refine ⟨by show (p.funcs.length + 1) * 57 ≤ _; omega, ?_⟩
  (conv => whnf); repeat ((first | (refine And.intro ?_ ?_; focus exact Cl4) | refine Both.T (by exact rfl) ?_ | refine Both.F (by exact rfl) ?_ | refine Both.GT (by exact rfl) (by exact rfl) ?_ | refine Both.GF (by exact rfl) ?_ | refine Both.GN (by exact rfl) ?_); conv => whnf)
  have hq : PGA (moreP p n) 4 (M ++ [PV.agg [.str exN, .int .i64 0, .int .i64 0, .sl 3 ((exF p.consts.length).code.map INP) false false]]) 5 (N ++ [PV.agg [.int .i64 1, .int .i64 n, .str [], .sl 0 [] false true, .sl 0 [] false true]]) := PGA_more hp hn hM hN hc hf16 hv256 3 false false rfl _ rfl
  have htM : List.take p.funcs.length M = M := List.take_of_length_le (by omega)
  have hM'l : (M ++ [PV.agg [.str exN, .int .i64 0, .int .i64 0, .sl 3 ((exF p.consts.length).code.map INP) false false]]).length = p.funcs.length + 1 := by rw [List.length_append, List.length_singleton, hMl]
  have hN'l : (N ++ [PV.agg [.int .i64 1, .int .i64 n, .str [], .sl 0 [] false true, .sl 0 [] false true]]).length = p.consts.length + 1 := by rw [List.length_append, List.length_singleton, hNl]
  have hrow : List.take p.funcs.length M ++ List.take 1 (List.drop 0 [PV.agg [PV.str (⟨#[101, 120, 116, 114, 97]⟩ : ByteArray).data.toList, .int .i64 0, .int .i64 0, .sl 3 (List.take 2 (List.drop 0 [PV.agg [.int .i64 1, .int .i64 p.consts.length, .int .i64 0], PV.agg [.int .i64 30, .int .i64 0, .int .i64 0]])) false false]]) = M ++ [PV.agg [.str exN, .int .i64 0, .int .i64 0, .sl 3 ((exF p.consts.length).code.map INP) false false]] := by rw [htM]; rfl
  rw [hrow]
  generalize M ++ [PV.agg [.str exN, .int .i64 0, .int .i64 0, .sl 3 ((exF p.consts.length).code.map INP) false false]] = M' at hq hM'l
  generalize N ++ [PV.agg [.int .i64 1, .int .i64 n, .str [], .sl 0 [] false true, .sl 0 [] false true]] = N' at hq hN'l
  have hMt : List.take (p.funcs.length + 1) (List.drop 0 M') = M' := by rw [List.drop_zero, List.take_of_length_le (by omega)]
  have hNt : List.take (p.consts.length + 1) (List.drop 0 N') = N' := by rw [List.drop_zero, List.take_of_length_le (by omega)]
  refine ⟨Nat, fun i => ⟨135, [(8, .int .i64 i), (7, .ptr 3 0), (2, .ptr 0 0)], [(0, .box (pgc zf lf tf zc lc tc)), (3, .box [.ref 4 1 0 (p.funcs.length + 1), .ref 5 2 0 (p.consts.length + 1)]), (1, .row 34 4 M' true), (2, .row 66 5 N' true)], []⟩, fun i => i ≤ p.funcs.length, fun i => p.funcs.length - i, ⟨[], 0, Nat.zero_le _, ?_⟩, fun i hi => ?_⟩
  · simp [meets, ghosts, St.le, St.get, look, keys, PV.labs, labsL, lookB, Blk.labs]
    done
  · conv => (arg 5; dsimp only)
    (conv => whnf); repeat ((first | (refine And.intro ?_ ?_; focus exact Cl4) | refine Both.T (by exact rfl) ?_ | refine Both.F (by exact rfl) ?_ | refine Both.GT (by exact rfl) (by exact rfl) ?_ | refine Both.GF (by exact rfl) ?_ | refine Both.GN (by exact rfl) ?_); conv => whnf)
    rw [hfl]
    by_cases hix : i < p.funcs.length
    · rw [decide_eq_true (show (i : Int) < (p.funcs.length : Int) by omega)]
      obtain ⟨z, t, o, hqf, hzc⟩ := FPs_nth hp.fs hix
      have hfm := List.getElem_mem hix
      have hins := (chk_may hc).ins _ hfm
      have hcl2 := (chk_may hc).len _ hfm
      generalize p.funcs[i] = f at *
      rw [← Int.toNat_natCast i] at hqf
      have hcm : (f.code.map INP).length = f.code.length := List.length_map _
      have hz3 : z = 3 ∨ f.code.map INP = [] := hzc.imp id fun h => by rw [h]; rfl
      (conv => whnf); repeat ((first | (refine And.intro ?_ ?_; focus exact Cl4) | refine Both.T (by exact rfl) ?_ | refine Both.F (by exact rfl) ?_ | refine Both.GT (by exact rfl) (by exact rfl) ?_ | refine Both.GF (by exact rfl) ?_ | refine Both.GN (by exact rfl) ?_); conv => whnf)
      refine ⟨Nat, fun k => ⟨135, [(9, .int .i64 k), (8, .int .i64 i), (7, .ptr 3 0), (2, .ptr 0 0)], [(0, .box (pgc zf lf tf zc lc tc)), (3, .box [.ref 4 1 0 (p.funcs.length + 1), .ref 5 2 0 (p.consts.length + 1)]), (1, .row 34 4 M' true), (2, .row 66 5 N' true)], []⟩, fun k => k ≤ f.code.length, fun k => f.code.length - k, ⟨[], 0, Nat.zero_le _, ?_⟩, fun k hk => ?_⟩
      · simp [meets, ghosts, St.le, St.get, look, keys, PV.labs, labsL, lookB, Blk.labs]
      · conv => (arg 5; dsimp only)
        (conv => whnf); repeat ((first | (refine And.intro ?_ ?_; focus exact Cl4) | refine Both.T (by exact rfl) ?_ | refine Both.F (by exact rfl) ?_ | refine Both.GT (by exact rfl) (by exact rfl) ?_ | refine Both.GF (by exact rfl) ?_ | refine Both.GN (by exact rfl) ?_); conv => whnf)
        rw [hqf]
        (conv => whnf); repeat ((first | (refine And.intro ?_ ?_; focus exact Cl4) | refine Both.T (by exact rfl) ?_ | refine Both.F (by exact rfl) ?_ | refine Both.GT (by exact rfl) (by exact rfl) ?_ | refine Both.GF (by exact rfl) ?_ | refine Both.GN (by exact rfl) ?_); conv => whnf)
        rw [hcm]
        by_cases hkx : k < f.code.length
        · rw [decide_eq_true (show (k : Int) < (f.code.length : Int) by omega)]
          have hqx : nth (f.code.map INP) (Int.toNat (k : Int)) = .agg [.int .i64 f.code[k].op, .int .i64 f.code[k].a, .int .i64 f.code[k].b] := by rw [Int.toNat_natCast]; exact code_nth hkx
          have hmm := moves_more (n := n) (hins _ (List.getElem_mem hkx))
          have hsp := moves_spec p f.code[k] zf lf tf zc lc tc hp
          have hsq := moves_spec (moreP p n) f.code[k] 4 M' false 5 N' false hq
          rw [hmm] at hsq
          generalize f.code[k] = x at *
          obtain ⟨op, a, b⟩ := x
          generalize movesM p ⟨op, a, b⟩ = mv at hsp hsq
          obtain ⟨off, on⟩ := mv
          simp only at hsp hsq hqx
          (conv => whnf); repeat ((first | (refine And.intro ?_ ?_; focus exact Cl4) | refine Both.T (by exact rfl) ?_ | refine Both.F (by exact rfl) ?_ | refine Both.GT (by exact rfl) (by exact rfl) ?_ | refine Both.GF (by exact rfl) ?_ | refine Both.GN (by exact rfl) ?_); conv => whnf)
          refine ⟨Unit, fun _ => ⟨135, [(10, .int .i64 off), (11, .int .i64 on), (9, .int .i64 k), (8, .int .i64 i), (7, .ptr 3 0), (2, .ptr 0 0)], [(0, .box (pgc zf lf tf zc lc tc)), (3, .box [.ref 4 1 0 (p.funcs.length + 1), .ref 5 2 0 (p.consts.length + 1)]), (1, .row 34 4 M' true), (2, .row 66 5 N' true)], []⟩, fun _ => True, ?_, fun _ _ => ?_⟩
          · (conv => whnf); repeat' (first | ((first | (refine And.intro ?_ ?_; focus exact Cl4) | refine Both.T (by exact rfl) ?_ | refine Both.F (by exact rfl) ?_ | refine Both.GT (by exact rfl) (by exact rfl) ?_ | refine Both.GF (by exact rfl) ?_ | refine Both.GN (by exact rfl) ?_); conv => whnf) | (rw [hqf]; conv => whnf) | (rw [hqx]; conv => whnf) | (refine hsp _ ?_; conv => whnf) | ((refine Both.mk ?_ ?_ <;> fail_if_success (intro _)) <;> conv => whnf))
            all_goals (
              refine ⟨[], (), trivial, ?_⟩
              simp [meets, ghosts, St.le, St.get, look, keys, PV.labs, labsL, lookB, Blk.labs])
          conv => (arg 4; dsimp only)
          (conv => whnf); repeat ((first | (refine And.intro ?_ ?_; focus exact Cl4) | refine Both.T (by exact rfl) ?_ | refine Both.F (by exact rfl) ?_ | refine Both.GT (by exact rfl) (by exact rfl) ?_ | refine Both.GF (by exact rfl) ?_ | refine Both.GN (by exact rfl) ?_); conv => whnf)
          refine ⟨Unit, fun _ => ⟨135, [(12, .int .i64 off), (13, .int .i64 on), (10, .int .i64 off), (11, .int .i64 on), (9, .int .i64 k), (8, .int .i64 i), (7, .ptr 3 0), (2, .ptr 0 0)], [(0, .box (pgc zf lf tf zc lc tc)), (3, .box [.ref 4 1 0 (p.funcs.length + 1), .ref 5 2 0 (p.consts.length + 1)]), (1, .row 34 4 M' true), (2, .row 66 5 N' true)], []⟩, fun _ => True, ?_, fun _ _ => ?_⟩
          · (conv => whnf); repeat' (first | ((first | (refine And.intro ?_ ?_; focus exact Cl4) | refine Both.T (by exact rfl) ?_ | refine Both.F (by exact rfl) ?_ | refine Both.GT (by exact rfl) (by exact rfl) ?_ | refine Both.GF (by exact rfl) ?_ | refine Both.GN (by exact rfl) ?_); conv => whnf) | (rw [hqf]; conv => whnf) | (rw [hqx]; conv => whnf) | ((rw [hMt, hNt]; refine hsq _ ?_); conv => whnf) | ((refine Both.mk ?_ ?_ <;> fail_if_success (intro _)) <;> conv => whnf))
            all_goals (
              refine ⟨[], (), trivial, ?_⟩
              simp [meets, ghosts, St.le, St.get, look, keys, PV.labs, labsL, lookB, Blk.labs])
          conv => (arg 4; dsimp only)
          (conv => whnf); repeat ((first | (refine And.intro ?_ ?_; focus exact Cl4) | refine Both.T (by exact rfl) ?_ | refine Both.F (by exact rfl) ?_ | refine Both.GT (by exact rfl) (by exact rfl) ?_ | refine Both.GF (by exact rfl) ?_ | refine Both.GN (by exact rfl) ?_); conv => whnf)
          refine Both.F (by simp) ?_
          (conv => whnf); repeat ((first | (refine And.intro ?_ ?_; focus exact Cl4) | refine Both.T (by exact rfl) ?_ | refine Both.F (by exact rfl) ?_ | refine Both.GT (by exact rfl) (by exact rfl) ?_ | refine Both.GF (by exact rfl) ?_ | refine Both.GN (by exact rfl) ?_); conv => whnf)
          rw [wrap64 (n := (k : Int) + 1) (by omega) (by omega)]
          refine ⟨[], k + 1, hkx, by show f.code.length - (k + 1) < f.code.length - k; omega, ?_⟩
          simp [meets, ghosts, St.le, St.get, look, keys, PV.labs, labsL, lookB, Blk.labs]
        · obtain rfl : k = f.code.length := by omega
          rw [decide_eq_false (show ¬ (f.code.length : Int) < (f.code.length : Int) by omega)]
          (conv => whnf); repeat ((first | (refine And.intro ?_ ?_; focus exact Cl4) | refine Both.T (by exact rfl) ?_ | refine Both.F (by exact rfl) ?_ | refine Both.GT (by exact rfl) (by exact rfl) ?_ | refine Both.GF (by exact rfl) ?_ | refine Both.GN (by exact rfl) ?_); conv => whnf)
          rw [wrap64 (n := (i : Int) + 1) (by omega) (by omega)]
          refine ⟨[], i + 1, hix, by show p.funcs.length - (i + 1) < p.funcs.length - i; omega, ?_⟩
          simp [meets, ghosts, St.le, St.get, look, keys, PV.labs, labsL, lookB, Blk.labs]
    · obtain rfl : i = p.funcs.length := by omega
      rw [decide_eq_false (show ¬ (p.funcs.length : Int) < (p.funcs.length : Int) by omega)]
      (conv => whnf); repeat ((first | (refine And.intro ?_ ?_; focus exact Cl4) | refine Both.T (by exact rfl) ?_ | refine Both.F (by exact rfl) ?_ | refine Both.GT (by exact rfl) (by exact rfl) ?_ | refine Both.GF (by exact rfl) ?_ | refine Both.GN (by exact rfl) ?_); conv => whnf)
      rw [hMt, hNt]
      refine find_spec (moreP p n) exN 4 M' false 5 N' false hq _ ?_
      rw [find_more hfind]
      (conv => whnf); repeat ((first | (refine And.intro ?_ ?_; focus exact Cl4) | refine Both.T (by exact rfl) ?_ | refine Both.F (by exact rfl) ?_ | refine Both.GT (by exact rfl) (by exact rfl) ?_ | refine Both.GF (by exact rfl) ?_ | refine Both.GN (by exact rfl) ?_); conv => whnf)
      rw [hMt, hNt]
      refine chk_spec hF (moreP p n) 4 M' false 5 N' false hq _ ?_
      rw [chk_more hc hf16 hv256 hfind]
      (conv => whnf); repeat ((first | (refine And.intro ?_ ?_; focus exact Cl4) | refine Both.T (by exact rfl) ?_ | refine Both.F (by exact rfl) ?_ | refine Both.GT (by exact rfl) (by exact rfl) ?_ | refine Both.GF (by exact rfl) ?_ | refine Both.GN (by exact rfl) ?_); conv => whnf)
      exact ⟨by rw [hfl, decide_eq_true (show (0 : Int) ≤ (p.funcs.length : Int) by omega), if_neg (show ¬ 0 > (p.funcs.length : Int) by omega)]; simp, rfl⟩
end Go.Vc
