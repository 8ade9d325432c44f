/- What is proved here: contracts of functions of the program: of each function what it hands back and what it leaves in memory. Conditions: those that each theorem names. -/
import Derived.Test.YtmbopgmllnijjaaQs
import Derived.Test.YtmbopgmllnijjaaFx
set_option linter.unusedVariables false
set_option linter.unusedSimpArgs false
set_option linter.unusedSectionVars false
namespace Go.Vc
open Go Go.Proofs
set_option maxRecDepth 100000
theorem sure_in {p : PG} {zf zc : Nat} {lf lc : List PV} (hp : PGA p zf lf zc lc) (hpm : progM p = 0) {i : Nat} (hi : i < p.funcs.length) :
    ∃ pl, verM p (i : Int) = .ok pl ∧ CodeOk p p.funcs[i].code ∧ pl.length = p.funcs[i].code.length ∧ PL.at pl 0 = some ⟨0, []⟩ ∧ ∀ (k : Nat) (hk : k < p.funcs[i].code.length) s, PL.at pl k = some s → Led p p.funcs[i].code[k] k s pl := by
  have hc : chkM p = 0 := by
    unfold progM at hpm
    by_cases h : chkM p = 0
    · exact h
    · rw [if_pos h] at hpm; exact absurd hpm h
  rw [progM_ok hc] at hpm
  have hco := may_code hp (chk_may hc) (List.getElem_mem hi)
  have hf := funcK_found p p.funcs[i].code (code_ahead hco) hco.pos
  have hv := verM_in hc hi
  cases hk : funcK p p.funcs[i].code with
  | none =>
    rw [if_pos (List.any_eq_true.2 ⟨_, List.getElem_mem hi, by rw [hk]; rfl⟩)] at hpm
    cases hpm
  | some pl =>
    rw [hk] at hv hf
    obtain ⟨hs, hkn⟩ := hf
    refine ⟨pl, hv, hco, hkn.len, (hkn.at_ _ _).2 .zero, fun k hkl s hat => ⟨hat, ?_⟩⟩
    have hr := (hkn.at_ _ _).1 hat
    obtain ⟨x, m, hx, hn, hm⟩ := hs.ok k s hr
    obtain rfl : p.funcs[i].code[k] = x := by rw [List.getElem?_eq_getElem hkl] at hx; exact Option.some.inj hx
    exact ⟨m, hn, fun t ht => ⟨by rw [hkn.len]; exact hm t ht, (hkn.at_ _ _).2 (.step hr hx hn ht (hm t ht))⟩⟩
set_option maxHeartbeats 32000000 in
theorem sure_law (hF : FitsC) (hW : WorksC) (p : PG) (zf : Nat) (lf : List PV) (tf : Bool) (zc : Nat) (lc : List PV) (tc : Bool) (hp : PGA p zf lf zc lc) : CSpec K 3 [.agg (pgc zf lf tf zc lc tc)] [] LawPost := by
  refine is3.cspecC [55] K_ok K_mix false (by simp) (by simp [keys]) ?_
  have hfl := FPs_len hp.fs
  have hz := zlf hp
  have hnf := hp.nf
  (conv => whnf); repeat ((first | (refine And.intro ?_ ?_; focus exact Cl4) | refine Both.T (by exact rfl) ?_ | refine Both.F (by exact rfl) ?_ | refine Both.GT (by exact rfl) (by exact rfl) ?_ | refine Both.GF (by exact rfl) ?_ | refine Both.GN (by exact rfl) ?_); conv => whnf)
  refine hW _ ?_
  (conv => whnf); repeat ((first | (refine And.intro ?_ ?_; focus exact Cl4) | refine Both.T (by exact rfl) ?_ | refine Both.F (by exact rfl) ?_ | refine Both.GT (by exact rfl) (by exact rfl) ?_ | refine Both.GF (by exact rfl) ?_ | refine Both.GN (by exact rfl) ?_); conv => whnf)
  refine prog_spec hF p zf lf tf zc lc tc hp _ ?_
  by_cases hpm : progM p = 0
  case neg =>
    have hpm2 : (progM p != 0) = true := by simpa using hpm
    (conv => whnf); repeat ((first | (refine And.intro ?_ ?_; focus exact Cl4) | refine Both.T (by exact rfl) ?_ | refine Both.F (by exact rfl) ?_ | refine Both.GT (by exact rfl) (by exact rfl) ?_ | refine Both.GF (by exact rfl) ?_ | refine Both.GN (by exact rfl) ?_); conv => whnf)
    rw [hpm2]
    (conv => whnf); repeat ((first | (refine And.intro ?_ ?_; focus exact Cl4) | refine Both.T (by exact rfl) ?_ | refine Both.F (by exact rfl) ?_ | refine Both.GT (by exact rfl) (by exact rfl) ?_ | refine Both.GF (by exact rfl) ?_ | refine Both.GN (by exact rfl) ?_); conv => whnf)
  case pos =>
  rw [hpm]
  (conv => whnf); repeat ((first | (refine And.intro ?_ ?_; focus exact Cl4) | refine Both.T (by exact rfl) ?_ | refine Both.F (by exact rfl) ?_ | refine Both.GT (by exact rfl) (by exact rfl) ?_ | refine Both.GF (by exact rfl) ?_ | refine Both.GN (by exact rfl) ?_); conv => whnf)
  refine ⟨Nat, fun i => ⟨72, [(3, .int .i64 i), (1, .ptr 0 0)], [(0, .box (pgc zf lf tf zc lc tc))], []⟩, fun i => i ≤ p.funcs.length, fun i => p.funcs.length - i, ⟨[], 0, Nat.zero_le _, ?_⟩, fun i hi => ?_⟩
  · simp [meets, ghosts, St.le, St.get, look, keys, PV.labs, labsL, lookB, Blk.labs]
  · conv => (arg 5; dsimp only)
    (conv => whnf); repeat ((first | (refine And.intro ?_ ?_; focus exact Cl4) | refine Both.T (by exact rfl) ?_ | refine Both.F (by exact rfl) ?_ | refine Both.GT (by exact rfl) (by exact rfl) ?_ | refine Both.GF (by exact rfl) ?_ | refine Both.GN (by exact rfl) ?_); conv => whnf)
    rw [hfl]
    by_cases hix : i < p.funcs.length
    · rw [decide_eq_true (show (i : Int) < (p.funcs.length : Int) by omega)]
      obtain ⟨pl0, hv, hco, hpl, hat0, hled⟩ := sure_in hp hpm hix
      obtain ⟨z, t, o, hqf, hzc⟩ := FPs_nth hp.fs hix
      have hqf : nth lf (Int.toNat (i : Int)) = .agg [.str p.funcs[i].name, .int .i64 p.funcs[i].args, .int .i64 p.funcs[i].locals, .sl z (p.funcs[i].code.map INP) t o] := by rw [Int.toNat_natCast]; exact hqf
      (conv => whnf); repeat ((first | (refine And.intro ?_ ?_; focus exact Cl4) | refine Both.T (by exact rfl) ?_ | refine Both.F (by exact rfl) ?_ | refine Both.GT (by exact rfl) (by exact rfl) ?_ | refine Both.GF (by exact rfl) ?_ | refine Both.GN (by exact rfl) ?_); conv => whnf)
      refine verf_spec hF p i zf lf tf zc lc tc hp _ (fun e he => by rw [hv] at he; cases he) (fun pl L he hWs => ?_)
      obtain rfl : pl0 = pl := by rw [hv] at he; cases he; rfl
      obtain ⟨hpl1, hB⟩ := ver_bnd hp he
      have hbl : ∀ i s, PL.at pl0 i = some s → s.ts.length ≤ 1000000 := fun i s h => Nat.le_trans (hB.h0 i s h).2.2 (by decide)
      have hLl := hWs.len
      have hcp := hco.pos
      have hcm : (p.funcs[i].code.map INP).length = p.funcs[i].code.length := List.length_map _
      have hneq : ((L.length : Int) != ((p.funcs[i].code.map INP).length : Int)) = false := by rw [hcm, hLl, hpl]; simp
      have hne0 : ((L.length : Int) == 0) = false := by simp; intro hc; rw [hc] at hLl; simp at hLl; omega
      have hl0 : leadsM pl0 0 0 [] = true := by
        unfold leadsM
        rw [decide_eq_true (show (0 : Int) ≤ 0 by decide), decide_eq_true (show (0 : Int) < (pl0.length : Int) by omega), decide_eq_true (show PL.at pl0 (Int.toNat 0) = some ⟨0, []⟩ from hat0)]; rfl
      (conv => whnf); repeat' (first | ((first | (refine And.intro ?_ ?_; focus exact Cl4) | refine Both.T (by exact rfl) ?_ | refine Both.F (by exact rfl) ?_ | refine Both.GT (by exact rfl) (by exact rfl) ?_ | refine Both.GF (by exact rfl) ?_ | refine Both.GN (by exact rfl) ?_); conv => whnf) | (rw [hqf]; conv => whnf) | (rw [hneq]; conv => whnf) | (rw [hne0]; conv => whnf) | ((refine leads_spec pl0 L 3 _ 0 0 [] 0 _ hWs (Or.inl rfl) (Or.inr rfl) hbl ⟨by decide, by omega⟩ _ ?_; rw [hl0]); conv => whnf) | ((refine Both.mk ?_ ?_ <;> fail_if_success (intro _)) <;> conv => whnf))
      refine ⟨Nat, fun k => ⟨72, [(6, .int .i64 k), (4, .sl 3 L false true), (3, .int .i64 i), (1, .ptr 0 0)], [(0, .box (pgc zf lf tf zc lc tc))], []⟩, fun k => k ≤ L.length, fun k => L.length - k, ⟨[], 0, Nat.zero_le _, ?_⟩, fun k hk => ?_⟩
      · simp [meets, ghosts, St.le, St.get, look, keys, PV.labs, labsL, lookB, Blk.labs]
      · conv => (arg 5; dsimp only)
        (conv => whnf); repeat ((first | (refine And.intro ?_ ?_; focus exact Cl4) | refine Both.T (by exact rfl) ?_ | refine Both.F (by exact rfl) ?_ | refine Both.GT (by exact rfl) (by exact rfl) ?_ | refine Both.GF (by exact rfl) ?_ | refine Both.GN (by exact rfl) ?_); conv => whnf)
        by_cases hkx : k < L.length
        · rw [decide_eq_true (show (k : Int) < (L.length : Int) by omega)]
          (conv => whnf); repeat ((first | (refine And.intro ?_ ?_; focus exact Cl4) | refine Both.T (by exact rfl) ?_ | refine Both.F (by exact rfl) ?_ | refine Both.GT (by exact rfl) (by exact rfl) ?_ | refine Both.GF (by exact rfl) ?_ | refine Both.GN (by exact rfl) ?_); conv => whnf)
          refine ⟨Unit, fun _ => ⟨72, [(71, .bool false), (6, .int .i64 k), (4, .sl 3 L false true), (3, .int .i64 i), (1, .ptr 0 0)], [(0, .box (pgc zf lf tf zc lc tc))], []⟩, fun _ => True, ?_, fun _ _ => ?_⟩
          · have hr := hWs.at_ k (by omega)
            cases hat : PL.at pl0 k with
            | none =>
              rw [hat] at hr
              obtain ⟨y, u, o2, hq⟩ := hr
              rw [← Int.toNat_natCast k] at hq
              (conv => whnf); repeat' (first | ((first | (refine And.intro ?_ ?_; focus exact Cl4) | refine Both.T (by exact rfl) ?_ | refine Both.F (by exact rfl) ?_ | refine Both.GT (by exact rfl) (by exact rfl) ?_ | refine Both.GF (by exact rfl) ?_ | refine Both.GN (by exact rfl) ?_); conv => whnf) | (rw [hq]; conv => whnf) | (rw [hqf]; conv => whnf) | ((refine Both.mk ?_ ?_ <;> fail_if_success (intro _)) <;> conv => whnf))
              all_goals (
                refine ⟨[], (), trivial, ?_⟩
                simp [meets, ghosts, St.le, St.get, look, keys, PV.labs, labsL, lookB, Blk.labs])
            | some s =>
              rw [hat] at hr
              obtain ⟨y, u, o2, hq, _⟩ := hr
              rw [← Int.toNat_natCast k] at hq
              (conv => whnf); repeat' (first | ((first | (refine And.intro ?_ ?_; focus exact Cl4) | refine Both.T (by exact rfl) ?_ | refine Both.F (by exact rfl) ?_ | refine Both.GT (by exact rfl) (by exact rfl) ?_ | refine Both.GF (by exact rfl) ?_ | refine Both.GN (by exact rfl) ?_); conv => whnf) | (rw [hq]; conv => whnf) | (rw [hqf]; conv => whnf) | (refine moved_spec p p.funcs[i] zf lf _ zc lc _ z t hp hzc hco k (by omega) s pl0 L _ hWs hpl hB (hled k (by omega) s hat) _ ?_; conv => whnf) | ((refine Both.mk ?_ ?_ <;> fail_if_success (intro _)) <;> conv => whnf))
              all_goals (
                refine ⟨[], (), trivial, ?_⟩
                simp [meets, ghosts, St.le, St.get, look, keys, PV.labs, labsL, lookB, Blk.labs])
          conv => (arg 4; dsimp only)
          (conv => whnf); repeat ((first | (refine And.intro ?_ ?_; focus exact Cl4) | refine Both.T (by exact rfl) ?_ | refine Both.F (by exact rfl) ?_ | refine Both.GT (by exact rfl) (by exact rfl) ?_ | refine Both.GF (by exact rfl) ?_ | refine Both.GN (by exact rfl) ?_); conv => whnf)
          rw [wrap64 (n := (k : Int) + 1) (by omega) (by omega)]
          refine ⟨[], k + 1, hkx, by show L.length - (k + 1) < L.length - k; omega, ?_⟩
          simp [meets, ghosts, St.le, St.get, look, keys, PV.labs, labsL, lookB, Blk.labs]
        · obtain rfl : k = L.length := by omega
          rw [decide_eq_false (show ¬ (L.length : Int) < (L.length : Int) by omega)]
          (conv => whnf); repeat ((first | (refine And.intro ?_ ?_; focus exact Cl4) | refine Both.T (by exact rfl) ?_ | refine Both.F (by exact rfl) ?_ | refine Both.GT (by exact rfl) (by exact rfl) ?_ | refine Both.GF (by exact rfl) ?_ | refine Both.GN (by exact rfl) ?_); conv => whnf)
          rw [wrap64 (n := (i : Int) + 1) (by omega) (by omega)]
          refine ⟨[], i + 1, hix, by show p.funcs.length - (i + 1) < p.funcs.length - i; omega, ?_⟩
          simp [meets, ghosts, St.le, St.get, look, keys, PV.labs, labsL, lookB, Blk.labs]
    · obtain rfl : i = p.funcs.length := by omega
      rw [decide_eq_false (show ¬ (p.funcs.length : Int) < (p.funcs.length : Int) by omega)]
      (conv => whnf); repeat ((first | (refine And.intro ?_ ?_; focus exact Cl4) | refine Both.T (by exact rfl) ?_ | refine Both.F (by exact rfl) ?_ | refine Both.GT (by exact rfl) (by exact rfl) ?_ | refine Both.GF (by exact rfl) ?_ | refine Both.GN (by exact rfl) ?_); conv => whnf)
end Go.Vc
