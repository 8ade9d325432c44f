/- What is proved here: contracts of functions of the program: of each function what it hands back and what it leaves in memory. Conditions: those that each theorem names. -/
import Derived.Test.YtmbopgmllnijjaaQl
set_option linter.unusedVariables false
set_option linter.unusedSimpArgs false
set_option linter.unusedSectionVars false
namespace Go.Vc
open Go Go.Proofs
set_option maxRecDepth 100000
def LawPost : PV → List (Nat × Blk) → Prop := fun r h' => r = .bool true ∧ h' = []
/-- What works answers. -/
def WorksC : Prop := ∀ Post : PV → List (Nat × Blk) → Prop, Post (.bool true) [] → Spec K 14 [] [] Post
theorem verM_in {p : PG} (hc : chkM p = 0) {i : Nat} (hi : i < p.funcs.length) : verM p (i : Int) = (match funcK p p.funcs[i].code with | none => .error 170 | some pl => .ok pl) := by
  unfold verM
  rw [if_neg (by simp [hc]), if_neg (by omega), Int.toNat_natCast, List.getElem?_eq_getElem hi]
  dsimp only
  cases funcK p p.funcs[i].code <;> rfl
theorem verM_out {p : PG} (hc : chkM p = 0) : verM p (p.funcs.length : Int) = .error 9 := by
  unfold verM
  rw [if_neg (by simp [hc]), if_pos (by omega)]
theorem progM_ok {p : PG} (hc : chkM p = 0) : progM p = if (p.funcs.any fun f => (funcK p f.code).isNone) = true then 170 else 0 := by
  unfold progM; rw [if_neg (by simp [hc])]
set_option maxHeartbeats 16000000 in
theorem each_law (hF : FitsC) (hW : WorksC) (p : PG) (zf : Nat) (lf : List PV) (tf : Bool) (zc : Nat) (lc : List PV) (tc : Bool) (hp : PGA p zf lf zc lc) : CSpec K 6 [.agg (pgc zf lf tf zc lc tc)] [] LawPost := by
  refine is6.cspec K_ok K_mix false (by simp) (by simp [keys]) ?_
  have hfl := FPs_len hp.fs
  have hz := zlf hp
  have hnf := hp.nf
  (conv => whnf); repeat ((first | (refine And.intro ?_ ?_; focus exact Cl4) | refine Both.T (by exact rfl) ?_ | refine Both.F (by exact rfl) ?_ | refine Both.GT (by exact rfl) (by exact rfl) ?_ | refine Both.GF (by exact rfl) ?_ | refine Both.GN (by exact rfl) ?_); conv => whnf)
  refine hW _ ?_
  (conv => whnf); repeat ((first | (refine And.intro ?_ ?_; focus exact Cl4) | refine Both.T (by exact rfl) ?_ | refine Both.F (by exact rfl) ?_ | refine Both.GT (by exact rfl) (by exact rfl) ?_ | refine Both.GF (by exact rfl) ?_ | refine Both.GN (by exact rfl) ?_); conv => whnf)
  refine chk_spec hF p zf lf tf zc lc tc hp _ ?_
  by_cases hc : chkM p = 0
  case neg =>
    have hc2 : (chkM p != 0) = true := by simpa using hc
    have hpm : progM p = chkM p := by unfold progM; rw [if_pos hc]
    (conv => whnf); repeat ((first | (refine And.intro ?_ ?_; focus exact Cl4) | refine Both.T (by exact rfl) ?_ | refine Both.F (by exact rfl) ?_ | refine Both.GT (by exact rfl) (by exact rfl) ?_ | refine Both.GF (by exact rfl) ?_ | refine Both.GN (by exact rfl) ?_); conv => whnf)
    rw [hc2]
    (conv => whnf); repeat' (first | ((first | (refine And.intro ?_ ?_; focus exact Cl4) | refine Both.T (by exact rfl) ?_ | refine Both.F (by exact rfl) ?_ | refine Both.GT (by exact rfl) (by exact rfl) ?_ | refine Both.GF (by exact rfl) ?_ | refine Both.GN (by exact rfl) ?_); conv => whnf) | (refine chk_spec hF p zf lf tf zc lc tc hp _ ?_; conv => whnf) | (refine prog_spec hF p zf lf tf zc lc tc hp _ ?_; conv => whnf) | ((refine Both.mk ?_ ?_ <;> fail_if_success (intro _)) <;> conv => whnf))
    all_goals (
      rw [hpm, beq_self_eq_true]
      exact ⟨rfl, rfl⟩)
  case pos =>
  rw [hc]
  (conv => whnf); repeat ((first | (refine And.intro ?_ ?_; focus exact Cl4) | refine Both.T (by exact rfl) ?_ | refine Both.F (by exact rfl) ?_ | refine Both.GT (by exact rfl) (by exact rfl) ?_ | refine Both.GF (by exact rfl) ?_ | refine Both.GN (by exact rfl) ?_); conv => whnf)
  refine ⟨Nat, fun i => ⟨54, [(4, .int .i64 i), (3, .bool (!((p.funcs.take i).any fun f => (funcK p f.code).isNone))), (1, .ptr 0 0)], [(0, .box (pgc zf lf tf zc lc tc))], []⟩, fun i => i ≤ p.funcs.length, fun i => p.funcs.length - i, ⟨[], 0, Nat.zero_le _, ?_⟩, fun i hi => ?_⟩
  · simp [meets, ghosts, St.le, St.get, look, keys, PV.labs, labsL, lookB, Blk.labs]
  · conv => (arg 5; dsimp only)
    (conv => whnf); repeat ((first | (refine And.intro ?_ ?_; focus exact Cl4) | refine Both.T (by exact rfl) ?_ | refine Both.F (by exact rfl) ?_ | refine Both.GT (by exact rfl) (by exact rfl) ?_ | refine Both.GF (by exact rfl) ?_ | refine Both.GN (by exact rfl) ?_); conv => whnf)
    rw [hfl]
    by_cases hix : i < p.funcs.length
    · rw [decide_eq_true (show (i : Int) < (p.funcs.length : Int) by omega)]
      (conv => whnf); repeat ((first | (refine And.intro ?_ ?_; focus exact Cl4) | refine Both.T (by exact rfl) ?_ | refine Both.F (by exact rfl) ?_ | refine Both.GT (by exact rfl) (by exact rfl) ?_ | refine Both.GF (by exact rfl) ?_ | refine Both.GN (by exact rfl) ?_); conv => whnf)
      have hv := verM_in hc hix
      have hsnoc : ((p.funcs.take (i + 1)).any fun f => (funcK p f.code).isNone) = (((p.funcs.take i).any fun f => (funcK p f.code).isNone) || (funcK p p.funcs[i].code).isNone) := by
        rw [List.take_succ_eq_append_getElem hix, List.any_append]; simp
      refine verf_spec hF p i zf lf tf zc lc tc hp _ (fun e he => ?_) (fun pl L he hWs => ?_)
      · have hn : (funcK p p.funcs[i].code).isNone = true ∧ e = 170 := by
          rw [hv] at he
          cases hk : funcK p p.funcs[i].code with
          | none => rw [hk] at he; cases he; exact ⟨rfl, rfl⟩
          | some pl => rw [hk] at he; cases he
        rw [hn.2]
        (conv => whnf); repeat ((first | (refine And.intro ?_ ?_; focus exact Cl4) | refine Both.T (by exact rfl) ?_ | refine Both.F (by exact rfl) ?_ | refine Both.GT (by exact rfl) (by exact rfl) ?_ | refine Both.GF (by exact rfl) ?_ | refine Both.GN (by exact rfl) ?_); conv => whnf)
        rw [wrap64 (n := (i : Int) + 1) (by omega) (by omega)]
        refine ⟨[], i + 1, hix, by show p.funcs.length - (i + 1) < p.funcs.length - i; omega, ?_⟩
        rw [hn.1] at hsnoc
        simp [meets, ghosts, St.le, St.get, look, keys, PV.labs, labsL, lookB, Blk.labs, hsnoc]
      · have hn : (funcK p p.funcs[i].code).isNone = false := by
          rw [hv] at he
          cases hk : funcK p p.funcs[i].code with
          | none => rw [hk] at he; cases he
          | some pl => rfl
        (conv => whnf); repeat ((first | (refine And.intro ?_ ?_; focus exact Cl4) | refine Both.T (by exact rfl) ?_ | refine Both.F (by exact rfl) ?_ | refine Both.GT (by exact rfl) (by exact rfl) ?_ | refine Both.GF (by exact rfl) ?_ | refine Both.GN (by exact rfl) ?_); conv => whnf)
        rw [wrap64 (n := (i : Int) + 1) (by omega) (by omega)]
        refine ⟨[], i + 1, hix, by show p.funcs.length - (i + 1) < p.funcs.length - i; omega, ?_⟩
        rw [hn] at hsnoc
        simp [meets, ghosts, St.le, St.get, look, keys, PV.labs, labsL, lookB, Blk.labs, hsnoc]
    · obtain rfl : i = p.funcs.length := by omega
      rw [decide_eq_false (show ¬ (p.funcs.length : Int) < (p.funcs.length : Int) by omega)]
      (conv => whnf); repeat ((first | (refine And.intro ?_ ?_; focus exact Cl4) | refine Both.T (by exact rfl) ?_ | refine Both.F (by exact rfl) ?_ | refine Both.GT (by exact rfl) (by exact rfl) ?_ | refine Both.GF (by exact rfl) ?_ | refine Both.GN (by exact rfl) ?_); conv => whnf)
      rw [hfl]
      have hv := verM_out hc
      refine verf_spec hF p (p.funcs.length : Int) zf lf tf zc lc tc hp _ (fun e he => ?_) (fun pl L he hWs => by rw [hv] at he; cases he)
      obtain rfl : 9 = e := by rw [hv] at he; cases he; rfl
      (conv => whnf); repeat ((first | (refine And.intro ?_ ?_; focus exact Cl4) | refine Both.T (by exact rfl) ?_ | refine Both.F (by exact rfl) ?_ | refine Both.GT (by exact rfl) (by exact rfl) ?_ | refine Both.GF (by exact rfl) ?_ | refine Both.GN (by exact rfl) ?_); conv => whnf)
      refine prog_spec hF p zf lf tf zc lc tc hp _ ?_
      rw [progM_ok hc]
      cases ha : (p.funcs.any fun f => (funcK p f.code).isNone)
      · (conv => whnf); repeat ((first | (refine And.intro ?_ ?_; focus exact Cl4) | refine Both.T (by exact rfl) ?_ | refine Both.F (by exact rfl) ?_ | refine Both.GT (by exact rfl) (by exact rfl) ?_ | refine Both.GF (by exact rfl) ?_ | refine Both.GN (by exact rfl) ?_); conv => whnf)
        rw [List.take_length, ha]
        exact ⟨rfl, rfl⟩
      · (conv => whnf); repeat ((first | (refine And.intro ?_ ?_; focus exact Cl4) | refine Both.T (by exact rfl) ?_ | refine Both.F (by exact rfl) ?_ | refine Both.GT (by exact rfl) (by exact rfl) ?_ | refine Both.GF (by exact rfl) ?_ | refine Both.GN (by exact rfl) ?_); conv => whnf)
        rw [List.take_length, ha]
        exact ⟨rfl, rfl⟩
end Go.Vc
