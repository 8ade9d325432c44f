/- What is proved here: contracts of functions of the program: of each function what it hands back and what it leaves in memory. Conditions: those that each theorem names. -/
import Derived.Test.YtmbopgmllnijjaaQg
set_option linter.unusedVariables false
set_option linter.unusedSimpArgs false
set_option linter.unusedSectionVars false
namespace Go.Vc
open Go Go.Proofs
set_option maxRecDepth 100000
theorem countP_step {p : PG} {f : FD} {i : Nat} (hi : i < p.funcs.length) : ((p.funcs.take (i + 1)).countP fun g => g.name == f.name) = ((p.funcs.take i).countP fun g => g.name == f.name) + (if p.funcs[i].name == f.name then 1 else 0) := by
  rw [List.take_succ_eq_append_getElem hi, List.countP_append, List.countP_singleton]
set_option maxHeartbeats 8000000 in
theorem head_spec (p : PG) (f : FD) (zf : Nat) (lf : List PV) (tf : Bool) (zc : Nat) (lc : List PV) (tc : Bool) (z : Nat) (t : Bool) (hp : PGA p zf lf zc lc) (hn : f.name.length ≤ 1000000000) (Post : PV → List (Nat × Blk) → Prop)
    (h : Post (.bool (headM p f)) [(0, .box (pgc zf lf tf zc lc tc))]) : Spec K 49 [.ptr 0 0, .agg (fdc f z t)] [(0, .box (pgc zf lf tf zc lc tc))] Post := by
  refine is49.specW K_ok K_mix false (by simp) (by simp [keys]) ?_
  have hf := FPs_len hp.fs
  have hz := zlf hp
  have hnf := hp.nf
  (conv => whnf); repeat ((first | (refine And.intro ?_ ?_; focus exact Cl4) | refine Both.T (by exact rfl) ?_ | refine Both.F (by exact rfl) ?_ | refine Both.GT (by exact rfl) (by exact rfl) ?_ | refine Both.GF (by exact rfl) ?_ | refine Both.GN (by exact rfl) ?_); conv => whnf)
  rw [hf]
  refine ⟨Nat, fun i => ⟨60, [(13, .int .i64 i), (12, .int .i64 p.funcs.length), (11, .sl zf lf tf true), (5, .int .i64 ((p.funcs.take i).countP fun g => g.name == f.name : Nat)), (3, .ptr 1 0)], [(0, .box (pgc zf lf tf zc lc tc)), (1, .box (fdc f z t))], [0]⟩, fun i => i ≤ p.funcs.length, fun i => p.funcs.length - i, ⟨[], 0, Nat.zero_le _, ?_⟩, fun i hi => ?_⟩
  · simp [meets, ghosts, St.le, St.get, look, keys, PV.labs, labsL, lookB, Blk.labs]
  · conv => (arg 5; dsimp only)
    (conv => whnf); repeat ((first | (refine And.intro ?_ ?_; focus exact Cl4) | refine Both.T (by exact rfl) ?_ | refine Both.F (by exact rfl) ?_ | refine Both.GT (by exact rfl) (by exact rfl) ?_ | refine Both.GF (by exact rfl) ?_ | refine Both.GN (by exact rfl) ?_); conv => whnf)
    by_cases hix : i < p.funcs.length
    · rw [decide_eq_true (show (i : Int) < (p.funcs.length : Int) by omega)]
      (conv => whnf); repeat ((first | (refine And.intro ?_ ?_; focus exact Cl4) | refine Both.T (by exact rfl) ?_ | refine Both.F (by exact rfl) ?_ | refine Both.GT (by exact rfl) (by exact rfl) ?_ | refine Both.GF (by exact rfl) ?_ | refine Both.GN (by exact rfl) ?_); conv => whnf)
      obtain ⟨y, u, o, hq, hy⟩ := FPs_nth hp.fs hix
      have hst := countP_step (f := f) hix
      have hcl : ((p.funcs.take i).countP fun g => g.name == f.name) ≤ i := Nat.le_trans List.countP_le_length (by rw [List.length_take]; omega)
      rw [Int.toNat_natCast, hq]
      (conv => whnf); repeat ((first | (refine And.intro ?_ ?_; focus exact Cl4) | refine Both.T (by exact rfl) ?_ | refine Both.F (by exact rfl) ?_ | refine Both.GT (by exact rfl) (by exact rfl) ?_ | refine Both.GF (by exact rfl) ?_ | refine Both.GN (by exact rfl) ?_); conv => whnf)
      cases he : (p.funcs[i].name == f.name)
      · rw [he] at hst
        (conv => whnf); repeat ((first | (refine And.intro ?_ ?_; focus exact Cl4) | refine Both.T (by exact rfl) ?_ | refine Both.F (by exact rfl) ?_ | refine Both.GT (by exact rfl) (by exact rfl) ?_ | refine Both.GF (by exact rfl) ?_ | refine Both.GN (by exact rfl) ?_); conv => whnf)
        rw [wrap64 (n := (i : Int) + 1) (by omega) (by omega)]
        refine ⟨[], i + 1, hix, by show p.funcs.length - (i + 1) < p.funcs.length - i; omega, ?_⟩
        simp [meets, ghosts, St.le, St.get, look, keys, PV.labs, labsL, lookB, Blk.labs, hst]
      · rw [he] at hst
        (conv => whnf); repeat ((first | (refine And.intro ?_ ?_; focus exact Cl4) | refine Both.T (by exact rfl) ?_ | refine Both.F (by exact rfl) ?_ | refine Both.GT (by exact rfl) (by exact rfl) ?_ | refine Both.GF (by exact rfl) ?_ | refine Both.GN (by exact rfl) ?_); conv => whnf)
        rw [wrap64 (n := (i : Int) + 1) (by omega) (by omega), wrap64 (n := (((p.funcs.take i).countP fun g => g.name == f.name : Nat) : Int) + 1) (by omega) (by omega)]
        refine ⟨[], i + 1, hix, by show p.funcs.length - (i + 1) < p.funcs.length - i; omega, ?_⟩
        simp [meets, ghosts, St.le, St.get, look, keys, PV.labs, labsL, lookB, Blk.labs, hst]
    · obtain rfl : i = p.funcs.length := by omega
      rw [decide_eq_false (show ¬ (p.funcs.length : Int) < (p.funcs.length : Int) by omega)]
      have e0 : (((p.funcs.take p.funcs.length).countP fun g => g.name == f.name : Nat) : Int) = ((p.funcs.countP fun g => g.name == f.name : Nat) : Int) := by rw [List.take_length]
      rw [e0]
      (conv => whnf); repeat ((first | (refine And.intro ?_ ?_; focus exact Cl4) | refine Both.T (by exact rfl) ?_ | refine Both.F (by exact rfl) ?_ | refine Both.GT (by exact rfl) (by exact rfl) ?_ | refine Both.GF (by exact rfl) ?_ | refine Both.GN (by exact rfl) ?_); conv => whnf)
      have e1 : ((((p.funcs.countP fun g => g.name == f.name : Nat) : Int)) == 1) = ((p.funcs.countP fun g => g.name == f.name) == 1) := by rw [Bool.eq_iff_iff]; simp; omega
      rw [e1]
      unfold headM at h
      generalize ((p.funcs.countP fun g => g.name == f.name) == 1) = c1 at h
      cases c1
      · (conv => whnf); repeat ((first | (refine And.intro ?_ ?_; focus exact Cl4) | refine Both.T (by exact rfl) ?_ | refine Both.F (by exact rfl) ?_ | refine Both.GT (by exact rfl) (by exact rfl) ?_ | refine Both.GF (by exact rfl) ?_ | refine Both.GN (by exact rfl) ?_); conv => whnf)
        exact h
      · (conv => whnf); repeat ((first | (refine And.intro ?_ ?_; focus exact Cl4) | refine Both.T (by exact rfl) ?_ | refine Both.F (by exact rfl) ?_ | refine Both.GT (by exact rfl) (by exact rfl) ?_ | refine Both.GF (by exact rfl) ?_ | refine Both.GN (by exact rfl) ?_); conv => whnf)
        refine name_spec f.name hn _ ?_
        (conv => whnf); repeat ((first | (refine And.intro ?_ ?_; focus exact Cl4) | refine Both.T (by exact rfl) ?_ | refine Both.F (by exact rfl) ?_ | refine Both.GT (by exact rfl) (by exact rfl) ?_ | refine Both.GF (by exact rfl) ?_ | refine Both.GN (by exact rfl) ?_); conv => whnf)
        rw [List.length_map, show decide (0 < (f.code.length : Int)) = decide (0 < f.code.length) from decide_eq_decide.2 (by omega)]
        have key : ∀ b : Bool, b = (true && nameM f.name && decide (0 ≤ f.args) && decide (f.args ≤ 8) && decide (f.args ≤ f.locals) && decide (f.locals ≤ 32) && decide (0 < f.code.length)) → Post (.bool b) [(0, .box (pgc zf lf tf zc lc tc))] := fun b e => by rw [e]; exact h
        refine key _ ?_
        cases nameM f.name <;> cases decide (0 ≤ f.args) <;> cases decide (f.args ≤ 8) <;> cases decide (f.args ≤ f.locals) <;> cases decide (f.locals ≤ 32) <;> rfl
theorem wrong_c (p : PG) (f : FD) (zf : Nat) (lf : List PV) (tf : Bool) (zc : Nat) (lc : List PV) (tc : Bool) (z : Nat) (t : Bool) (hp : PGA p zf lf zc lc) (hn : f.name.length ≤ 1000000000) (Post : PV → List (Nat × Blk) → Prop)
    (h : Post (.bool (!headM p f)) [(0, .box (pgc zf lf tf zc lc tc))]) : Spec K 48 [.agg (fdc f z t), .ptr 0 0] [(0, .box (pgc zf lf tf zc lc tc))] Post := by
  refine is48.specW K_ok K_mix false (by simp) (by simp [keys]) ?_
  (conv => whnf); repeat ((first | (refine And.intro ?_ ?_; focus exact Cl4) | refine Both.T (by exact rfl) ?_ | refine Both.F (by exact rfl) ?_ | refine Both.GT (by exact rfl) (by exact rfl) ?_ | refine Both.GF (by exact rfl) ?_ | refine Both.GN (by exact rfl) ?_); conv => whnf)
  refine head_spec p f zf lf tf zc lc tc z t hp hn _ ?_
  (conv => whnf); repeat ((first | (refine And.intro ?_ ?_; focus exact Cl4) | refine Both.T (by exact rfl) ?_ | refine Both.F (by exact rfl) ?_ | refine Both.GT (by exact rfl) (by exact rfl) ?_ | refine Both.GF (by exact rfl) ?_ | refine Both.GN (by exact rfl) ?_); conv => whnf)
  exact h
set_option maxHeartbeats 4000000 in
theorem index_head (p : PG) (zf : Nat) (lf : List PV) (tf : Bool) (zc : Nat) (lc : List PV) (tc : Bool) (hp : PGA p zf lf zc lc)  (l : List FD) (z : Nat) (lp : List PV) (t : Bool) (hl : FPs l lp) (hz : z = 4 ∨ l = []) (hn : l.length ≤ 1000000000) (hnm : ∀ f ∈ l, f.name.length ≤ 1000000000) (Post : PV → List (Nat × Blk) → Prop) (h : Post (.int .i64 (idxL (fun f => !headM p f) l)) [(0, .box (pgc zf lf tf zc lc tc))]) : Spec K 61 [.sl z lp t true, .fn (.func 48) [] [.ptr 0 0]] [(0, .box (pgc zf lf tf zc lc tc))] Post := by
  refine is61.specW K_ok K_mix false (by simp) (by simp [keys]) ?_
  have hlen := FPs_len hl
  have hz2 : z = 4 ∨ lp = [] := hz.imp id fun h => by rw [h] at hlen; exact List.length_eq_zero_iff.1 hlen
  (conv => whnf); repeat ((first | (refine And.intro ?_ ?_; focus exact Cl4) | refine Both.T (by exact rfl) ?_ | refine Both.F (by exact rfl) ?_ | refine Both.GT (by exact rfl) (by exact rfl) ?_ | refine Both.GF (by exact rfl) ?_ | refine Both.GN (by exact rfl) ?_); conv => whnf)
  rw [hlen]
  refine ⟨Nat, fun i => ⟨19, [(8, .int .i64 i), (7, .int .i64 l.length), (1, .fn (.func 48) [] [.ptr 0 0]), (0, .sl z lp t true)], [(0, .box (pgc zf lf tf zc lc tc))], [0]⟩, fun i => i ≤ l.length ∧ idxL (fun f => !headM p f) l = sh i (idxL (fun f => !headM p f) (l.drop i)), fun i => l.length - i, ⟨[], 0, ⟨Nat.zero_le _, sh_zero.symm⟩, ?_⟩, fun i hI => ?_⟩
  · simp [meets, ghosts, St.le, St.get, look, keys, PV.labs, labsL, lookB, Blk.labs]
  · obtain ⟨hi, hin⟩ := hI
    conv => (arg 5; dsimp only)
    (conv => whnf); repeat ((first | (refine And.intro ?_ ?_; focus exact Cl4) | refine Both.T (by exact rfl) ?_ | refine Both.F (by exact rfl) ?_ | refine Both.GT (by exact rfl) (by exact rfl) ?_ | refine Both.GF (by exact rfl) ?_ | refine Both.GN (by exact rfl) ?_); conv => whnf)
    by_cases hix : i < l.length
    · have hilp : i < lp.length := by omega
      rw [decide_eq_true (show (i : Int) < (l.length : Int) by omega)]
      (conv => whnf); repeat ((first | (refine And.intro ?_ ?_; focus exact Cl4) | refine Both.T (by exact rfl) ?_ | refine Both.F (by exact rfl) ?_ | refine Both.GT (by exact rfl) (by exact rfl) ?_ | refine Both.GF (by exact rfl) ?_ | refine Both.GN (by exact rfl) ?_); conv => whnf)
      obtain ⟨y, u, o, hq, hy⟩ := FPs_nth hl hix
      rw [Int.toNat_natCast, hq]
      (conv => whnf); repeat ((first | (refine And.intro ?_ ?_; focus exact Cl4) | refine Both.T (by exact rfl) ?_ | refine Both.F (by exact rfl) ?_ | refine Both.GT (by exact rfl) (by exact rfl) ?_ | refine Both.GF (by exact rfl) ?_ | refine Both.GN (by exact rfl) ?_); conv => whnf)
      refine wrong_c p l[i] zf lf tf zc lc tc _ _ hp (hnm _ (List.getElem_mem hix)) _ ?_
      cases hp : (fun f => !headM p f) l[i]
      · refine Both.F hp ?_
        (conv => whnf); repeat ((first | (refine And.intro ?_ ?_; focus exact Cl4) | refine Both.T (by exact rfl) ?_ | refine Both.F (by exact rfl) ?_ | refine Both.GT (by exact rfl) (by exact rfl) ?_ | refine Both.GF (by exact rfl) ?_ | refine Both.GN (by exact rfl) ?_); conv => whnf)
        rw [wrap64 (n := (i : Int) + 1) (by omega) (by omega)]
        refine ⟨[], i + 1, ⟨hix, by rw [hin]; exact sh_step hix hp⟩, by show l.length - (i + 1) < l.length - i; omega, ?_⟩
        simp [meets, ghosts, St.le, St.get, look, keys, PV.labs, labsL, lookB, Blk.labs]
      · refine Both.T hp ?_
        (conv => whnf); repeat ((first | (refine And.intro ?_ ?_; focus exact Cl4) | refine Both.T (by exact rfl) ?_ | refine Both.F (by exact rfl) ?_ | refine Both.GT (by exact rfl) (by exact rfl) ?_ | refine Both.GF (by exact rfl) ?_ | refine Both.GN (by exact rfl) ?_); conv => whnf)
        rw [hin, sh_hit hix hp] at h
        exact h
    · obtain rfl : i = l.length := by omega
      rw [decide_eq_false (show ¬ (l.length : Int) < (l.length : Int) by omega)]
      (conv => whnf); repeat ((first | (refine And.intro ?_ ?_; focus exact Cl4) | refine Both.T (by exact rfl) ?_ | refine Both.F (by exact rfl) ?_ | refine Both.GT (by exact rfl) (by exact rfl) ?_ | refine Both.GF (by exact rfl) ?_ | refine Both.GN (by exact rfl) ?_); conv => whnf)
      rw [hin, sh_end] at h
      exact h
theorem any_head (p : PG) (zf : Nat) (lf : List PV) (tf : Bool) (zc : Nat) (lc : List PV) (tc : Bool) (hp : PGA p zf lf zc lc) (t : Bool) (Post : PV → List (Nat × Blk) → Prop)
    (h : Post (.bool (p.funcs.any fun f => !headM p f)) [(0, .box (pgc zf lf tf zc lc tc))]) : Spec K 45 [.sl zf lf t true, .fn (.func 48) [] [.ptr 0 0]] [(0, .box (pgc zf lf tf zc lc tc))] Post := by
  refine is45.specW K_ok K_mix false (by simp) (by simp [keys]) ?_
  (conv => whnf); repeat ((first | (refine And.intro ?_ ?_; focus exact Cl4) | refine Both.T (by exact rfl) ?_ | refine Both.F (by exact rfl) ?_ | refine Both.GT (by exact rfl) (by exact rfl) ?_ | refine Both.GF (by exact rfl) ?_ | refine Both.GN (by exact rfl) ?_); conv => whnf)
  refine index_head p zf lf tf zc lc tc hp p.funcs zf lf t hp.fs hp.zf hp.nf (fun f hf => (hp.fb f hf).name) _ ?_
  (conv => whnf); repeat ((first | (refine And.intro ?_ ?_; focus exact Cl4) | refine Both.T (by exact rfl) ?_ | refine Both.F (by exact rfl) ?_ | refine Both.GT (by exact rfl) (by exact rfl) ?_ | refine Both.GF (by exact rfl) ?_ | refine Both.GN (by exact rfl) ?_); conv => whnf)
  rw [idxL_any]
  exact h
end Go.Vc
namespace Go.Vc
open Go Go.Proofs
set_option maxRecDepth 100000
theorem any_step {α : Type} {P : α → Bool} {l : List α} {i : Nat} (hi : i < l.length) (h : (l.take i).any P = false) (h2 : P l[i] = false) : (l.take (i + 1)).any P = false := by
  rw [List.take_succ_eq_append_getElem hi, List.any_append, h]; simp [h2]
theorem any_hit {α : Type} {P : α → Bool} {l : List α} {i : Nat} (hi : i < l.length) (h2 : P l[i] = true) : l.any P = true := List.any_eq_true.2 ⟨l[i], List.getElem_mem hi, h2⟩
set_option maxHeartbeats 16000000 in
theorem chk_spec (hF : FitsC) (p : PG) (zf : Nat) (lf : List PV) (tf : Bool) (zc : Nat) (lc : List PV) (tc : Bool) (hp : PGA p zf lf zc lc) (Post : PV → List (Nat × Blk) → Prop)
    (h : Post (.int .i64 (chkM p)) []) : Spec K 23 [.agg (pgc zf lf tf zc lc tc)] [] Post := by
  refine is23.specW K_ok K_mix false (by simp) (by simp [keys]) ?_
  have hf := FPs_len hp.fs
  have hc := VPs_len hp.cs
  have hz := zlf hp
  have hnf := hp.nf
  unfold chkM at h
  (conv => whnf); repeat ((first | (refine And.intro ?_ ?_; focus exact Cl4) | refine Both.T (by exact rfl) ?_ | refine Both.F (by exact rfl) ?_ | refine Both.GT (by exact rfl) (by exact rfl) ?_ | refine Both.GF (by exact rfl) ?_ | refine Both.GN (by exact rfl) ?_); conv => whnf)
  rw [hf, hc]
  have e1 : (bif decide (16 < (p.funcs.length : Int)) then true else decide (256 < (p.consts.length : Int))) = (decide (16 < p.funcs.length) || decide (256 < p.consts.length)) := by
    rw [show decide (16 < (p.funcs.length : Int)) = decide (16 < p.funcs.length) from decide_eq_decide.2 (by omega), show decide (256 < (p.consts.length : Int)) = decide (256 < p.consts.length) from decide_eq_decide.2 (by omega)]
    cases decide (16 < p.funcs.length) <;> rfl
  rw [e1]
  have hA : (16 < p.funcs.length ∨ 256 < p.consts.length ∨ (p.funcs.any fun f => decide (512 < f.code.length)) = true) ↔ ((decide (16 < p.funcs.length) || decide (256 < p.consts.length)) = true ∨ (p.funcs.any fun f => decide (512 < f.code.length)) = true) := by
    rw [Bool.or_eq_true, decide_eq_true_eq, decide_eq_true_eq, or_assoc]
  cases c1 : (decide (16 < p.funcs.length) || decide (256 < p.consts.length))
  case true =>
    rw [if_pos (hA.2 (.inl c1))] at h
    refine Both.GF rfl ?_
    (conv => whnf); repeat ((first | (refine And.intro ?_ ?_; focus exact Cl4) | refine Both.T (by exact rfl) ?_ | refine Both.F (by exact rfl) ?_ | refine Both.GT (by exact rfl) (by exact rfl) ?_ | refine Both.GF (by exact rfl) ?_ | refine Both.GN (by exact rfl) ?_); conv => whnf)
    exact h
  case false =>
  refine Both.GT rfl rfl ?_
  (conv => whnf); repeat ((first | (refine And.intro ?_ ?_; focus exact Cl4) | refine Both.T (by exact rfl) ?_ | refine Both.F (by exact rfl) ?_ | refine Both.GT (by exact rfl) (by exact rfl) ?_ | refine Both.GF (by exact rfl) ?_ | refine Both.GN (by exact rfl) ?_); conv => whnf)
  refine any_long p.funcs zf lf tf hp.fs hp.zf hp.nf _ ?_
  cases c2 : (p.funcs.any fun f => decide (512 < f.code.length))
  case true =>
    rw [if_pos (hA.2 (.inr c2))] at h
    (conv => whnf); repeat ((first | (refine And.intro ?_ ?_; focus exact Cl4) | refine Both.T (by exact rfl) ?_ | refine Both.F (by exact rfl) ?_ | refine Both.GT (by exact rfl) (by exact rfl) ?_ | refine Both.GF (by exact rfl) ?_ | refine Both.GN (by exact rfl) ?_); conv => whnf)
    exact h
  case false =>
  rw [if_neg (fun hc => by rcases hA.1 hc with hc | hc <;> simp_all)] at h
  clear hA e1
  (conv => whnf); repeat ((first | (refine And.intro ?_ ?_; focus exact Cl4) | refine Both.T (by exact rfl) ?_ | refine Both.F (by exact rfl) ?_ | refine Both.GT (by exact rfl) (by exact rfl) ?_ | refine Both.GF (by exact rfl) ?_ | refine Both.GN (by exact rfl) ?_); conv => whnf)
  rw [hf]
  have e2 : ((p.funcs.length : Int) == 0) = decide (p.funcs = []) := by rw [Bool.eq_iff_iff]; simp
  rw [e2]
  cases c3 : decide (p.funcs = [])
  case true =>
    rw [if_pos (.inl (of_decide_eq_true c3))] at h
    refine Both.GF rfl ?_
    (conv => whnf); repeat ((first | (refine And.intro ?_ ?_; focus exact Cl4) | refine Both.T (by exact rfl) ?_ | refine Both.F (by exact rfl) ?_ | refine Both.GT (by exact rfl) (by exact rfl) ?_ | refine Both.GF (by exact rfl) ?_ | refine Both.GN (by exact rfl) ?_); conv => whnf)
    exact h
  case false =>
  refine Both.GT rfl rfl ?_
  (conv => whnf); repeat ((first | (refine And.intro ?_ ?_; focus exact Cl4) | refine Both.T (by exact rfl) ?_ | refine Both.F (by exact rfl) ?_ | refine Both.GT (by exact rfl) (by exact rfl) ?_ | refine Both.GF (by exact rfl) ?_ | refine Both.GN (by exact rfl) ?_); conv => whnf)
  refine any_odd p.consts zc lc tc hp.cs hp.zc hp.nc hp.cb _ ?_
  cases c4 : (p.consts.any fun v => !mayV v)
  case true =>
    rw [if_pos (.inr (.inl c4))] at h
    (conv => whnf); repeat ((first | (refine And.intro ?_ ?_; focus exact Cl4) | refine Both.T (by exact rfl) ?_ | refine Both.F (by exact rfl) ?_ | refine Both.GT (by exact rfl) (by exact rfl) ?_ | refine Both.GF (by exact rfl) ?_ | refine Both.GN (by exact rfl) ?_); conv => whnf)
    exact h
  case false =>
  (conv => whnf); repeat ((first | (refine And.intro ?_ ?_; focus exact Cl4) | refine Both.T (by exact rfl) ?_ | refine Both.F (by exact rfl) ?_ | refine Both.GT (by exact rfl) (by exact rfl) ?_ | refine Both.GF (by exact rfl) ?_ | refine Both.GN (by exact rfl) ?_); conv => whnf)
  refine any_head p zf lf tf zc lc tc hp tf _ ?_
  cases c5 : (p.funcs.any fun f => !headM p f)
  case true =>
    rw [if_pos (.inr (.inr c5))] at h
    (conv => whnf); repeat ((first | (refine And.intro ?_ ?_; focus exact Cl4) | refine Both.T (by exact rfl) ?_ | refine Both.F (by exact rfl) ?_ | refine Both.GT (by exact rfl) (by exact rfl) ?_ | refine Both.GF (by exact rfl) ?_ | refine Both.GN (by exact rfl) ?_); conv => whnf)
    exact h
  case false =>
  rw [if_neg (fun hc => by rcases hc with hc | hc | hc <;> simp_all)] at h
  (conv => whnf); repeat ((first | (refine And.intro ?_ ?_; focus exact Cl4) | refine Both.T (by exact rfl) ?_ | refine Both.F (by exact rfl) ?_ | refine Both.GT (by exact rfl) (by exact rfl) ?_ | refine Both.GF (by exact rfl) ?_ | refine Both.GN (by exact rfl) ?_); conv => whnf)
  rw [hf]
  refine ⟨Nat, fun i => ⟨63, [(46, .int .i64 i), (45, .int .i64 p.funcs.length), (44, .sl zf lf tf true), (1, .ptr 0 0)], [(0, .box (pgc zf lf tf zc lc tc))], []⟩, fun i => i ≤ p.funcs.length ∧ ((p.funcs.take i).any fun f => f.code.any fun x => !insM p f x) = false, fun i => p.funcs.length - i, ⟨[], 0, ⟨Nat.zero_le _, rfl⟩, ?_⟩, fun i hI => ?_⟩
  · simp [meets, ghosts, St.le, St.get, look, keys, PV.labs, labsL, lookB, Blk.labs]
  · obtain ⟨hi, hin⟩ := hI
    conv => (arg 5; dsimp only)
    (conv => whnf); repeat ((first | (refine And.intro ?_ ?_; focus exact Cl4) | refine Both.T (by exact rfl) ?_ | refine Both.F (by exact rfl) ?_ | refine Both.GT (by exact rfl) (by exact rfl) ?_ | refine Both.GF (by exact rfl) ?_ | refine Both.GN (by exact rfl) ?_); conv => whnf)
    by_cases hix : i < p.funcs.length
    · rw [decide_eq_true (show (i : Int) < (p.funcs.length : Int) by omega)]
      (conv => whnf); repeat ((first | (refine And.intro ?_ ?_; focus exact Cl4) | refine Both.T (by exact rfl) ?_ | refine Both.F (by exact rfl) ?_ | refine Both.GT (by exact rfl) (by exact rfl) ?_ | refine Both.GF (by exact rfl) ?_ | refine Both.GN (by exact rfl) ?_); conv => whnf)
      obtain ⟨y, u, o, hq, hy⟩ := FPs_nth hp.fs hix
      have hfb := hp.fb _ (List.getElem_mem hix)
      have hcb := hfb.code
      have hy2 : y = 3 ∨ List.map INP p.funcs[i].code = [] := hy.imp id fun h => by rw [h]; rfl
      rw [Int.toNat_natCast, hq]
      (conv => whnf); repeat ((first | (refine And.intro ?_ ?_; focus exact Cl4) | refine Both.T (by exact rfl) ?_ | refine Both.F (by exact rfl) ?_ | refine Both.GT (by exact rfl) (by exact rfl) ?_ | refine Both.GF (by exact rfl) ?_ | refine Both.GN (by exact rfl) ?_); conv => whnf)
      rw [List.length_map]
      refine ⟨Nat, fun k => ⟨63, [(53, .int .i64 k), (52, .int .i64 p.funcs[i].code.length), (51, .sl y (List.map INP p.funcs[i].code) u true), (7, .ptr 1 0), (46, .int .i64 i), (45, .int .i64 p.funcs.length), (44, .sl zf lf tf true), (1, .ptr 0 0)], [(0, .box (pgc zf lf tf zc lc tc)), (1, .box (fdc p.funcs[i] y u))], []⟩, fun k => k ≤ p.funcs[i].code.length ∧ ((p.funcs[i].code.take k).any fun x => !insM p p.funcs[i] x) = false, fun k => p.funcs[i].code.length - k, ⟨[], 0, ⟨Nat.zero_le _, rfl⟩, ?_⟩, fun k hK => ?_⟩
      · simp [meets, ghosts, St.le, St.get, look, keys, PV.labs, labsL, lookB, Blk.labs]
      · obtain ⟨hk, hkn⟩ := hK
        conv => (arg 5; dsimp only)
        (conv => whnf); repeat ((first | (refine And.intro ?_ ?_; focus exact Cl4) | refine Both.T (by exact rfl) ?_ | refine Both.F (by exact rfl) ?_ | refine Both.GT (by exact rfl) (by exact rfl) ?_ | refine Both.GF (by exact rfl) ?_ | refine Both.GN (by exact rfl) ?_); conv => whnf)
        by_cases hkx : k < p.funcs[i].code.length
        · have hkm : k < (List.map INP p.funcs[i].code).length := by rw [List.length_map]; exact hkx
          rw [decide_eq_true (show (k : Int) < (p.funcs[i].code.length : Int) by omega)]
          (conv => whnf); repeat ((first | (refine And.intro ?_ ?_; focus exact Cl4) | refine Both.T (by exact rfl) ?_ | refine Both.F (by exact rfl) ?_ | refine Both.GT (by exact rfl) (by exact rfl) ?_ | refine Both.GF (by exact rfl) ?_ | refine Both.GN (by exact rfl) ?_); conv => whnf)
          rw [Int.toNat_natCast, code_nth hkx]
          (conv => whnf); repeat ((first | (refine And.intro ?_ ?_; focus exact Cl4) | refine Both.T (by exact rfl) ?_ | refine Both.F (by exact rfl) ?_ | refine Both.GT (by exact rfl) (by exact rfl) ?_ | refine Both.GF (by exact rfl) ?_ | refine Both.GN (by exact rfl) ?_); conv => whnf)
          refine fits_site hF p p.funcs[i] p.funcs[i].code[k] zf lf tf zc lc tc y u hp _ ?_
          cases hb : insM p p.funcs[i] p.funcs[i].code[k]
          · (conv => whnf); repeat ((first | (refine And.intro ?_ ?_; focus exact Cl4) | refine Both.T (by exact rfl) ?_ | refine Both.F (by exact rfl) ?_ | refine Both.GT (by exact rfl) (by exact rfl) ?_ | refine Both.GF (by exact rfl) ?_ | refine Both.GN (by exact rfl) ?_); conv => whnf)
            have hb2 : (fun x => !insM p p.funcs[i] x) p.funcs[i].code[k] = true := by simp [hb]
            have hb3 : (fun f : FD => f.code.any fun x => !insM p f x) p.funcs[i] = true := any_hit hkx hb2
            rw [if_pos (any_hit hix hb3)] at h
            exact h
          · (conv => whnf); repeat ((first | (refine And.intro ?_ ?_; focus exact Cl4) | refine Both.T (by exact rfl) ?_ | refine Both.F (by exact rfl) ?_ | refine Both.GT (by exact rfl) (by exact rfl) ?_ | refine Both.GF (by exact rfl) ?_ | refine Both.GN (by exact rfl) ?_); conv => whnf)
            rw [wrap64 (n := (k : Int) + 1) (by omega) (by omega)]
            refine ⟨[], k + 1, ⟨hkx, any_step hkx hkn (by simp [hb])⟩, by show p.funcs[i].code.length - (k + 1) < p.funcs[i].code.length - k; omega, ?_⟩
            simp [meets, ghosts, St.le, St.get, look, keys, PV.labs, labsL, lookB, Blk.labs]
        · obtain rfl : k = p.funcs[i].code.length := by omega
          rw [decide_eq_false (show ¬ (p.funcs[i].code.length : Int) < (p.funcs[i].code.length : Int) by omega)]
          (conv => whnf); repeat ((first | (refine And.intro ?_ ?_; focus exact Cl4) | refine Both.T (by exact rfl) ?_ | refine Both.F (by exact rfl) ?_ | refine Both.GT (by exact rfl) (by exact rfl) ?_ | refine Both.GF (by exact rfl) ?_ | refine Both.GN (by exact rfl) ?_); conv => whnf)
          rw [wrap64 (n := (i : Int) + 1) (by omega) (by omega)]
          rw [List.take_length] at hkn
          refine ⟨[], i + 1, ⟨hix, any_step hix hin hkn⟩, by show p.funcs.length - (i + 1) < p.funcs.length - i; omega, ?_⟩
          simp [meets, ghosts, St.le, St.get, look, keys, PV.labs, labsL, lookB, Blk.labs]
    · obtain rfl : i = p.funcs.length := by omega
      rw [decide_eq_false (show ¬ (p.funcs.length : Int) < (p.funcs.length : Int) by omega)]
      (conv => whnf); repeat ((first | (refine And.intro ?_ ?_; focus exact Cl4) | refine Both.T (by exact rfl) ?_ | refine Both.F (by exact rfl) ?_ | refine Both.GT (by exact rfl) (by exact rfl) ?_ | refine Both.GF (by exact rfl) ?_ | refine Both.GN (by exact rfl) ?_); conv => whnf)
      rw [List.take_length] at hin
      rw [if_neg (by rw [hin]; simp)] at h
      exact h
end Go.Vc
