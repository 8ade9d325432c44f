/- What is proved here: contracts of functions of the program: of each function what it hands back and what it leaves in memory. Conditions: those that each theorem names. -/
import Derived.Test.YtmbopgmllnijjaaQf
set_option linter.unusedVariables false
set_option linter.unusedSimpArgs false
set_option linter.unusedSectionVars false
namespace Go.Vc
open Go Go.Proofs
set_option maxRecDepth 100000
/-- What value.Fits answers. -/
def FitsC : Prop := ∀ s : List UInt8, s.length ≤ 1000000000 → ∀ Post : PV → List (Nat × Blk) → Prop, Post (.bool (fitsT s)) [] → Spec K 100 [.str s] [] Post
theorem textM_len {p : PG} {zf zc : Nat} {lf lc : List PV} (hp : PGA p zf lf zc lc) (n : Int) : (textM p n).1.length ≤ 1000000000 := by
  unfold textM
  split
  · split
    · rename_i v hv
      have := hp.cb v (List.mem_of_getElem? hv)
      obtain ⟨k, n, s, l, ns⟩ := v
      have h2 := this.2
      simp only [bulkV] at h2
      show s.length ≤ _
      omega
    · simp
  · simp
theorem typed_site (hF : FitsC) (p : PG) (f : FD) (x : IN) (zf : Nat) (lf : List PV) (tf : Bool) (zc : Nat) (lc : List PV) (tc : Bool) (z : Nat) (t : Bool) (hp : PGA p zf lf zc lc) (Post : PV → List (Nat × Blk) → Prop)
    (h : Post (.bool ((textM p x.a).2 && fitsT (textM p x.a).1)) [(0, .box (pgc zf lf tf zc lc tc)), (1, .box (fdc f z t))]) : Spec K 85 [.agg [.ptr 0 0, .ptr 1 0, .int .i64 x.op, .int .i64 x.a, .int .i64 x.b]] [(0, .box (pgc zf lf tf zc lc tc)), (1, .box (fdc f z t))] Post := by
  refine is85.specW K_ok K_mix false (by simp) (by simp [keys]) ?_
  have ht := textM_len hp x.a
  (conv => whnf); repeat ((first | (refine And.intro ?_ ?_; focus exact Cl4) | refine Both.T (by exact rfl) ?_ | refine Both.F (by exact rfl) ?_ | refine Both.GT (by exact rfl) (by exact rfl) ?_ | refine Both.GF (by exact rfl) ?_ | refine Both.GN (by exact rfl) ?_); conv => whnf)
  refine text_spec p x.a zf lf tf zc lc tc hp _ ?_
  generalize textM p x.a = y at h ht
  obtain ⟨s, b⟩ := y
  (conv => whnf); repeat ((first | (refine And.intro ?_ ?_; focus exact Cl4) | refine Both.T (by exact rfl) ?_ | refine Both.F (by exact rfl) ?_ | refine Both.GT (by exact rfl) (by exact rfl) ?_ | refine Both.GF (by exact rfl) ?_ | refine Both.GN (by exact rfl) ?_); conv => whnf)
  cases b
  · (conv => whnf); repeat ((first | (refine And.intro ?_ ?_; focus exact Cl4) | refine Both.T (by exact rfl) ?_ | refine Both.F (by exact rfl) ?_ | refine Both.GT (by exact rfl) (by exact rfl) ?_ | refine Both.GF (by exact rfl) ?_ | refine Both.GN (by exact rfl) ?_); conv => whnf)
    exact h
  · (conv => whnf); repeat ((first | (refine And.intro ?_ ?_; focus exact Cl4) | refine Both.T (by exact rfl) ?_ | refine Both.F (by exact rfl) ?_ | refine Both.GT (by exact rfl) (by exact rfl) ?_ | refine Both.GF (by exact rfl) ?_ | refine Both.GN (by exact rfl) ?_); conv => whnf)
    refine hF s ht _ ?_
    (conv => whnf); repeat ((first | (refine And.intro ?_ ?_; focus exact Cl4) | refine Both.T (by exact rfl) ?_ | refine Both.F (by exact rfl) ?_ | refine Both.GT (by exact rfl) (by exact rfl) ?_ | refine Both.GF (by exact rfl) ?_ | refine Both.GN (by exact rfl) ?_); conv => whnf)
    exact h
theorem findM_lt (p : PG) (s : List UInt8) : findM p s < p.funcs.length := (idxL_ge _ _).2
set_option maxHeartbeats 8000000 in
theorem ask_site (p : PG) (f : FD) (x : IN) (zf : Nat) (lf : List PV) (tf : Bool) (zc : Nat) (lc : List PV) (tc : Bool) (z : Nat) (t : Bool) (hp : PGA p zf lf zc lc) (Post : PV → List (Nat × Blk) → Prop)
    (h : Post (.bool (askM p x)) [(0, .box (pgc zf lf tf zc lc tc)), (1, .box (fdc f z t))]) : Spec K 88 [.agg [.ptr 0 0, .ptr 1 0, .int .i64 x.op, .int .i64 x.a, .int .i64 x.b]] [(0, .box (pgc zf lf tf zc lc tc)), (1, .box (fdc f z t))] Post := by
  refine is88.specW K_ok K_mix false (by simp) (by simp [keys]) ?_
  have hf := FPs_len hp.fs
  have hzf := zlf hp
  unfold askM at h
  (conv => whnf); repeat ((first | (refine And.intro ?_ ?_; focus exact Cl4) | refine Both.T (by exact rfl) ?_ | refine Both.F (by exact rfl) ?_ | refine Both.GT (by exact rfl) (by exact rfl) ?_ | refine Both.GF (by exact rfl) ?_ | refine Both.GN (by exact rfl) ?_); conv => whnf)
  by_cases h1 : x.a = 1 ∨ x.a = 3
  · rw [if_pos h1] at h
    have key : ∀ b : Bool, b = namedM p x.b → Post (.bool b) [(0, .box (pgc zf lf tf zc lc tc)), (1, .box (fdc f z t))] := fun b e => by rw [e]; exact h
    rcases h1 with h1 | h1
    all_goals (
      rw [h1]
      (conv => whnf); repeat ((first | (refine And.intro ?_ ?_; focus exact Cl4) | refine Both.T (by exact rfl) ?_ | refine Both.F (by exact rfl) ?_ | refine Both.GT (by exact rfl) (by exact rfl) ?_ | refine Both.GF (by exact rfl) ?_ | refine Both.GN (by exact rfl) ?_); conv => whnf)
      refine named_p p x.b zf lf tf zc lc tc hp _ ?_
      (conv => whnf); repeat ((first | (refine And.intro ?_ ?_; focus exact Cl4) | refine Both.T (by exact rfl) ?_ | refine Both.F (by exact rfl) ?_ | refine Both.GT (by exact rfl) (by exact rfl) ?_ | refine Both.GF (by exact rfl) ?_ | refine Both.GN (by exact rfl) ?_); conv => whnf)
      exact h)
  rw [if_neg h1] at h
  have e1 : (x.a == 1) = false := by simp; omega
  have e3 : (x.a == 3) = false := by simp; omega
  rw [e1]
  (conv => whnf); repeat ((first | (refine And.intro ?_ ?_; focus exact Cl4) | refine Both.T (by exact rfl) ?_ | refine Both.F (by exact rfl) ?_ | refine Both.GT (by exact rfl) (by exact rfl) ?_ | refine Both.GF (by exact rfl) ?_ | refine Both.GN (by exact rfl) ?_); conv => whnf)
  rw [e3]
  (conv => whnf); repeat ((first | (refine And.intro ?_ ?_; focus exact Cl4) | refine Both.T (by exact rfl) ?_ | refine Both.F (by exact rfl) ?_ | refine Both.GT (by exact rfl) (by exact rfl) ?_ | refine Both.GF (by exact rfl) ?_ | refine Both.GN (by exact rfl) ?_); conv => whnf)
  by_cases h4 : x.a = 4
  · rw [if_pos h4] at h
    rw [h4]
    (conv => whnf); repeat ((first | (refine And.intro ?_ ?_; focus exact Cl4) | refine Both.T (by exact rfl) ?_ | refine Both.F (by exact rfl) ?_ | refine Both.GT (by exact rfl) (by exact rfl) ?_ | refine Both.GF (by exact rfl) ?_ | refine Both.GN (by exact rfl) ?_); conv => whnf)
    refine text_spec p x.b zf lf tf zc lc tc hp _ ?_
    generalize textM p x.b = y at h
    obtain ⟨s, b⟩ := y
    (conv => whnf); repeat ((first | (refine And.intro ?_ ?_; focus exact Cl4) | refine Both.T (by exact rfl) ?_ | refine Both.F (by exact rfl) ?_ | refine Both.GT (by exact rfl) (by exact rfl) ?_ | refine Both.GF (by exact rfl) ?_ | refine Both.GN (by exact rfl) ?_); conv => whnf)
    refine find_spec p s zf lf tf zc lc tc hp _ ?_
    have hlt := findM_lt p s
    have hge : -1 ≤ findM p s := (idxL_ge _ _).1
    simp only at h
    generalize findM p s = k at h hlt hge
    have key : ∀ bb : Bool, bb = (b && decide (0 ≤ k) && (match p.funcs[k.toNat]? with | some f => f.args == 1 | none => false)) → Post (.bool bb) [(0, .box (pgc zf lf tf zc lc tc)), (1, .box (fdc f z t))] := fun bb e => by rw [e]; exact h
    clear h
    have hnf : ∀ j : Nat, (∃ g : FD, p.funcs[j]? = some g ∧ ∃ y u, nth lf j = .agg [.str g.name, .int .i64 g.args, .int .i64 g.locals, .sl y (g.code.map INP) u true]) ∨ (p.funcs[j]? = none ∧ nth lf j = .undef) ∨ (∃ g : FD, p.funcs[j]? = some g ∧ ∃ y u, nth lf j = .agg [.str g.name, .int .i64 g.args, .int .i64 g.locals, .sl y (g.code.map INP) u false]) := by
      intro j
      by_cases hj : j < p.funcs.length
      · obtain ⟨y, u, o, hq, hy⟩ := FPs_nth hp.fs hj
        cases o
        · exact .inr (.inr ⟨_, List.getElem?_eq_getElem hj, y, u, hq⟩)
        · exact .inl ⟨_, List.getElem?_eq_getElem hj, y, u, hq⟩
      · refine .inr (.inl ⟨List.getElem?_eq_none (by omega), ?_⟩)
        unfold nth; rw [List.getD_eq_getElem?_getD, List.getElem?_eq_none (by omega)]; rfl
    by_cases hk : 0 ≤ k
    · have hkl : k.toNat < p.funcs.length := by omega
      rw [if_neg (show ¬ 0 > k by omega), decide_eq_true hk] at *
      rcases hnf k.toNat with ⟨g, hg, y, u, hq⟩ | ⟨hg, hq⟩ | ⟨g, hg, y, u, hq⟩
      case inr.inl => rw [List.getElem?_eq_getElem hkl] at hg; cases hg
      all_goals (
        rw [hg] at key
        (conv => whnf); repeat ((first | (refine And.intro ?_ ?_; focus exact Cl4) | refine Both.T (by exact rfl) ?_ | refine Both.F (by exact rfl) ?_ | refine Both.GT (by exact rfl) (by exact rfl) ?_ | refine Both.GF (by exact rfl) ?_ | refine Both.GN (by exact rfl) ?_); conv => whnf)
        rw [hq]
        (conv => whnf); repeat ((first | (refine And.intro ?_ ?_; focus exact Cl4) | refine Both.T (by exact rfl) ?_ | refine Both.F (by exact rfl) ?_ | refine Both.GT (by exact rfl) (by exact rfl) ?_ | refine Both.GF (by exact rfl) ?_ | refine Both.GN (by exact rfl) ?_); conv => whnf)
        refine key _ ?_
        cases b <;> simp)
    · have hk0 : decide (0 ≤ k) = false := decide_eq_false hk
      rw [if_pos (show 0 > k by omega), hk0] at *
      rcases hnf (0 : Int).toNat with ⟨g, hg, y, u, hq⟩ | ⟨hg, hq⟩ | ⟨g, hg, y, u, hq⟩
      all_goals (
        (conv => whnf); repeat ((first | (refine And.intro ?_ ?_; focus exact Cl4) | refine Both.T (by exact rfl) ?_ | refine Both.F (by exact rfl) ?_ | refine Both.GT (by exact rfl) (by exact rfl) ?_ | refine Both.GF (by exact rfl) ?_ | refine Both.GN (by exact rfl) ?_); conv => whnf)
        rw [hq]
        (conv => whnf); repeat ((first | (refine And.intro ?_ ?_; focus exact Cl4) | refine Both.T (by exact rfl) ?_ | refine Both.F (by exact rfl) ?_ | refine Both.GT (by exact rfl) (by exact rfl) ?_ | refine Both.GF (by exact rfl) ?_ | refine Both.GN (by exact rfl) ?_); conv => whnf)
        refine key _ ?_
        cases b <;> simp [hk])
  rw [if_neg h4] at h
  have e4 : (x.a == 4) = false := by simp; omega
  rw [e4]
  (conv => whnf); repeat ((first | (refine And.intro ?_ ?_; focus exact Cl4) | refine Both.T (by exact rfl) ?_ | refine Both.F (by exact rfl) ?_ | refine Both.GT (by exact rfl) (by exact rfl) ?_ | refine Both.GF (by exact rfl) ?_ | refine Both.GN (by exact rfl) ?_); conv => whnf)
  by_cases h5 : x.a = 2 ∨ x.a = 5 ∨ x.a = 6 ∨ x.a = 7 ∨ x.a = 8
  · rw [if_pos h5] at h
    rcases h5 with h5 | h5 | h5 | h5 | h5
    all_goals (
      rw [h5]
      (conv => whnf); repeat ((first | (refine And.intro ?_ ?_; focus exact Cl4) | refine Both.T (by exact rfl) ?_ | refine Both.F (by exact rfl) ?_ | refine Both.GT (by exact rfl) (by exact rfl) ?_ | refine Both.GF (by exact rfl) ?_ | refine Both.GN (by exact rfl) ?_); conv => whnf)
      exact h)
  · rw [if_neg h5] at h
    have f2 : (x.a == 2) = false := by simp; omega
    have f5 : (x.a == 5) = false := by simp; omega
    have f6 : (x.a == 6) = false := by simp; omega
    have f7 : (x.a == 7) = false := by simp; omega
    have f8 : (x.a == 8) = false := by simp; omega
    (conv => whnf); repeat' (first | ((first | (refine And.intro ?_ ?_; focus exact Cl4) | refine Both.T (by exact rfl) ?_ | refine Both.F (by exact rfl) ?_ | refine Both.GT (by exact rfl) (by exact rfl) ?_ | refine Both.GF (by exact rfl) ?_ | refine Both.GN (by exact rfl) ?_ | refine Both.T (by assumption) ?_ | refine Both.F (by assumption) ?_); conv => whnf) | (refine Both.mk (fun hb => ?_) (fun hb => ?_) <;> conv => whnf))
    all_goals first
    | exact h
    | (exfalso; simp_all; done)
end Go.Vc
namespace Go.Vc
open Go Go.Proofs
set_option maxRecDepth 100000
def mayF (op : Int) : Nat :=
  if op = 1 then 80 else if op = 2 ∨ op = 3 then 81 else if op = 20 then 82 else if op = 21 then 83 else if op = 22 then 84 else if op = 23 then 85 else if op = 24 ∨ op = 25 ∨ op = 26 then 86 else if op = 29 then 87 else if op = 31 then 88 else 89
set_option maxHeartbeats 8000000 in
theorem may_site (p : PG) (f : FD) (x : IN) (zf : Nat) (lf : List PV) (tf : Bool) (zc : Nat) (lc : List PV) (tc : Bool) (z : Nat) (t : Bool) (hp : PGA p zf lf zc lc) (Post : PV → List (Nat × Blk) → Prop)
    (h : Post (.fn (.func (mayF x.op)) [.agg [.ptr 0 0, .ptr 1 0, .int .i64 x.op, .int .i64 x.a, .int .i64 x.b]] []) [(0, .box (pgc zf lf tf zc lc tc)), (1, .box (fdc f z t))]) : Spec K 71 [.agg [.ptr 0 0, .ptr 1 0, .int .i64 x.op, .int .i64 x.a, .int .i64 x.b]] [(0, .box (pgc zf lf tf zc lc tc)), (1, .box (fdc f z t))] Post := by
  refine is71.specW K_ok K_mix false (by simp) (by simp [keys]) ?_
  have key : ∀ n : Nat, n = mayF x.op → Post (.fn (.func n) [.agg [.ptr 0 0, .ptr 1 0, .int .i64 x.op, .int .i64 x.a, .int .i64 x.b]] []) [(0, .box (pgc zf lf tf zc lc tc)), (1, .box (fdc f z t))] := fun n e => by rw [e]; exact h
  clear h
  (conv => whnf); repeat' (first | ((first | (refine And.intro ?_ ?_; focus exact Cl4) | refine Both.T (by exact rfl) ?_ | refine Both.F (by exact rfl) ?_ | refine Both.GT (by exact rfl) (by exact rfl) ?_ | refine Both.GF (by exact rfl) ?_ | refine Both.GN (by exact rfl) ?_ | refine Both.T (by assumption) ?_ | refine Both.F (by assumption) ?_); conv => whnf) | (refine Both.mk (fun hb => ?_) (fun hb => ?_) <;> conv => whnf))
  all_goals (refine key _ ?_; unfold mayF; simp_all)
/-- An instruction that may be, one site after the other. -/
theorem op_site (hF : FitsC) (p : PG) (f : FD) (x : IN) (zf : Nat) (lf : List PV) (tf : Bool) (zc : Nat) (lc : List PV) (tc : Bool) (z : Nat) (t : Bool) (hp : PGA p zf lf zc lc) (Post : PV → List (Nat × Blk) → Prop)
    (h : Post (.bool (operandM p f x)) [(0, .box (pgc zf lf tf zc lc tc)), (1, .box (fdc f z t))]) : ∀ n, n = mayF x.op → Spec K n [.agg [.ptr 0 0, .ptr 1 0, .int .i64 x.op, .int .i64 x.a, .int .i64 x.b]] [(0, .box (pgc zf lf tf zc lc tc)), (1, .box (fdc f z t))] Post := by
  intro n hn
  unfold mayF at hn
  unfold operandM at h
  split at hn
  · rename_i h1; subst hn; rw [if_pos h1] at h; exact value_site p f x zf lf tf zc lc tc z t hp _ h
  rename_i h1; rw [if_neg h1] at h
  split at hn
  · rename_i h2; subst hn; rw [if_pos h2] at h; exact local_site p f x zf lf tf zc lc tc z t hp _ h
  rename_i h2; rw [if_neg h2] at h
  split at hn
  · rename_i h2; subst hn; rw [if_pos h2] at h; exact count_site p f x zf lf tf zc lc tc z t hp _ h
  rename_i h2; rw [if_neg h2] at h
  split at hn
  · rename_i h2; subst hn; rw [if_pos h2] at h; exact fields_site p f x zf lf tf zc lc tc z t hp _ h
  rename_i h2; rw [if_neg h2] at h
  split at hn
  · rename_i h2; subst hn; rw [if_pos h2] at h; exact field_site p f x zf lf tf zc lc tc z t hp _ h
  rename_i h2; rw [if_neg h2] at h
  split at hn
  · rename_i h2; subst hn; rw [if_pos h2] at h; exact typed_site hF p f x zf lf tf zc lc tc z t hp _ h
  rename_i h2; rw [if_neg h2] at h
  split at hn
  · rename_i h2; subst hn; rw [if_pos h2] at h; exact place_site p f x zf lf tf zc lc tc z t hp _ h
  rename_i h2; rw [if_neg h2] at h
  split at hn
  · rename_i h2; subst hn; rw [if_pos h2] at h; exact fn_site p f x zf lf tf zc lc tc z t hp _ h
  rename_i h2; rw [if_neg h2] at h
  split at hn
  · rename_i h2; subst hn; rw [if_pos h2] at h; exact ask_site p f x zf lf tf zc lc tc z t hp _ h
  rename_i h2; rw [if_neg h2] at h
  subst hn; exact none_site p f x zf lf tf zc lc tc z t hp _ h
set_option maxHeartbeats 8000000 in
theorem fits_site (hF : FitsC) (p : PG) (f : FD) (x : IN) (zf : Nat) (lf : List PV) (tf : Bool) (zc : Nat) (lc : List PV) (tc : Bool) (z : Nat) (t : Bool) (hp : PGA p zf lf zc lc) (Post : PV → List (Nat × Blk) → Prop)
    (h : Post (.bool (insM p f x)) [(0, .box (pgc zf lf tf zc lc tc)), (1, .box (fdc f z t))]) : Spec K 51 [.agg [.ptr 0 0, .ptr 1 0, .int .i64 x.op, .int .i64 x.a, .int .i64 x.b]] [(0, .box (pgc zf lf tf zc lc tc)), (1, .box (fdc f z t))] Post := by
  refine is51.specW K_ok K_mix false (by simp) (by simp [keys]) ?_
  have hop := op_site hF p f x zf lf tf zc lc tc z t hp
  have e : insM p f x = ((bif bif decide (1 ≤ x.op) then decide (x.op ≤ 31) else false then bif x.b == 0 then true else x.op == 31 else false) && operandM p f x) := by
    unfold insM
    cases decide (1 ≤ x.op) <;> cases decide (x.op ≤ 31) <;> cases x.b == 0 <;> rfl
  rw [e] at h
  clear e
  (conv => whnf); repeat ((first | (refine And.intro ?_ ?_; focus exact Cl4) | refine Both.T (by exact rfl) ?_ | refine Both.F (by exact rfl) ?_ | refine Both.GT (by exact rfl) (by exact rfl) ?_ | refine Both.GF (by exact rfl) ?_ | refine Both.GN (by exact rfl) ?_); conv => whnf)
  cases hb : (bif bif decide (1 ≤ x.op) then decide (x.op ≤ 31) else false then bif x.b == 0 then true else x.op == 31 else false)
  · rw [hb] at h
    refine Both.GF rfl ?_
    (conv => whnf); repeat ((first | (refine And.intro ?_ ?_; focus exact Cl4) | refine Both.T (by exact rfl) ?_ | refine Both.F (by exact rfl) ?_ | refine Both.GT (by exact rfl) (by exact rfl) ?_ | refine Both.GF (by exact rfl) ?_ | refine Both.GN (by exact rfl) ?_); conv => whnf)
    exact h
  · rw [hb] at h
    refine Both.GT rfl rfl ?_
    (conv => whnf); repeat ((first | (refine And.intro ?_ ?_; focus exact Cl4) | refine Both.T (by exact rfl) ?_ | refine Both.F (by exact rfl) ?_ | refine Both.GT (by exact rfl) (by exact rfl) ?_ | refine Both.GF (by exact rfl) ?_ | refine Both.GN (by exact rfl) ?_); conv => whnf)
    refine may_site p f x zf lf tf zc lc tc z t hp _ ?_
    (conv => whnf); repeat ((first | (refine And.intro ?_ ?_; focus exact Cl4) | refine Both.T (by exact rfl) ?_ | refine Both.F (by exact rfl) ?_ | refine Both.GT (by exact rfl) (by exact rfl) ?_ | refine Both.GF (by exact rfl) ?_ | refine Both.GN (by exact rfl) ?_); conv => whnf)
    refine hop _ ?_ _ rfl
    (conv => whnf); repeat ((first | (refine And.intro ?_ ?_; focus exact Cl4) | refine Both.T (by exact rfl) ?_ | refine Both.F (by exact rfl) ?_ | refine Both.GT (by exact rfl) (by exact rfl) ?_ | refine Both.GF (by exact rfl) ?_ | refine Both.GN (by exact rfl) ?_); conv => whnf)
    exact h
end Go.Vc
