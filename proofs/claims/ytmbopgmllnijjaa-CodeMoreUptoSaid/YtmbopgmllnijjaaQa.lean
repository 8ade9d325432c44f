/- What is proved here: contracts of functions of the program: of each function what it hands back and what it leaves in memory. Conditions: those that each theorem names. -/
import Derived.Test.YtmbopgmllnijjaaPa
import Derived.Test.YtmbopgmllnijjaaWb
set_option linter.unusedVariables false
set_option linter.unusedSimpArgs false
set_option linter.unusedSectionVars false
namespace Go.Vc
open Go Go.Proofs
set_option maxRecDepth 100000
/-! Programs, as cells. -/
def INP (x : IN) : PV := .agg [.int .i64 x.op, .int .i64 x.a, .int .i64 x.b]
def FP (f : FD) (p : PV) : Prop := ∃ z t o, p = .agg [.str f.name, .int .i64 f.args, .int .i64 f.locals, .sl z (f.code.map INP) t o] ∧ (z = 3 ∨ f.code = [])
def FPs : List FD → List PV → Prop
  | [], l => l = []
  | f :: r, l => ∃ p q, l = p :: q ∧ FP f p ∧ FPs r q
theorem FPs_len : ∀ {l : List FD} {lp : List PV}, FPs l lp → lp.length = l.length
  | [], lp, h => by simp only [FPs] at h; subst h; rfl
  | v :: r, lp, h => by
    simp only [FPs] at h
    obtain ⟨p, q, rfl, _, h2⟩ := h
    simp [FPs_len h2]
theorem FPs_nth : ∀ {l : List FD} {lp : List PV}, FPs l lp → ∀ {i : Nat} (hi : i < l.length), FP l[i] (nth lp i)
  | v :: r, lp, h, 0, hi => by
    simp only [FPs] at h
    obtain ⟨p, q, rfl, h1, _⟩ := h
    exact h1
  | v :: r, lp, h, i + 1, hi => by
    simp only [FPs] at h
    obtain ⟨p, q, rfl, _, h2⟩ := h
    exact FPs_nth h2 (i := i) (by simpa using hi)
structure FB (f : FD) : Prop where
  name : f.name.length ≤ 1000000000
  args : i64 f.args
  locals : i64 f.locals
  code : f.code.length ≤ 1000000000
  ins : ∀ x ∈ f.code, i64 x.op ∧ i64 x.a ∧ i64 x.b
structure PGA (p : PG) (zf : Nat) (lf : List PV) (zc : Nat) (lc : List PV) : Prop where
  fs : FPs p.funcs lf
  cs : VPs p.consts lc
  zf : zf = 4 ∨ p.funcs = []
  zc : zc = 5 ∨ p.consts = []
  nf : p.funcs.length ≤ 1000000000
  nc : p.consts.length ≤ 1000000000
  fb : ∀ f ∈ p.funcs, FB f
  cb : ∀ v ∈ p.consts, i64 v.n ∧ bulkV v ≤ 1000000000
abbrev pgc (zf : Nat) (lf : List PV) (tf : Bool) (zc : Nat) (lc : List PV) (tc : Bool) : List PV := [.sl zf lf tf true, .sl zc lc tc true]
abbrev fdc (f : FD) (z : Nat) (t : Bool) : List PV := [.str f.name, .int .i64 f.args, .int .i64 f.locals, .sl z (f.code.map INP) t true]
theorem code_nth {c : List IN} {i : Nat} (h : i < c.length) : nth (c.map INP) i = INP c[i] := by
  unfold nth
  rw [List.getD_eq_getElem?_getD, List.getElem?_map, List.getElem?_eq_getElem h]; rfl
/-- A function out of the row, as it is read. -/
theorem FP.read {f : FD} {p : PV} (h : FP f p) : ∃ z t, .agg (p.cells.map (PV.retag true)) = PV.agg (fdc f z t) ∧ (z = 3 ∨ f.code = []) := by
  obtain ⟨z, t, o, rfl, hz⟩ := h
  exact ⟨z, t, rfl, hz⟩
end Go.Vc
namespace Go.Vc
open Go Go.Proofs
set_option maxRecDepth 100000
set_option maxHeartbeats 16000000 in
theorem moves_spec (p : PG) (x : IN) (zf : Nat) (lf : List PV) (tf : Bool) (zc : Nat) (lc : List PV) (tc : Bool) (hp : PGA p zf lf zc lc) (Post : PV → List (Nat × Blk) → Prop)
    (h : Post (.tup [.int .i64 (movesM p x).1, .int .i64 (movesM p x).2]) []) : Spec K 36 [.agg (pgc zf lf tf zc lc tc), INP x] [] Post := by
  obtain ⟨op, a, b⟩ := x
  show Spec K 36 [.agg (pgc zf lf tf zc lc tc), .agg [.int .i64 op, .int .i64 a, .int .i64 b]] [] Post
  have key : ∀ u v : Int, (u, v) = movesM p ⟨op, a, b⟩ → Post (.tup [.int .i64 u, .int .i64 v]) [] := fun u v e => by rw [← e] at h; exact h
  clear h
  refine is36.specW K_ok K_mix false (by simp) (by simp [keys]) ?_
  have hf := FPs_len hp.fs
  have hc := VPs_len hp.cs
  by_cases h21 : op = 21
  · subst h21
    (conv => whnf); repeat ((first | (refine And.intro ?_ ?_; focus exact Cl4) | refine Both.T (by exact rfl) ?_ | refine Both.F (by exact rfl) ?_ | refine Both.GT (by exact rfl) (by exact rfl) ?_ | refine Both.GF (by exact rfl) ?_ | refine Both.GN (by exact rfl) ?_); conv => whnf)
    rw [hc]
    by_cases ha : 0 ≤ a ∧ a < (p.consts.length : Int)
    · have hlt : a.toNat < p.consts.length := by omega
      obtain ⟨y1, mp, u1, o1, y2, u2, o2, hq, hv, g1, g2, g3⟩ := (VPs_nth hp.cs hlt).out
      have hz : zc = 5 ∨ lc = [] := hp.zc.imp id fun h => by rw [h] at hc; exact List.length_eq_zero_iff.1 hc
      rw [decide_eq_true ha.1, decide_eq_true ha.2]
      (conv => whnf); repeat ((first | (refine And.intro ?_ ?_; focus exact Cl4) | refine Both.T (by exact rfl) ?_ | refine Both.F (by exact rfl) ?_ | refine Both.GT (by exact rfl) (by exact rfl) ?_ | refine Both.GF (by exact rfl) ?_ | refine Both.GN (by exact rfl) ?_); conv => whnf)
      rw [hq]
      (conv => whnf); repeat ((first | (refine And.intro ?_ ?_; focus exact Cl4) | refine Both.T (by exact rfl) ?_ | refine Both.F (by exact rfl) ?_ | refine Both.GT (by exact rfl) (by exact rfl) ?_ | refine Both.GF (by exact rfl) ?_ | refine Both.GN (by exact rfl) ?_); conv => whnf)
      refine key _ _ ?_
      have hm := VPs_len hv
      rw [hm]
      show _ = movesM p ⟨21, a, b⟩
      unfold movesM
      simp [ha.1, List.getElem?_eq_getElem hlt]
    · have : (bif decide (0 ≤ a) then decide (a < (p.consts.length : Int)) else false) = false := by
        by_cases h0 : 0 ≤ a
        · rw [decide_eq_true h0, decide_eq_false (fun h => ha ⟨h0, h⟩)]; rfl
        · rw [decide_eq_false h0]; rfl
      refine Both.F this ?_
      (conv => whnf); repeat ((first | (refine And.intro ?_ ?_; focus exact Cl4) | refine Both.T (by exact rfl) ?_ | refine Both.F (by exact rfl) ?_ | refine Both.GT (by exact rfl) (by exact rfl) ?_ | refine Both.GF (by exact rfl) ?_ | refine Both.GN (by exact rfl) ?_); conv => whnf)
      refine key _ _ ?_
      unfold movesM
      by_cases h0 : 0 ≤ a
      · have : p.consts.length ≤ a.toNat := by omega
        simp [h0, List.getElem?_eq_none this]
      · simp [h0]
  by_cases h29 : op = 29
  · subst h29
    (conv => whnf); repeat ((first | (refine And.intro ?_ ?_; focus exact Cl4) | refine Both.T (by exact rfl) ?_ | refine Both.F (by exact rfl) ?_ | refine Both.GT (by exact rfl) (by exact rfl) ?_ | refine Both.GF (by exact rfl) ?_ | refine Both.GN (by exact rfl) ?_); conv => whnf)
    rw [hf]
    by_cases ha : 0 ≤ a ∧ a < (p.funcs.length : Int)
    · have hlt : a.toNat < p.funcs.length := by omega
      obtain ⟨z, t, o, hq, _⟩ := FPs_nth hp.fs hlt
      have hz : zf = 4 ∨ lf = [] := hp.zf.imp id fun h => by rw [h] at hf; exact List.length_eq_zero_iff.1 hf
      rw [decide_eq_true ha.1, decide_eq_true ha.2]
      (conv => whnf); repeat ((first | (refine And.intro ?_ ?_; focus exact Cl4) | refine Both.T (by exact rfl) ?_ | refine Both.F (by exact rfl) ?_ | refine Both.GT (by exact rfl) (by exact rfl) ?_ | refine Both.GF (by exact rfl) ?_ | refine Both.GN (by exact rfl) ?_); conv => whnf)
      rw [hq]
      (conv => whnf); repeat ((first | (refine And.intro ?_ ?_; focus exact Cl4) | refine Both.T (by exact rfl) ?_ | refine Both.F (by exact rfl) ?_ | refine Both.GT (by exact rfl) (by exact rfl) ?_ | refine Both.GF (by exact rfl) ?_ | refine Both.GN (by exact rfl) ?_); conv => whnf)
      refine key _ _ ?_
      unfold movesM
      simp [ha.1, List.getElem?_eq_getElem hlt]
    · have : (bif decide (0 ≤ a) then decide (a < (p.funcs.length : Int)) else false) = false := by
        by_cases h0 : 0 ≤ a
        · rw [decide_eq_true h0, decide_eq_false (fun h => ha ⟨h0, h⟩)]; rfl
        · rw [decide_eq_false h0]; rfl
      refine Both.F this ?_
      (conv => whnf); repeat ((first | (refine And.intro ?_ ?_; focus exact Cl4) | refine Both.T (by exact rfl) ?_ | refine Both.F (by exact rfl) ?_ | refine Both.GT (by exact rfl) (by exact rfl) ?_ | refine Both.GF (by exact rfl) ?_ | refine Both.GN (by exact rfl) ?_); conv => whnf)
      refine key _ _ ?_
      unfold movesM
      by_cases h0 : 0 ≤ a
      · have : p.funcs.length ≤ a.toNat := by omega
        simp [h0, List.getElem?_eq_none this]
      · simp [h0]
  have e21 : (op == 21) = false := by simpa using h21
  have e29 : (op == 29) = false := by simpa using h29
  (conv => whnf); repeat' (first | ((first | (refine And.intro ?_ ?_; focus exact Cl4) | refine Both.T (by exact rfl) ?_ | refine Both.F (by exact rfl) ?_ | refine Both.GT (by exact rfl) (by exact rfl) ?_ | refine Both.GF (by exact rfl) ?_ | refine Both.GN (by exact rfl) ?_ | refine Both.T (by assumption) ?_ | refine Both.F (by assumption) ?_); conv => whnf) | (refine Both.mk (fun hb => ?_) (fun hb => ?_) <;> conv => whnf))
  all_goals (refine key _ _ ?_; unfold movesM; grind)
end Go.Vc
