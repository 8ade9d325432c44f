/- What is proved here: contracts of functions of the program: of each function what it hands back and what it leaves in memory. Conditions: those that each theorem names. -/
import Derived.Test.YtmbopgmllnijjaaGreatTAo
set_option linter.unusedVariables false
set_option linter.unusedSimpArgs false
set_option linter.unusedSectionVars false
namespace Go.Vc
open Go Go.Proofs
set_option maxRecDepth 100000
set_option maxHeartbeats 16000000 in
theorem moves_spec (p : PG) (x : IN) (zf : Nat) (lf : List PV) (tf : Bool) (zc : Nat) (lc : List PV) (tc : Bool) (hp : PGA p zf lf zc lc) (Post : PV → List (Nat × Blk) → Prop)
    (h : Post (.tup [.int .i64 (movesM p x).1, .int .i64 (movesM p x).2]) []) : Spec K 47 [.agg (pgc zf lf tf zc lc tc), INP x] [] Post := by
  obtain ⟨op, a, b⟩ := x
  show Spec K 47 [.agg (pgc zf lf tf zc lc tc), .agg [.int .i64 op, .int .i64 a, .int .i64 b]] [] Post
  have key : ∀ u v : Int, (u, v) = movesM p ⟨op, a, b⟩ → Post (.tup [.int .i64 u, .int .i64 v]) [] := fun u v e => by rw [← e] at h; exact h
  clear h
  refine is47.specW K_ok K_mix false (by simp) (by simp [keys]) ?_
  have hf := FPs_len hp.fs
  have hc := VPs_len hp.cs
  by_cases h21 : op = 21
  · subst h21
    (conv => whnf); repeat ((first | (apply And.intro; focus exact Cl4) | refine T1 ?_ | refine T2 ?_ | refine T3 ?_ | refine T4 ?_ | refine T6 ?_ | refine T5 ?_); conv => whnf)
    rw [hc]
    by_cases ha : 0 ≤ a ∧ a < (p.consts.length : Int)
    · have hlt : a.toNat < p.consts.length := by omega
      obtain ⟨y1, mp, u1, o1, y2, u2, o2, hq, hv, g1, g2, g3⟩ := (VPs_nth hp.cs hlt).out
      have hz : zc = 5 ∨ lc = [] := hp.zc.imp id fun h => by rw [h] at hc; exact List.length_eq_zero_iff.1 hc
      rw [decide_eq_true ha.1, decide_eq_true ha.2]
      (conv => whnf); repeat ((first | (apply And.intro; focus exact Cl4) | refine T1 ?_ | refine T2 ?_ | refine T3 ?_ | refine T4 ?_ | refine T6 ?_ | refine T5 ?_); conv => whnf)
      rw [hq]
      (conv => whnf); repeat ((first | (apply And.intro; focus exact Cl4) | refine T1 ?_ | refine T2 ?_ | refine T3 ?_ | refine T4 ?_ | refine T6 ?_ | refine T5 ?_); conv => whnf)
      refine key _ _ ?_
      have hm := VPs_len hv
      rw [hm]
      show _ = movesM p ⟨21, a, b⟩
      unfold movesM
      simp [ha.1, List.getElem?_eq_getElem hlt]
    · have : (bif decide (0 ≤ a) then decide (a < (p.consts.length : Int)) else false) = false := by
        by_cases h0 : 0 ≤ a
        · rw [decide_eq_true h0, decide_eq_false (fun h => ha ⟨h0, h⟩)]; rfl
        · rw [decide_eq_false h0]; rfl
      refine Both.F this ?_
      (conv => whnf); repeat ((first | (apply And.intro; focus exact Cl4) | refine T1 ?_ | refine T2 ?_ | refine T3 ?_ | refine T4 ?_ | refine T6 ?_ | refine T5 ?_); conv => whnf)
      refine key _ _ ?_
      unfold movesM
      by_cases h0 : 0 ≤ a
      · have : p.consts.length ≤ a.toNat := by omega
        simp [h0, List.getElem?_eq_none this]
      · simp [h0]
  by_cases h29 : op = 29
  · subst h29
    (conv => whnf); repeat ((first | (apply And.intro; focus exact Cl4) | refine T1 ?_ | refine T2 ?_ | refine T3 ?_ | refine T4 ?_ | refine T6 ?_ | refine T5 ?_); conv => whnf)
    rw [hf]
    by_cases ha : 0 ≤ a ∧ a < (p.funcs.length : Int)
    · have hlt : a.toNat < p.funcs.length := by omega
      obtain ⟨z, t, o, hq, _⟩ := FPs_nth hp.fs hlt
      have hz : zf = 4 ∨ lf = [] := hp.zf.imp id fun h => by rw [h] at hf; exact List.length_eq_zero_iff.1 hf
      rw [decide_eq_true ha.1, decide_eq_true ha.2]
      (conv => whnf); repeat ((first | (apply And.intro; focus exact Cl4) | refine T1 ?_ | refine T2 ?_ | refine T3 ?_ | refine T4 ?_ | refine T6 ?_ | refine T5 ?_); conv => whnf)
      rw [hq]
      (conv => whnf); repeat ((first | (apply And.intro; focus exact Cl4) | refine T1 ?_ | refine T2 ?_ | refine T3 ?_ | refine T4 ?_ | refine T6 ?_ | refine T5 ?_); conv => whnf)
      refine key _ _ ?_
      unfold movesM
      simp [ha.1, List.getElem?_eq_getElem hlt]
    · have : (bif decide (0 ≤ a) then decide (a < (p.funcs.length : Int)) else false) = false := by
        by_cases h0 : 0 ≤ a
        · rw [decide_eq_true h0, decide_eq_false (fun h => ha ⟨h0, h⟩)]; rfl
        · rw [decide_eq_false h0]; rfl
      refine Both.F this ?_
      (conv => whnf); repeat ((first | (apply And.intro; focus exact Cl4) | refine T1 ?_ | refine T2 ?_ | refine T3 ?_ | refine T4 ?_ | refine T6 ?_ | refine T5 ?_); conv => whnf)
      refine key _ _ ?_
      unfold movesM
      by_cases h0 : 0 ≤ a
      · have : p.funcs.length ≤ a.toNat := by omega
        simp [h0, List.getElem?_eq_none this]
      · simp [h0]
  have e21 : (op == 21) = false := by simpa using h21
  have e29 : (op == 29) = false := by simpa using h29
  (conv => whnf); repeat' (first | ((first | (apply And.intro; focus exact Cl4) | refine T1 ?_ | refine T2 ?_ | refine T3 ?_ | refine T4 ?_ | refine T6 ?_ | refine T5 ?_ | refine Both.T (by assumption) ?_ | refine Both.F (by assumption) ?_); conv => whnf) | (refine Both.mk (fun hb => ?_) (fun hb => ?_) <;> conv => whnf))
  all_goals (refine key _ _ ?_; unfold movesM; grind)
end Go.Vc
