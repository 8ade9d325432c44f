/- What is proved here: contracts of functions of the program: of each function what it hands back and what it leaves in memory. Conditions: those that each theorem names. -/
import Derived.Test.YtmbopgmllnijjaaQk
set_option linter.unusedVariables false
set_option linter.unusedSimpArgs false
set_option linter.unusedSectionVars false
namespace Go.Vc
open Go Go.Proofs
set_option maxRecDepth 100000
set_option maxHeartbeats 4000000 in
theorem sameTries_spec (ts us : List (Int × Int)) (z1 z2 : Nat) (t1 t2 : Bool) (h1 : z1 = 2 ∨ ts = []) (h2 : z2 = 2 ∨ us = []) (hl : ts.length ≤ 1000000) (Post : PV → List (Nat × Blk) → Prop) (h : Post (.bool (decide (ts = us))) []) :
    Spec K 22 [.sl z1 (tps ts) t1 true, .sl z2 (tps us) t2 true] [] Post := by
  refine is22.specW K_ok K_mix false (by simp) (by simp [keys]) ?_
  have g1 : z1 = 2 ∨ tps ts = [] := h1.imp id fun h => by rw [h]; rfl
  have g2 : z2 = 2 ∨ tps us = [] := h2.imp id fun h => by rw [h]; rfl
  have m1 : (tps ts).length = ts.length := List.length_map _
  have m2 : (tps us).length = us.length := List.length_map _
  (conv => whnf); repeat ((first | (refine And.intro ?_ ?_; focus exact Cl4) | refine Both.T (by exact rfl) ?_ | refine Both.F (by exact rfl) ?_ | refine Both.GT (by exact rfl) (by exact rfl) ?_ | refine Both.GF (by exact rfl) ?_ | refine Both.GN (by exact rfl) ?_); conv => whnf)
  rw [m1, m2]
  by_cases hlen : ts.length = us.length
  · rw [show ((ts.length : Int) != (us.length : Int)) = false by simp [hlen]]
    (conv => whnf); repeat ((first | (refine And.intro ?_ ?_; focus exact Cl4) | refine Both.T (by exact rfl) ?_ | refine Both.F (by exact rfl) ?_ | refine Both.GT (by exact rfl) (by exact rfl) ?_ | refine Both.GF (by exact rfl) ?_ | refine Both.GN (by exact rfl) ?_); conv => whnf)
    refine ⟨Nat, fun i => ⟨26, [(5, .int .i64 i), (1, .sl z2 (tps us) t2 true), (0, .sl z1 (tps ts) t1 true)], [], []⟩, fun i => i ≤ ts.length ∧ ts.take i = us.take i, fun i => ts.length - i, ⟨[], 0, ⟨Nat.zero_le _, rfl⟩, ?_⟩, fun i hI => ?_⟩
    · simp [meets, ghosts, St.le, St.get, look, keys, PV.labs, labsL, lookB, Blk.labs]
    · obtain ⟨hi, hin⟩ := hI
      conv => (arg 5; dsimp only)
      (conv => whnf); repeat ((first | (refine And.intro ?_ ?_; focus exact Cl4) | refine Both.T (by exact rfl) ?_ | refine Both.F (by exact rfl) ?_ | refine Both.GT (by exact rfl) (by exact rfl) ?_ | refine Both.GF (by exact rfl) ?_ | refine Both.GN (by exact rfl) ?_); conv => whnf)
      rw [m1]
      by_cases hix : i < ts.length
      · have hiu : i < us.length := by omega
        rw [decide_eq_true (show (i : Int) < (ts.length : Int) by omega)]
        have q1 := tps_nth hix
        have q2 := tps_nth hiu
        (conv => whnf); repeat ((first | (refine And.intro ?_ ?_; focus exact Cl4) | refine Both.T (by exact rfl) ?_ | refine Both.F (by exact rfl) ?_ | refine Both.GT (by exact rfl) (by exact rfl) ?_ | refine Both.GF (by exact rfl) ?_ | refine Both.GN (by exact rfl) ?_); conv => whnf)
        by_cases he : ts[i] = us[i]
        · (conv => whnf); repeat' (first | ((first | (refine And.intro ?_ ?_; focus exact Cl4) | refine Both.T (by exact rfl) ?_ | refine Both.F (by exact rfl) ?_ | refine Both.GT (by exact rfl) (by exact rfl) ?_ | refine Both.GF (by exact rfl) ?_ | refine Both.GN (by exact rfl) ?_); conv => whnf) | (rw [Int.toNat_natCast, q1]; conv => whnf) | (rw [q1]; conv => whnf) | (rw [Int.toNat_natCast, q2]; conv => whnf) | (rw [q2]; conv => whnf) | ((refine Both.mk ?_ ?_ <;> fail_if_success (intro _)) <;> conv => whnf))
          all_goals (
            have e0 : (!((ts[i].1 == us[i].1) && ((ts[i].2 == us[i].2) && true))) = false := by rw [eqT]; simp [he]
            refine Both.F e0 ?_
            (conv => whnf); repeat ((first | (refine And.intro ?_ ?_; focus exact Cl4) | refine Both.T (by exact rfl) ?_ | refine Both.F (by exact rfl) ?_ | refine Both.GT (by exact rfl) (by exact rfl) ?_ | refine Both.GF (by exact rfl) ?_ | refine Both.GN (by exact rfl) ?_); conv => whnf)
            rw [wrap64 (n := (i : Int) + 1) (by omega) (by omega)]
            refine ⟨[], i + 1, ⟨hix, by rw [List.take_succ_eq_append_getElem hix, List.take_succ_eq_append_getElem hiu, hin, he]⟩, by show ts.length - (i + 1) < ts.length - i; omega, ?_⟩
            simp [meets, ghosts, St.le, St.get, look, keys, PV.labs, labsL, lookB, Blk.labs])
        · have hne : decide (ts = us) = false := decide_eq_false (fun hc => he (by subst hc; rfl))
          rw [hne] at h
          (conv => whnf); repeat' (first | ((first | (refine And.intro ?_ ?_; focus exact Cl4) | refine Both.T (by exact rfl) ?_ | refine Both.F (by exact rfl) ?_ | refine Both.GT (by exact rfl) (by exact rfl) ?_ | refine Both.GF (by exact rfl) ?_ | refine Both.GN (by exact rfl) ?_); conv => whnf) | (rw [Int.toNat_natCast, q1]; conv => whnf) | (rw [q1]; conv => whnf) | (rw [Int.toNat_natCast, q2]; conv => whnf) | (rw [q2]; conv => whnf) | ((refine Both.mk ?_ ?_ <;> fail_if_success (intro _)) <;> conv => whnf))
          all_goals (
            have e0 : (!((ts[i].1 == us[i].1) && ((ts[i].2 == us[i].2) && true))) = true := by
              rw [eqT]
              simp only [Bool.not_eq_true', decide_eq_false_iff_not]
              exact he
            refine Both.T e0 ?_
            (conv => whnf); repeat ((first | (refine And.intro ?_ ?_; focus exact Cl4) | refine Both.T (by exact rfl) ?_ | refine Both.F (by exact rfl) ?_ | refine Both.GT (by exact rfl) (by exact rfl) ?_ | refine Both.GF (by exact rfl) ?_ | refine Both.GN (by exact rfl) ?_); conv => whnf)
            exact h)
      · obtain rfl : i = ts.length := by omega
        rw [decide_eq_false (show ¬ (ts.length : Int) < (ts.length : Int) by omega)]
        (conv => whnf); repeat ((first | (refine And.intro ?_ ?_; focus exact Cl4) | refine Both.T (by exact rfl) ?_ | refine Both.F (by exact rfl) ?_ | refine Both.GT (by exact rfl) (by exact rfl) ?_ | refine Both.GF (by exact rfl) ?_ | refine Both.GN (by exact rfl) ?_); conv => whnf)
        have : ts = us := by rw [List.take_length, hlen, List.take_length] at hin; exact hin
        rw [decide_eq_true this] at h
        exact h
  · have hne : decide (ts = us) = false := decide_eq_false (fun hc => hlen (by rw [hc]))
    rw [hne] at h
    rw [show ((ts.length : Int) != (us.length : Int)) = true by simp; omega]
    (conv => whnf); repeat ((first | (refine And.intro ?_ ?_; focus exact Cl4) | refine Both.T (by exact rfl) ?_ | refine Both.F (by exact rfl) ?_ | refine Both.GT (by exact rfl) (by exact rfl) ?_ | refine Both.GF (by exact rfl) ?_ | refine Both.GN (by exact rfl) ?_); conv => whnf)
    exact h
/-- Is that what is known at a place? -/
def leadsM (pl : PL) (at_ h : Int) (ts : List (Int × Int)) : Bool := decide (0 ≤ at_) && decide (at_ < pl.length) && decide (PL.at pl at_.toNat = some ⟨h, ts⟩)
set_option maxHeartbeats 8000000 in
theorem leads_spec (pl : PL) (L : List PV) (zl : Nat) (tl : Bool) (a h : Int) (ts : List (Int × Int)) (z : Nat) (t : Bool) (hW : PWs pl L) (hzl : zl = 3 ∨ L = []) (hz : z = 2 ∨ ts = []) (hb : ∀ i s, PL.at pl i = some s → s.ts.length ≤ 1000000) (h0 : 0 ≤ a ∧ a < (pl.length : Int)) (Post : PV → List (Nat × Blk) → Prop)
    (hP : Post (.bool (leadsM pl a h ts)) []) : Spec K 17 [.sl zl L tl true, .int .i64 a, .int .i64 h, .sl z (tps ts) t true] [] Post := by
  refine is17.specW K_ok K_mix false (by simp) (by simp [keys]) ?_
  have hl := hW.len
  have key : ∀ b : Bool, b = leadsM pl a h ts → Post (.bool b) [] := fun b e => by rw [e]; exact hP
  clear hP
  unfold leadsM at key
  (conv => whnf); repeat ((first | (refine And.intro ?_ ?_; focus exact Cl4) | refine Both.T (by exact rfl) ?_ | refine Both.F (by exact rfl) ?_ | refine Both.GT (by exact rfl) (by exact rfl) ?_ | refine Both.GF (by exact rfl) ?_ | refine Both.GN (by exact rfl) ?_); conv => whnf)
  rw [hl]
  · have hlt : a.toNat < pl.length := by omega
    have hr := hW.at_ a.toNat hlt
    rw [decide_eq_true h0.1, decide_eq_true h0.2]
    rw [decide_eq_true h0.1, decide_eq_true h0.2] at key
    cases hat : PL.at pl a.toNat with
    | none =>
      rw [hat] at hr key
      obtain ⟨y, u, o, hq⟩ := hr
      (conv => whnf); repeat ((first | (refine And.intro ?_ ?_; focus exact Cl4) | refine Both.T (by exact rfl) ?_ | refine Both.F (by exact rfl) ?_ | refine Both.GT (by exact rfl) (by exact rfl) ?_ | refine Both.GF (by exact rfl) ?_ | refine Both.GN (by exact rfl) ?_); conv => whnf)
      rw [hq]
      (conv => whnf); repeat ((first | (refine And.intro ?_ ?_; focus exact Cl4) | refine Both.T (by exact rfl) ?_ | refine Both.F (by exact rfl) ?_ | refine Both.GT (by exact rfl) (by exact rfl) ?_ | refine Both.GF (by exact rfl) ?_ | refine Both.GN (by exact rfl) ?_); conv => whnf)
      rw [hq]
      (conv => whnf); repeat ((first | (refine And.intro ?_ ?_; focus exact Cl4) | refine Both.T (by exact rfl) ?_ | refine Both.F (by exact rfl) ?_ | refine Both.GT (by exact rfl) (by exact rfl) ?_ | refine Both.GF (by exact rfl) ?_ | refine Both.GN (by exact rfl) ?_); conv => whnf)
      rw [hq]
      (conv => whnf); repeat ((first | (refine And.intro ?_ ?_; focus exact Cl4) | refine Both.T (by exact rfl) ?_ | refine Both.F (by exact rfl) ?_ | refine Both.GT (by exact rfl) (by exact rfl) ?_ | refine Both.GF (by exact rfl) ?_ | refine Both.GN (by exact rfl) ?_); conv => whnf)
      refine key _ ?_
      simp
    | some s =>
      rw [hat] at hr key
      have hsl := hb _ _ hat
      obtain ⟨y, u, o, hq, hy⟩ := hr
      obtain ⟨sh, sts⟩ := s
      simp only at hq hy hsl
      (conv => whnf); repeat ((first | (refine And.intro ?_ ?_; focus exact Cl4) | refine Both.T (by exact rfl) ?_ | refine Both.F (by exact rfl) ?_ | refine Both.GT (by exact rfl) (by exact rfl) ?_ | refine Both.GF (by exact rfl) ?_ | refine Both.GN (by exact rfl) ?_); conv => whnf)
      rw [hq]
      (conv => whnf); repeat ((first | (refine And.intro ?_ ?_; focus exact Cl4) | refine Both.T (by exact rfl) ?_ | refine Both.F (by exact rfl) ?_ | refine Both.GT (by exact rfl) (by exact rfl) ?_ | refine Both.GF (by exact rfl) ?_ | refine Both.GN (by exact rfl) ?_); conv => whnf)
      rw [hq]
      (conv => whnf); repeat ((first | (refine And.intro ?_ ?_; focus exact Cl4) | refine Both.T (by exact rfl) ?_ | refine Both.F (by exact rfl) ?_ | refine Both.GT (by exact rfl) (by exact rfl) ?_ | refine Both.GF (by exact rfl) ?_ | refine Both.GN (by exact rfl) ?_); conv => whnf)
      rw [hq]
      (conv => whnf); repeat ((first | (refine And.intro ?_ ?_; focus exact Cl4) | refine Both.T (by exact rfl) ?_ | refine Both.F (by exact rfl) ?_ | refine Both.GT (by exact rfl) (by exact rfl) ?_ | refine Both.GF (by exact rfl) ?_ | refine Both.GN (by exact rfl) ?_); conv => whnf)
      cases hh : (sh == h)
      · have hne : sh ≠ h := by simpa using hh
        refine Both.GF rfl ?_
        (conv => whnf); repeat ((first | (refine And.intro ?_ ?_; focus exact Cl4) | refine Both.T (by exact rfl) ?_ | refine Both.F (by exact rfl) ?_ | refine Both.GT (by exact rfl) (by exact rfl) ?_ | refine Both.GF (by exact rfl) ?_ | refine Both.GN (by exact rfl) ?_); conv => whnf)
        refine key _ ?_
        simp [hne]
      · have heq : sh = h := by simpa using hh
        refine Both.GT rfl rfl ?_
        (conv => whnf); repeat ((first | (refine And.intro ?_ ?_; focus exact Cl4) | refine Both.T (by exact rfl) ?_ | refine Both.F (by exact rfl) ?_ | refine Both.GT (by exact rfl) (by exact rfl) ?_ | refine Both.GF (by exact rfl) ?_ | refine Both.GN (by exact rfl) ?_); conv => whnf)
        refine sameTries_spec sts ts y z _ _ hy hz hsl _ ?_
        (conv => whnf); repeat ((first | (refine And.intro ?_ ?_; focus exact Cl4) | refine Both.T (by exact rfl) ?_ | refine Both.F (by exact rfl) ?_ | refine Both.GT (by exact rfl) (by exact rfl) ?_ | refine Both.GF (by exact rfl) ?_ | refine Both.GN (by exact rfl) ?_); conv => whnf)
        refine key _ ?_
        simp [heq]
end Go.Vc
