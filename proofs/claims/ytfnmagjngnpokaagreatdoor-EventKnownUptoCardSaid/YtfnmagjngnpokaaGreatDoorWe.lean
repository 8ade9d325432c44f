/- What is proved here: contracts of functions of the program: of each function what it hands back and what it leaves in memory. Conditions: those that each theorem names. -/
import Derived.Test.YtfnmagjngnpokaaGreatDoorWc
set_option linter.unusedVariables false
set_option linter.unusedSimpArgs false
set_option linter.unusedSectionVars false
namespace Go.Vc
open Go Go.Proofs
set_option maxRecDepth 100000
def hasI (k : Int) : Int :=
  if k = 1 ∨ k = 11 then 15 else if k = 2 then 13 else if k = 3 ∨ k = 4 ∨ k = 12 ∨ k = 13 then 3 else if k = 5 then 9 else if k = 6 ∨ k = 7 then 11
  else if k = 8 then 1 else if k = 9 then 5 else if k = 10 then 12 else if k = 15 then 10 else 0
def idB (k id n : Int) : Bool := if k = 1 then wi id 0 64 && ((id == 0) == (n == 0)) else if k = 9 ∨ k = 12 ∨ k = 13 then wi id 1 9007199254740991 else wi id 1 64
def nB (k n : Int) (v : V) : Bool :=
  if k = 1 then wi n 0 8 else if k = 11 then wi n 1 8 else if k = 7 ∨ k = 12 ∨ k = 13 then wi n 0 9007199254740991 else if k = 15 then n == 0 || sameV v V0 else wi n 1 9007199254740991
theorem has_spec (k : Int) (hk : wi k 1 15 = true) (Post : PV → List (Nat × Blk) → Prop) (h : Post (.int .i64 (hasI k)) []) : Spec K 39 [.int .i64 k] [] Post := by
  refine is39.specW K_ok K_mix false (by simp) (by simp [keys]) ?_
  rcases kinds hk with rfl | rfl | rfl | rfl | rfl | rfl | rfl | rfl | rfl | rfl | rfl | rfl | rfl | rfl | rfl
  all_goals (
    (conv => whnf); repeat ((first | (refine And.intro ?_ ?_; focus exact Cl3) | refine Both.T (by exact rfl) ?_ | refine Both.F (by exact rfl) ?_ | refine Both.GT (by exact rfl) (by exact rfl) ?_ | refine Both.GF (by exact rfl) ?_ | refine Both.GN (by exact rfl) ?_); conv => whnf)
    exact h)
set_option maxHeartbeats 16000000 in
theorem idMay_spec (e : EV) (z1 z2 : Nat) (lp : List PV) (t1 t2 : Bool) (Post : PV → List (Nat × Blk) → Prop) (hk : wi e.kind 1 15 = true) (h : Post (.bool (idB e.kind e.id e.n)) []) :
    Spec K 45 [.agg (ec e z1 lp t1 z2 t2)] [] Post := by
  obtain ⟨k, flow, id, n, s, v⟩ := e
  simp only [ec] at *
  refine is45.specW K_ok K_mix false (by simp) (by simp [keys]) ?_
  rcases kinds hk with rfl | rfl | rfl | rfl | rfl | rfl | rfl | rfl | rfl | rfl | rfl | rfl | rfl | rfl | rfl
  all_goals clear hk
  all_goals ((conv => whnf); repeat ((first | (refine And.intro ?_ ?_; focus exact Cl3) | refine Both.T (by exact rfl) ?_ | refine Both.F (by exact rfl) ?_ | refine Both.GT (by exact rfl) (by exact rfl) ?_ | refine Both.GF (by exact rfl) ?_ | refine Both.GN (by exact rfl) ?_); conv => whnf))
  all_goals refine withinR_spec _ _ _ _ ?_
  all_goals ((conv => whnf); repeat ((first | (refine And.intro ?_ ?_; focus exact Cl3) | refine Both.T (by exact rfl) ?_ | refine Both.F (by exact rfl) ?_ | refine Both.GT (by exact rfl) (by exact rfl) ?_ | refine Both.GF (by exact rfl) ?_ | refine Both.GN (by exact rfl) ?_); conv => whnf))
  case' inl => (refine (congrArg (fun r => Post (.bool r) []) ?_).mpr h; simp only [idB, if_true]; show _ = (wi id 0 64 && _); unfold wi; cases (decide (0 ≤ id) && decide (id ≤ 64)) <;> rfl)
  all_goals exact h
set_option maxHeartbeats 16000000 in
theorem nMay_spec (e : EV) (z1 z2 : Nat) (lp : List PV) (t1 t2 : Bool) (Post : PV → List (Nat × Blk) → Prop) (a : EA e z1 lp z2) (hk : wi e.kind 1 15 = true) (h : Post (.bool (nB e.kind e.n e.v)) []) :
    Spec K 46 [.agg (ec e z1 lp t1 z2 t2)] [] Post := by
  obtain ⟨k, flow, id, n, s, v⟩ := e
  have av := a.v
  simp only [ec] at *
  refine is46.specW K_ok K_mix false (by simp) (by simp [keys]) ?_
  rcases kinds hk with rfl | rfl | rfl | rfl | rfl | rfl | rfl | rfl | rfl | rfl | rfl | rfl | rfl | rfl | rfl
  all_goals clear hk
  all_goals ((conv => whnf); repeat ((first | (refine And.intro ?_ ?_; focus exact Cl3) | refine Both.T (by exact rfl) ?_ | refine Both.F (by exact rfl) ?_ | refine Both.GT (by exact rfl) (by exact rfl) ?_ | refine Both.GF (by exact rfl) ?_ | refine Both.GN (by exact rfl) ?_); conv => whnf))
  case' inr.inr.inr.inr.inr.inr.inr.inr.inr.inr.inr.inr.inr.inr =>
    (have : (n == 0) = true ∨ (n == 0) = false := by cases (n == 0) <;> simp
     rcases this with h0 | h0 <;> rw [h0])
  all_goals try (
    refine withinR_spec _ _ _ _ ?_
    (conv => whnf); repeat ((first | (refine And.intro ?_ ?_; focus exact Cl3) | refine Both.T (by exact rfl) ?_ | refine Both.F (by exact rfl) ?_ | refine Both.GT (by exact rfl) (by exact rfl) ?_ | refine Both.GF (by exact rfl) ?_ | refine Both.GN (by exact rfl) ?_); conv => whnf)
    exact h)
  case inl =>
    (conv => whnf); repeat ((first | (refine And.intro ?_ ?_; focus exact Cl3) | refine Both.T (by exact rfl) ?_ | refine Both.F (by exact rfl) ?_ | refine Both.GT (by exact rfl) (by exact rfl) ?_ | refine Both.GF (by exact rfl) ?_ | refine Both.GN (by exact rfl) ?_); conv => whnf)
    have e : nB 15 n v = true := by show (n == 0 || sameV v V0) = true; rw [h0]; rfl
    rw [e] at h
    exact h
  case inr =>
    (conv => whnf); repeat ((first | (refine And.intro ?_ ?_; focus exact Cl3) | refine Both.T (by exact rfl) ?_ | refine Both.F (by exact rfl) ?_ | refine Both.GT (by exact rfl) (by exact rfl) ?_ | refine Both.GF (by exact rfl) ?_ | refine Both.GN (by exact rfl) ?_); conv => whnf)
    refine noneR_spec v z1 z2 lp t1 t2 _ av ?_
    (conv => whnf); repeat ((first | (refine And.intro ?_ ?_; focus exact Cl3) | refine Both.T (by exact rfl) ?_ | refine Both.F (by exact rfl) ?_ | refine Both.GT (by exact rfl) (by exact rfl) ?_ | refine Both.GF (by exact rfl) ?_ | refine Both.GN (by exact rfl) ?_); conv => whnf)
    have e : nB 15 n v = sameV v V0 := by show (n == 0 || sameV v V0) = _; rw [h0]; rfl
    rw [e] at h
    exact h
def evR (k id n : Int) (s : List UInt8) (v : V) : Bool :=
  (bif bitsI .and .i64 (hasI k) 1 != 0 then idB k id n else id == 0) && (bif bitsI .and .i64 (hasI k) 2 != 0 then nB k n v else n == 0) && (bif bitsI .and .i64 (hasI k) 4 != 0 then isName s else s.isEmpty) &&
  (bif bitsI .and .i64 (hasI k) 8 != 0 then true else sameV v V0) && (bif k == 6 then v.k == 1 && v.n != 0 else true) && (bif k == 7 then v.k == 1 else true)
set_option maxHeartbeats 64000000 in
theorem evCheckR_spec (e : EV) (z1 z2 : Nat) (lp : List PV) (t1 t2 : Bool) (Post : PV → List (Nat × Blk) → Prop) (a : EA e z1 lp z2)
    (h : Post (.int .i64 (bif wi e.kind 1 15 && wi e.flow 1 8 && mayV e.v && evR e.kind e.id e.n e.s e.v then 0 else 2)) []) :
    Spec K 25 [.agg (ec e z1 lp t1 z2 t2)] [] Post := by
  obtain ⟨k, flow, id, n, s, v⟩ := e
  have av := a.v
  simp only [ec] at *
  refine is25.specW K_ok K_mix false (by simp) (by simp [keys]) ?_
  (conv => whnf); repeat ((first | (refine And.intro ?_ ?_; focus exact Cl3) | refine Both.T (by exact rfl) ?_ | refine Both.F (by exact rfl) ?_ | refine Both.GT (by exact rfl) (by exact rfl) ?_ | refine Both.GF (by exact rfl) ?_ | refine Both.GN (by exact rfl) ?_); conv => whnf)
  refine withinR_c _ _ _ _ (fun hk => ?_) (fun hk => ?_)
  case refine_2 =>
    (conv => whnf); repeat ((first | (refine And.intro ?_ ?_; focus exact Cl3) | refine Both.T (by exact rfl) ?_ | refine Both.F (by exact rfl) ?_ | refine Both.GT (by exact rfl) (by exact rfl) ?_ | refine Both.GF (by exact rfl) ?_ | refine Both.GN (by exact rfl) ?_); conv => whnf)
    simpa [hk] using h
  (conv => whnf); repeat ((first | (refine And.intro ?_ ?_; focus exact Cl3) | refine Both.T (by exact rfl) ?_ | refine Both.F (by exact rfl) ?_ | refine Both.GT (by exact rfl) (by exact rfl) ?_ | refine Both.GF (by exact rfl) ?_ | refine Both.GN (by exact rfl) ?_); conv => whnf)
  refine withinR_c _ _ _ _ (fun hf => ?_) (fun hf => ?_)
  case refine_2 =>
    (conv => whnf); repeat ((first | (refine And.intro ?_ ?_; focus exact Cl3) | refine Both.T (by exact rfl) ?_ | refine Both.F (by exact rfl) ?_ | refine Both.GT (by exact rfl) (by exact rfl) ?_ | refine Both.GF (by exact rfl) ?_ | refine Both.GN (by exact rfl) ?_); conv => whnf)
    simpa [hf] using h
  (conv => whnf); repeat ((first | (refine And.intro ?_ ?_; focus exact Cl3) | refine Both.T (by exact rfl) ?_ | refine Both.F (by exact rfl) ?_ | refine Both.GT (by exact rfl) (by exact rfl) ?_ | refine Both.GF (by exact rfl) ?_ | refine Both.GN (by exact rfl) ?_); conv => whnf)
  refine checkR_spec v z1 z2 lp t1 t2 _ av ?_
  cases hm : mayV v
  case false =>
    (conv => whnf); repeat ((first | (refine And.intro ?_ ?_; focus exact Cl3) | refine Both.T (by exact rfl) ?_ | refine Both.F (by exact rfl) ?_ | refine Both.GT (by exact rfl) (by exact rfl) ?_ | refine Both.GF (by exact rfl) ?_ | refine Both.GN (by exact rfl) ?_); conv => whnf)
    simpa [hm] using h
  simp only [hk, hf, hm, Bool.true_and] at h
  (conv => whnf); repeat ((first | (refine And.intro ?_ ?_; focus exact Cl3) | refine Both.T (by exact rfl) ?_ | refine Both.F (by exact rfl) ?_ | refine Both.GT (by exact rfl) (by exact rfl) ?_ | refine Both.GF (by exact rfl) ?_ | refine Both.GN (by exact rfl) ?_); conv => whnf)
  refine has_spec k hk _ ?_
  (conv => whnf); repeat ((first | (refine And.intro ?_ ?_; focus exact Cl3) | refine Both.T (by exact rfl) ?_ | refine Both.F (by exact rfl) ?_ | refine Both.GT (by exact rfl) (by exact rfl) ?_ | refine Both.GF (by exact rfl) ?_ | refine Both.GN (by exact rfl) ?_); conv => whnf)
  rcases kinds hk with rfl | rfl | rfl | rfl | rfl | rfl | rfl | rfl | rfl | rfl | rfl | rfl | rfl | rfl | rfl
  all_goals ((conv => whnf); repeat ((first | (refine And.intro ?_ ?_; focus exact Cl3) | refine Both.T (by exact rfl) ?_ | refine Both.F (by exact rfl) ?_ | refine Both.GT (by exact rfl) (by exact rfl) ?_ | refine Both.GF (by exact rfl) ?_ | refine Both.GN (by exact rfl) ?_); conv => whnf))
  all_goals try (
    refine idMay_spec ⟨_, flow, id, n, s, v⟩ z1 z2 lp t1 t2 _ rfl ?_
    (conv => whnf); repeat ((first | (refine And.intro ?_ ?_; focus exact Cl3) | refine Both.T (by exact rfl) ?_ | refine Both.F (by exact rfl) ?_ | refine Both.GT (by exact rfl) (by exact rfl) ?_ | refine Both.GF (by exact rfl) ?_ | refine Both.GN (by exact rfl) ?_); conv => whnf))
  all_goals try (
    refine nMay_spec ⟨_, flow, id, n, s, v⟩ z1 z2 lp t1 t2 _ a rfl ?_
    (conv => whnf); repeat ((first | (refine And.intro ?_ ?_; focus exact Cl3) | refine Both.T (by exact rfl) ?_ | refine Both.F (by exact rfl) ?_ | refine Both.GT (by exact rfl) (by exact rfl) ?_ | refine Both.GF (by exact rfl) ?_ | refine Both.GN (by exact rfl) ?_); conv => whnf))
  all_goals try (
    refine nameR_spec s _ ?_
    (conv => whnf); repeat ((first | (refine And.intro ?_ ?_; focus exact Cl3) | refine Both.T (by exact rfl) ?_ | refine Both.F (by exact rfl) ?_ | refine Both.GT (by exact rfl) (by exact rfl) ?_ | refine Both.GF (by exact rfl) ?_ | refine Both.GN (by exact rfl) ?_); conv => whnf))
  all_goals try (
    refine noneR_spec v z1 z2 lp t1 t2 _ av ?_
    (conv => whnf); repeat ((first | (refine And.intro ?_ ?_; focus exact Cl3) | refine Both.T (by exact rfl) ?_ | refine Both.F (by exact rfl) ?_ | refine Both.GT (by exact rfl) (by exact rfl) ?_ | refine Both.GF (by exact rfl) ?_ | refine Both.GN (by exact rfl) ?_); conv => whnf))
  all_goals (
    refine ⟨fun h9 => ?_, fun h9 => ?_⟩
    all_goals (
      (conv => whnf); repeat ((first | (refine And.intro ?_ ?_; focus exact Cl3) | refine Both.T (by exact rfl) ?_ | refine Both.F (by exact rfl) ?_ | refine Both.GT (by exact rfl) (by exact rfl) ?_ | refine Both.GF (by exact rfl) ?_ | refine Both.GN (by exact rfl) ?_); conv => whnf)
      refine (congrArg (fun r => Post (.int .i64 r) []) ?_).mpr h
      clear h a av hf hm hk
      simp only [es_nil, es_nil'] at h9
      simp only [evR]
      revert h9
      generalize idB _ id n = c1
      generalize nB _ n v = c2
      generalize isName s = c3
      generalize sameV v V0 = c4
      generalize (id == 0) = c5
      generalize (n == 0) = c6
      generalize s.isEmpty = c7
      generalize (v.k == 1) = c8
      generalize (v.n != 0) = c9
      revert c1 c2 c3 c4 c5 c6 c7 c8 c9
      decide +kernel))
end Go.Vc
namespace Go.Vc
open Go Go.Proofs
set_option maxRecDepth 100000
theorem ownB0 {k n : Int} {s : List UInt8} {m : Nat} {ns : List (List UInt8)} (hk : k = 0) (h : ownB k n s m ns = true) : n = 0 ∧ s = [] ∧ m = 0 ∧ ns = [] := by
  subst hk
  simp [ownB] at h
  exact ⟨h.1, h.2.1.1, h.2.1.2, h.2.2⟩
theorem same_none {v : V} (h : allV v = true) : sameV v V0 = (v.k == 0) := by
  obtain ⟨k, n, s, l, ns⟩ := v
  simp only [allV, Bool.and_eq_true] at h
  unfold sameV V0
  rw [cmpV_mk]
  show _ = (k == 0)
  by_cases hk : k = 0
  · obtain ⟨rfl, rfl, h3, rfl⟩ := ownB0 hk h.1
    have : l = [] := List.length_eq_zero_iff.1 h3
    subst this hk
    rfl
  · rw [if_pos hk]
    have h1 := cmpI_ne hk
    have h2 : (k == 0) = false := by simpa using hk
    rw [h2]
    simpa using h1
theorem evR_evB {k id n : Int} {s : List UInt8} {v : V} (hk : wi k 1 15 = true) (hv : allV v = true) : evR k id n s v = evB k id n s v := by
  have hs := same_none hv
  rcases kinds hk with rfl | rfl | rfl | rfl | rfl | rfl | rfl | rfl | rfl | rfl | rfl | rfl | rfl | rfl | rfl
  all_goals (
    simp only [evR, evB, numB, idB, nB, hs, Int.reduceEq, reduceIte, or_self, or_false, false_or, true_or, or_true]
    generalize wi id 0 64 = d1
    generalize wi id 1 64 = d2
    generalize wi id 1 9007199254740991 = d3
    generalize wi n 0 8 = d4
    generalize wi n 1 8 = d5
    generalize wi n 0 9007199254740991 = d6
    generalize wi n 1 9007199254740991 = d7
    generalize isName s = c3
    generalize (id == 0) = c5
    generalize (n == 0) = c6
    generalize s.isEmpty = c7
    generalize (v.k == 1) = c8
    generalize (v.n != 0) = c9
    generalize (v.k == 0) = c4
    (first | clear d1 | revert d1); (first | clear d2 | revert d2); (first | clear d3 | revert d3); (first | clear d4 | revert d4); (first | clear d5 | revert d5); (first | clear d6 | revert d6); (first | clear d7 | revert d7); (first | clear c3 | revert c3); (first | clear c4 | revert c4); (first | clear c5 | revert c5); (first | clear c6 | revert c6); (first | clear c7 | revert c7); (first | clear c8 | revert c8); (first | clear c9 | revert c9)
    decide +kernel)
theorem evCheckR_spec' (e : EV) (z1 z2 : Nat) (lp : List PV) (t1 t2 : Bool) (Post : PV → List (Nat × Blk) → Prop) (a : EA e z1 lp z2) (h : Post (.int .i64 (bif evOk e then 0 else 2)) []) :
    Spec K 25 [.agg (ec e z1 lp t1 z2 t2)] [] Post := by
  refine evCheckR_spec e z1 z2 lp t1 t2 Post a ?_
  refine (congrArg (fun r => Post (.int .i64 r) []) ?_).mpr h
  unfold evOk
  cases hk : wi e.kind 1 15 with
  | false => rfl
  | true =>
    cases hm : mayV e.v with
    | false => rw [Bool.and_false]; rfl
    | true => rw [evR_evB hk (allV_of hm)]
end Go.Vc
