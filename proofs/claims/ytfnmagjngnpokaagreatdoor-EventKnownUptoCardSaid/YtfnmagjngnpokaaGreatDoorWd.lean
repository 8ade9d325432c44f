/- What is proved here: contracts of functions of the program: of each function what it hands back and what it leaves in memory. Conditions: those that each theorem names. -/
import Derived.Test.YtfnmagjngnpokaaGreatDoorWc
set_option linter.unusedVariables false
set_option linter.unusedSimpArgs false
set_option linter.unusedSectionVars false
namespace Go.Vc
open Go Go.Proofs
set_option maxRecDepth 100000
set_option maxHeartbeats 64000000 in
theorem evCheck_spec (e : EV) (z1 z2 : Nat) (lp : List PV) (t1 t2 : Bool) (Post : PV → List (Nat × Blk) → Prop) (a : EA e z1 lp z2) (h : Post (.int .i64 (bif evOk e then 0 else 2)) []) :
    Spec K 13 [.agg (ec e z1 lp t1 z2 t2)] [] Post := by
  obtain ⟨k, flow, id, n, s, v⟩ := e
  have av := a.v
  have as1 := a.s
  simp only [ec] at *
  refine is13.specW K_ok K_mix false (by simp) (by simp [keys]) ?_
  (conv => whnf); repeat ((first | (refine And.intro ?_ ?_; focus exact Cl3) | refine Both.T (by exact rfl) ?_ | refine Both.F (by exact rfl) ?_ | refine Both.GT (by exact rfl) (by exact rfl) ?_ | refine Both.GF (by exact rfl) ?_ | refine Both.GN (by exact rfl) ?_); conv => whnf)
  refine within_c _ _ _ _ (fun hk => ?_) (fun hk => ?_)
  case refine_2 =>
    (conv => whnf); repeat ((first | (refine And.intro ?_ ?_; focus exact Cl3) | refine Both.T (by exact rfl) ?_ | refine Both.F (by exact rfl) ?_ | refine Both.GT (by exact rfl) (by exact rfl) ?_ | refine Both.GF (by exact rfl) ?_ | refine Both.GN (by exact rfl) ?_); conv => whnf)
    simpa [evOk, hk] using h
  (conv => whnf); repeat ((first | (refine And.intro ?_ ?_; focus exact Cl3) | refine Both.T (by exact rfl) ?_ | refine Both.F (by exact rfl) ?_ | refine Both.GT (by exact rfl) (by exact rfl) ?_ | refine Both.GF (by exact rfl) ?_ | refine Both.GN (by exact rfl) ?_); conv => whnf)
  refine within_c _ _ _ _ (fun hf => ?_) (fun hf => ?_)
  case refine_2 =>
    (conv => whnf); repeat ((first | (refine And.intro ?_ ?_; focus exact Cl3) | refine Both.T (by exact rfl) ?_ | refine Both.F (by exact rfl) ?_ | refine Both.GT (by exact rfl) (by exact rfl) ?_ | refine Both.GF (by exact rfl) ?_ | refine Both.GN (by exact rfl) ?_); conv => whnf)
    simpa [evOk, hf] using h
  (conv => whnf); repeat ((first | (refine And.intro ?_ ?_; focus exact Cl3) | refine Both.T (by exact rfl) ?_ | refine Both.F (by exact rfl) ?_ | refine Both.GT (by exact rfl) (by exact rfl) ?_ | refine Both.GF (by exact rfl) ?_ | refine Both.GN (by exact rfl) ?_); conv => whnf)
  refine check_c v z1 z2 lp t1 t2 _ av (fun hm => ?_) (fun hm => ?_)
  case refine_2 =>
    (conv => whnf); repeat ((first | (refine And.intro ?_ ?_; focus exact Cl3) | refine Both.T (by exact rfl) ?_ | refine Both.F (by exact rfl) ?_ | refine Both.GT (by exact rfl) (by exact rfl) ?_ | refine Both.GF (by exact rfl) ?_ | refine Both.GN (by exact rfl) ?_); conv => whnf)
    simpa [evOk, hm] using h
  have ho : evOk { kind := k, flow := flow, id := id, n := n, s := s, v := v } = evB k id n s v := by simp [evOk, hk, hf, hm]
  rw [ho] at h
  (conv => whnf); repeat ((first | (refine And.intro ?_ ?_; focus exact Cl3) | refine Both.T (by exact rfl) ?_ | refine Both.F (by exact rfl) ?_ | refine Both.GT (by exact rfl) (by exact rfl) ?_ | refine Both.GF (by exact rfl) ?_ | refine Both.GN (by exact rfl) ?_); conv => whnf)
  rcases kinds hk with rfl | rfl | rfl | rfl | rfl | rfl | rfl | rfl | rfl | rfl | rfl | rfl | rfl | rfl | rfl
  all_goals ((conv => whnf); repeat ((first | (refine And.intro ?_ ?_; focus exact Cl3) | refine Both.T (by exact rfl) ?_ | refine Both.F (by exact rfl) ?_ | refine Both.GT (by exact rfl) (by exact rfl) ?_ | refine Both.GF (by exact rfl) ?_ | refine Both.GN (by exact rfl) ?_); conv => whnf))
  all_goals first
  | (
    refine ⟨fun _ h1 => ?_, fun h1 => ?_⟩
    · rw [h1]
      (conv => whnf); repeat ((first | (refine And.intro ?_ ?_; focus exact Cl3) | refine Both.T (by exact rfl) ?_ | refine Both.F (by exact rfl) ?_ | refine Both.GT (by exact rfl) (by exact rfl) ?_ | refine Both.GF (by exact rfl) ?_ | refine Both.GN (by exact rfl) ?_); conv => whnf)
      refine numbers_c ⟨_, flow, id, n, s, v⟩ z1 z2 lp t1 t2 _ a rfl (fun h2 => ?_) (fun h2 => ?_)
      · (conv => whnf); repeat ((first | (refine And.intro ?_ ?_; focus exact Cl3) | refine Both.T (by exact rfl) ?_ | refine Both.F (by exact rfl) ?_ | refine Both.GT (by exact rfl) (by exact rfl) ?_ | refine Both.GF (by exact rfl) ?_ | refine Both.GN (by exact rfl) ?_); conv => whnf)
        first
        | (
          refine nameE_c s as1 _ (fun h3 => ?_) (fun h3 => ?_)
          · (conv => whnf); repeat ((first | (refine And.intro ?_ ?_; focus exact Cl3) | refine Both.T (by exact rfl) ?_ | refine Both.F (by exact rfl) ?_ | refine Both.GT (by exact rfl) (by exact rfl) ?_ | refine Both.GF (by exact rfl) ?_ | refine Both.GN (by exact rfl) ?_); conv => whnf)
            simp only [es_nil, es_nil', b15_1, eb15_1, gb15_1, b15_2, eb15_2, gb15_2, b15_4, eb15_4, gb15_4, b15_8, eb15_8, gb15_8, b13_1, eb13_1, gb13_1, b13_2, eb13_2, gb13_2, b13_4, eb13_4, gb13_4, b13_8, eb13_8, gb13_8, b3_1, eb3_1, gb3_1, b3_2, eb3_2, gb3_2, b3_4, eb3_4, gb3_4, b3_8, eb3_8, gb3_8, b9_1, eb9_1, gb9_1, b9_2, eb9_2, gb9_2, b9_4, eb9_4, gb9_4, b9_8, eb9_8, gb9_8, b11_1, eb11_1, gb11_1, b11_2, eb11_2, gb11_2, b11_4, eb11_4, gb11_4, b11_8, eb11_8, gb11_8, b1_1, eb1_1, gb1_1, b1_2, eb1_2, gb1_2, b1_4, eb1_4, gb1_4, b1_8, eb1_8, gb1_8, b5_1, eb5_1, gb5_1, b5_2, eb5_2, gb5_2, b5_4, eb5_4, gb5_4, b5_8, eb5_8, gb5_8, b12_1, eb12_1, gb12_1, b12_2, eb12_2, gb12_2, b12_4, eb12_4, gb12_4, b12_8, eb12_8, gb12_8, b0_1, eb0_1, gb0_1, b0_2, eb0_2, gb0_2, b0_4, eb0_4, gb0_4, b0_8, eb0_8, gb0_8, b10_1, eb10_1, gb10_1, b10_2, eb10_2, gb10_2, b10_4, eb10_4, gb10_4, b10_8, eb10_8, gb10_8, cond_true, cond_false] at h1
            refine (congrArg (fun r => Post (.int .i64 r) []) ?_).mpr h
            simp only [evB, h2, h3]
            clear a av as1 h ho hm hf hk
            revert h1; generalize isName s = b8
            generalize (id == 0) = b1; generalize (n == 0) = b2; generalize s.isEmpty = b3; generalize (v.k == 0) = b4; generalize (v.k == 1) = b5; generalize (v.n != 0) = b6; revert b1 b2 b3 b4 b5 b6 b8; decide
          · (conv => whnf); repeat ((first | (refine And.intro ?_ ?_; focus exact Cl3) | refine Both.T (by exact rfl) ?_ | refine Both.F (by exact rfl) ?_ | refine Both.GT (by exact rfl) (by exact rfl) ?_ | refine Both.GF (by exact rfl) ?_ | refine Both.GN (by exact rfl) ?_); conv => whnf)
            simp only [es_nil, es_nil', b15_1, eb15_1, gb15_1, b15_2, eb15_2, gb15_2, b15_4, eb15_4, gb15_4, b15_8, eb15_8, gb15_8, b13_1, eb13_1, gb13_1, b13_2, eb13_2, gb13_2, b13_4, eb13_4, gb13_4, b13_8, eb13_8, gb13_8, b3_1, eb3_1, gb3_1, b3_2, eb3_2, gb3_2, b3_4, eb3_4, gb3_4, b3_8, eb3_8, gb3_8, b9_1, eb9_1, gb9_1, b9_2, eb9_2, gb9_2, b9_4, eb9_4, gb9_4, b9_8, eb9_8, gb9_8, b11_1, eb11_1, gb11_1, b11_2, eb11_2, gb11_2, b11_4, eb11_4, gb11_4, b11_8, eb11_8, gb11_8, b1_1, eb1_1, gb1_1, b1_2, eb1_2, gb1_2, b1_4, eb1_4, gb1_4, b1_8, eb1_8, gb1_8, b5_1, eb5_1, gb5_1, b5_2, eb5_2, gb5_2, b5_4, eb5_4, gb5_4, b5_8, eb5_8, gb5_8, b12_1, eb12_1, gb12_1, b12_2, eb12_2, gb12_2, b12_4, eb12_4, gb12_4, b12_8, eb12_8, gb12_8, b0_1, eb0_1, gb0_1, b0_2, eb0_2, gb0_2, b0_4, eb0_4, gb0_4, b0_8, eb0_8, gb0_8, b10_1, eb10_1, gb10_1, b10_2, eb10_2, gb10_2, b10_4, eb10_4, gb10_4, b10_8, eb10_8, gb10_8, cond_true, cond_false] at h1
            refine (congrArg (fun r => Post (.int .i64 r) []) ?_).mpr h
            simp only [evB, h2, h3]
            clear a av as1 h ho hm hf hk
            revert h1; generalize isName s = b8
            generalize (id == 0) = b1; generalize (n == 0) = b2; generalize s.isEmpty = b3; generalize (v.k == 0) = b4; generalize (v.k == 1) = b5; generalize (v.n != 0) = b6; revert b1 b2 b3 b4 b5 b6 b8; decide)
        | (
          simp only [es_nil, es_nil', b15_1, eb15_1, gb15_1, b15_2, eb15_2, gb15_2, b15_4, eb15_4, gb15_4, b15_8, eb15_8, gb15_8, b13_1, eb13_1, gb13_1, b13_2, eb13_2, gb13_2, b13_4, eb13_4, gb13_4, b13_8, eb13_8, gb13_8, b3_1, eb3_1, gb3_1, b3_2, eb3_2, gb3_2, b3_4, eb3_4, gb3_4, b3_8, eb3_8, gb3_8, b9_1, eb9_1, gb9_1, b9_2, eb9_2, gb9_2, b9_4, eb9_4, gb9_4, b9_8, eb9_8, gb9_8, b11_1, eb11_1, gb11_1, b11_2, eb11_2, gb11_2, b11_4, eb11_4, gb11_4, b11_8, eb11_8, gb11_8, b1_1, eb1_1, gb1_1, b1_2, eb1_2, gb1_2, b1_4, eb1_4, gb1_4, b1_8, eb1_8, gb1_8, b5_1, eb5_1, gb5_1, b5_2, eb5_2, gb5_2, b5_4, eb5_4, gb5_4, b5_8, eb5_8, gb5_8, b12_1, eb12_1, gb12_1, b12_2, eb12_2, gb12_2, b12_4, eb12_4, gb12_4, b12_8, eb12_8, gb12_8, b0_1, eb0_1, gb0_1, b0_2, eb0_2, gb0_2, b0_4, eb0_4, gb0_4, b0_8, eb0_8, gb0_8, b10_1, eb10_1, gb10_1, b10_2, eb10_2, gb10_2, b10_4, eb10_4, gb10_4, b10_8, eb10_8, gb10_8, cond_true, cond_false] at h1
          refine (congrArg (fun r => Post (.int .i64 r) []) ?_).mpr h
          simp only [evB, h2]
          clear a av as1 h ho hm hf hk
          revert h1; generalize isName s = b8
          generalize (id == 0) = b1; generalize (n == 0) = b2; generalize s.isEmpty = b3; generalize (v.k == 0) = b4; generalize (v.k == 1) = b5; generalize (v.n != 0) = b6; revert b1 b2 b3 b4 b5 b6 b8; decide)
      · (conv => whnf); repeat ((first | (refine And.intro ?_ ?_; focus exact Cl3) | refine Both.T (by exact rfl) ?_ | refine Both.F (by exact rfl) ?_ | refine Both.GT (by exact rfl) (by exact rfl) ?_ | refine Both.GF (by exact rfl) ?_ | refine Both.GN (by exact rfl) ?_); conv => whnf)
        simp only [es_nil, es_nil', b15_1, eb15_1, gb15_1, b15_2, eb15_2, gb15_2, b15_4, eb15_4, gb15_4, b15_8, eb15_8, gb15_8, b13_1, eb13_1, gb13_1, b13_2, eb13_2, gb13_2, b13_4, eb13_4, gb13_4, b13_8, eb13_8, gb13_8, b3_1, eb3_1, gb3_1, b3_2, eb3_2, gb3_2, b3_4, eb3_4, gb3_4, b3_8, eb3_8, gb3_8, b9_1, eb9_1, gb9_1, b9_2, eb9_2, gb9_2, b9_4, eb9_4, gb9_4, b9_8, eb9_8, gb9_8, b11_1, eb11_1, gb11_1, b11_2, eb11_2, gb11_2, b11_4, eb11_4, gb11_4, b11_8, eb11_8, gb11_8, b1_1, eb1_1, gb1_1, b1_2, eb1_2, gb1_2, b1_4, eb1_4, gb1_4, b1_8, eb1_8, gb1_8, b5_1, eb5_1, gb5_1, b5_2, eb5_2, gb5_2, b5_4, eb5_4, gb5_4, b5_8, eb5_8, gb5_8, b12_1, eb12_1, gb12_1, b12_2, eb12_2, gb12_2, b12_4, eb12_4, gb12_4, b12_8, eb12_8, gb12_8, b0_1, eb0_1, gb0_1, b0_2, eb0_2, gb0_2, b0_4, eb0_4, gb0_4, b0_8, eb0_8, gb0_8, b10_1, eb10_1, gb10_1, b10_2, eb10_2, gb10_2, b10_4, eb10_4, gb10_4, b10_8, eb10_8, gb10_8, cond_true, cond_false] at h1
        refine (congrArg (fun r => Post (.int .i64 r) []) ?_).mpr h
        simp only [evB, h2]
        clear a av as1 h ho hm hf hk
        revert h1; generalize isName s = b8
        generalize (id == 0) = b1; generalize (n == 0) = b2; generalize s.isEmpty = b3; generalize (v.k == 0) = b4; generalize (v.k == 1) = b5; generalize (v.n != 0) = b6; revert b1 b2 b3 b4 b5 b6 b8; decide
    · have h1 := h1 rfl
      rw [h1]
      (conv => whnf); repeat ((first | (refine And.intro ?_ ?_; focus exact Cl3) | refine Both.T (by exact rfl) ?_ | refine Both.F (by exact rfl) ?_ | refine Both.GT (by exact rfl) (by exact rfl) ?_ | refine Both.GF (by exact rfl) ?_ | refine Both.GN (by exact rfl) ?_); conv => whnf)
      simp only [es_nil, es_nil', b15_1, eb15_1, gb15_1, b15_2, eb15_2, gb15_2, b15_4, eb15_4, gb15_4, b15_8, eb15_8, gb15_8, b13_1, eb13_1, gb13_1, b13_2, eb13_2, gb13_2, b13_4, eb13_4, gb13_4, b13_8, eb13_8, gb13_8, b3_1, eb3_1, gb3_1, b3_2, eb3_2, gb3_2, b3_4, eb3_4, gb3_4, b3_8, eb3_8, gb3_8, b9_1, eb9_1, gb9_1, b9_2, eb9_2, gb9_2, b9_4, eb9_4, gb9_4, b9_8, eb9_8, gb9_8, b11_1, eb11_1, gb11_1, b11_2, eb11_2, gb11_2, b11_4, eb11_4, gb11_4, b11_8, eb11_8, gb11_8, b1_1, eb1_1, gb1_1, b1_2, eb1_2, gb1_2, b1_4, eb1_4, gb1_4, b1_8, eb1_8, gb1_8, b5_1, eb5_1, gb5_1, b5_2, eb5_2, gb5_2, b5_4, eb5_4, gb5_4, b5_8, eb5_8, gb5_8, b12_1, eb12_1, gb12_1, b12_2, eb12_2, gb12_2, b12_4, eb12_4, gb12_4, b12_8, eb12_8, gb12_8, b0_1, eb0_1, gb0_1, b0_2, eb0_2, gb0_2, b0_4, eb0_4, gb0_4, b0_8, eb0_8, gb0_8, b10_1, eb10_1, gb10_1, b10_2, eb10_2, gb10_2, b10_4, eb10_4, gb10_4, b10_8, eb10_8, gb10_8, cond_true, cond_false] at h1
      refine (congrArg (fun r => Post (.int .i64 r) []) ?_).mpr h
      simp only [evB]
      clear a av as1 h ho hm hf hk
      generalize numB _ id n = b7
      generalize isName s = b8
      revert h1
      generalize (id == 0) = b1; generalize (n == 0) = b2; generalize s.isEmpty = b3; generalize (v.k == 0) = b4; generalize (v.k == 1) = b5; generalize (v.n != 0) = b6; revert b1 b2 b3 b4 b5 b6 b7 b8; decide)
  | (
    refine numbers_c ⟨_, flow, id, n, s, v⟩ z1 z2 lp t1 t2 _ a rfl (fun h2 => ?_) (fun h2 => ?_)
    · (conv => whnf); repeat ((first | (refine And.intro ?_ ?_; focus exact Cl3) | refine Both.T (by exact rfl) ?_ | refine Both.F (by exact rfl) ?_ | refine Both.GT (by exact rfl) (by exact rfl) ?_ | refine Both.GF (by exact rfl) ?_ | refine Both.GN (by exact rfl) ?_); conv => whnf)
      first
      | (
        refine nameE_c s as1 _ (fun h3 => ?_) (fun h3 => ?_)
        · (conv => whnf); repeat ((first | (refine And.intro ?_ ?_; focus exact Cl3) | refine Both.T (by exact rfl) ?_ | refine Both.F (by exact rfl) ?_ | refine Both.GT (by exact rfl) (by exact rfl) ?_ | refine Both.GF (by exact rfl) ?_ | refine Both.GN (by exact rfl) ?_); conv => whnf)
          refine (congrArg (fun r => Post (.int .i64 r) []) ?_).mpr h
          simp only [evB, h2, h3]
          clear a av as1 h ho hm hf hk
          generalize isName s = b8
          generalize (id == 0) = b1; generalize (n == 0) = b2; generalize s.isEmpty = b3; generalize (v.k == 0) = b4; generalize (v.k == 1) = b5; generalize (v.n != 0) = b6; revert b1 b2 b3 b4 b5 b6 b8; decide
        · (conv => whnf); repeat ((first | (refine And.intro ?_ ?_; focus exact Cl3) | refine Both.T (by exact rfl) ?_ | refine Both.F (by exact rfl) ?_ | refine Both.GT (by exact rfl) (by exact rfl) ?_ | refine Both.GF (by exact rfl) ?_ | refine Both.GN (by exact rfl) ?_); conv => whnf)
          refine (congrArg (fun r => Post (.int .i64 r) []) ?_).mpr h
          simp only [evB, h2, h3]
          clear a av as1 h ho hm hf hk
          generalize isName s = b8
          generalize (id == 0) = b1; generalize (n == 0) = b2; generalize s.isEmpty = b3; generalize (v.k == 0) = b4; generalize (v.k == 1) = b5; generalize (v.n != 0) = b6; revert b1 b2 b3 b4 b5 b6 b8; decide)
      | (
        refine (congrArg (fun r => Post (.int .i64 r) []) ?_).mpr h
        simp only [evB, h2]
        clear a av as1 h ho hm hf hk
        generalize isName s = b8
        generalize (id == 0) = b1; generalize (n == 0) = b2; generalize s.isEmpty = b3; generalize (v.k == 0) = b4; generalize (v.k == 1) = b5; generalize (v.n != 0) = b6; revert b1 b2 b3 b4 b5 b6 b8; decide)
    · (conv => whnf); repeat ((first | (refine And.intro ?_ ?_; focus exact Cl3) | refine Both.T (by exact rfl) ?_ | refine Both.F (by exact rfl) ?_ | refine Both.GT (by exact rfl) (by exact rfl) ?_ | refine Both.GF (by exact rfl) ?_ | refine Both.GN (by exact rfl) ?_); conv => whnf)
      refine (congrArg (fun r => Post (.int .i64 r) []) ?_).mpr h
      simp only [evB, h2]
      clear a av as1 h ho hm hf hk
      generalize isName s = b8
      generalize (id == 0) = b1; generalize (n == 0) = b2; generalize s.isEmpty = b3; generalize (v.k == 0) = b4; generalize (v.k == 1) = b5; generalize (v.n != 0) = b6; revert b1 b2 b3 b4 b5 b6 b8; decide)
end Go.Vc
