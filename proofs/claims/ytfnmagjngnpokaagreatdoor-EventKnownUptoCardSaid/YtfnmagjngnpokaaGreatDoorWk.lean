/- What is proved here: contracts of functions of the program: of each function what it hands back and what it leaves in memory. Conditions: those that each theorem names. -/
import Derived.Test.YtfnmagjngnpokaaGreatDoorWc
import Derived.Test.YtfnmagjngnpokaaGreatDoorWd
set_option linter.unusedVariables false
set_option linter.unusedSimpArgs false
set_option linter.unusedSectionVars false
namespace Go.Vc
open Go Go.Proofs
set_option maxRecDepth 100000
def yc (k fl id n : Int) (s : List UInt8) (o : Bool) : List PV := [.int .i64 k, .int .i64 fl, .int .i64 id, .int .i64 n, .str s, .int .i64 0, .int .i64 0, .str [], .sl 0 [] true o, .sl 0 [] true o]
set_option maxHeartbeats 4000000 in
theorem clo49_spec (k fl id n : Int) (s b : List UInt8) (z : Nat) (t : Bool) (e0 : Int) (hz : z = 1 ∨ b = []) (hb : b.length ≤ 1000000000) (Post : PV → List (Nat × Blk) → Prop)
    (h : ∀ z m r e, rdSpec numG b = (m, r, e) → (z = 1 ∨ r = []) → Post (.tup []) [(0, .box [.sl z (bs r) false true]), (1, .box (yc k m id n s true)), (2, .box [.int .i64 e])]) :
    Spec K 51 [.ptr 0 0, .ptr 1 0, .ptr 2 0] [(0, .box [.sl z (bs b) t true]), (1, .box (yc k fl id n s true)), (2, .box [.int .i64 e0])] Post := by
  refine is51.spec K_ok K_mix true (by simp [labsL, PV.labs, keys]) (by simp [keys]) ?_
  (conv => whnf); repeat ((first | (refine And.intro ?_ ?_; focus exact Cl3) | refine Both.T (by exact rfl) ?_ | refine Both.F (by exact rfl) ?_ | refine Both.GT (by exact rfl) (by exact rfl) ?_ | refine Both.GF (by exact rfl) ?_ | refine Both.GN (by exact rfl) ?_); conv => whnf)
  refine takeNum_spec b z t hz hb _ fun z' m r e he hz' => ?_
  (conv => whnf); repeat ((first | (refine And.intro ?_ ?_; focus exact Cl3) | refine Both.T (by exact rfl) ?_ | refine Both.F (by exact rfl) ?_ | refine Both.GT (by exact rfl) (by exact rfl) ?_ | refine Both.GF (by exact rfl) ?_ | refine Both.GN (by exact rfl) ?_); conv => whnf)
  exact h z' m r e he hz'
set_option maxHeartbeats 4000000 in
theorem clo51_spec (k fl id n : Int) (s b : List UInt8) (z : Nat) (t : Bool) (e0 : Int) (hz : z = 1 ∨ b = []) (hb : b.length ≤ 1000000000) (Post : PV → List (Nat × Blk) → Prop)
    (h : ∀ z m r e, rdSpec numG b = (m, r, e) → (z = 1 ∨ r = []) → Post (.tup []) [(0, .box [.sl z (bs r) false true]), (1, .box (yc k fl m n s true)), (2, .box [.int .i64 e])]) :
    Spec K 53 [.ptr 0 0, .ptr 1 0, .ptr 2 0] [(0, .box [.sl z (bs b) t true]), (1, .box (yc k fl id n s true)), (2, .box [.int .i64 e0])] Post := by
  refine is53.spec K_ok K_mix true (by simp [labsL, PV.labs, keys]) (by simp [keys]) ?_
  (conv => whnf); repeat ((first | (refine And.intro ?_ ?_; focus exact Cl3) | refine Both.T (by exact rfl) ?_ | refine Both.F (by exact rfl) ?_ | refine Both.GT (by exact rfl) (by exact rfl) ?_ | refine Both.GF (by exact rfl) ?_ | refine Both.GN (by exact rfl) ?_); conv => whnf)
  refine takeNum_spec b z t hz hb _ fun z' m r e he hz' => ?_
  (conv => whnf); repeat ((first | (refine And.intro ?_ ?_; focus exact Cl3) | refine Both.T (by exact rfl) ?_ | refine Both.F (by exact rfl) ?_ | refine Both.GT (by exact rfl) (by exact rfl) ?_ | refine Both.GF (by exact rfl) ?_ | refine Both.GN (by exact rfl) ?_); conv => whnf)
  exact h z' m r e he hz'
set_option maxHeartbeats 4000000 in
theorem clo52_spec (k fl id n : Int) (s b : List UInt8) (z : Nat) (t : Bool) (e0 : Int) (hz : z = 1 ∨ b = []) (hb : b.length ≤ 1000000000) (Post : PV → List (Nat × Blk) → Prop)
    (h : ∀ z m r e, rdSpec intG b = (m, r, e) → (z = 1 ∨ r = []) → Post (.tup []) [(0, .box [.sl z (bs r) false true]), (1, .box (yc k fl id m s true)), (2, .box [.int .i64 e])]) :
    Spec K 54 [.ptr 0 0, .ptr 1 0, .ptr 2 0] [(0, .box [.sl z (bs b) t true]), (1, .box (yc k fl id n s true)), (2, .box [.int .i64 e0])] Post := by
  refine is54.spec K_ok K_mix true (by simp [labsL, PV.labs, keys]) (by simp [keys]) ?_
  (conv => whnf); repeat ((first | (refine And.intro ?_ ?_; focus exact Cl3) | refine Both.T (by exact rfl) ?_ | refine Both.F (by exact rfl) ?_ | refine Both.GT (by exact rfl) (by exact rfl) ?_ | refine Both.GF (by exact rfl) ?_ | refine Both.GN (by exact rfl) ?_); conv => whnf)
  refine takeInt_spec b z t hz hb _ fun z' m r e he hz' => ?_
  (conv => whnf); repeat ((first | (refine And.intro ?_ ?_; focus exact Cl3) | refine Both.T (by exact rfl) ?_ | refine Both.F (by exact rfl) ?_ | refine Both.GT (by exact rfl) (by exact rfl) ?_ | refine Both.GF (by exact rfl) ?_ | refine Both.GN (by exact rfl) ?_); conv => whnf)
  exact h z' m r e he hz'
end Go.Vc
namespace Go.Vc
open Go Go.Proofs
set_option maxRecDepth 100000
def fnsT : List PV := [.fn (.func 51) [] [.ptr 1 0, .ptr 3 0, .ptr 2 0], .fn (.func 53) [] [.ptr 1 0, .ptr 3 0, .ptr 2 0], .fn (.func 54) [] [.ptr 1 0, .ptr 3 0, .ptr 2 0], .fn (.func 56) [] [.ptr 1 0, .ptr 3 0, .ptr 2 0], .fn (.func 58) [] [.ptr 1 0, .ptr 3 0, .ptr 2 0]]
def ev0 : List PV := [.int .i64 0, .int .i64 0, .int .i64 0, .int .i64 0, .str [], .int .i64 0, .int .i64 0, .str [], .sl 0 [] true false, .sl 0 [] true false]
/-- The state ahead of a step. -/
def stT (i : Nat) (f : Int) (y : List PV) (z : Nat) (b : List UInt8) (t : Bool) : St :=
  ⟨71, [(43, .int .i64 i), (42, .agg fnsT), (6, .int .i64 f), (7, .ptr 3 0), (4, .ptr 2 0), (3, .ptr 1 0), (2, .ptr 0 0)],
    [(0, .box ev0), (1, .box [.sl z (bs b) t true]), (2, .box [.int .i64 0]), (3, .box y)], []⟩
set_option maxHeartbeats 16000000 in
theorem takeA_spec (t : Bool) (Post : PV → List (Nat × Blk) → Prop) (h : ∀ z, Post (.tup [.agg [.int .i64 3, .int .i64 1, .int .i64 2, .int .i64 1, .str [], .int .i64 0, .int .i64 0, .str [], .sl 0 [] false true, .sl 0 [] false true], .sl z [] false true, .int .i64 0]) []) :
    Spec K 29 [.sl 1 (bs [1, 3, 1, 2, 2]) t true] [] Post := by
  refine is29.specW K_ok K_mix false (by simp) (by simp [keys]) ?_
  (conv => whnf); repeat ((first | (refine And.intro ?_ ?_; focus exact Cl3) | refine Both.T (by exact rfl) ?_ | refine Both.F (by exact rfl) ?_ | refine Both.GT (by exact rfl) (by exact rfl) ?_ | refine Both.GF (by exact rfl) ?_ | refine Both.GN (by exact rfl) ?_); conv => whnf)
  refine ⟨fun _ => ⟨by decide, by decide⟩, ?_⟩
  (conv => whnf); repeat ((first | (refine And.intro ?_ ?_; focus exact Cl3) | refine Both.T (by exact rfl) ?_ | refine Both.F (by exact rfl) ?_ | refine Both.GT (by exact rfl) (by exact rfl) ?_ | refine Both.GF (by exact rfl) ?_ | refine Both.GN (by exact rfl) ?_); conv => whnf)
  refine ⟨fun _ => ⟨by decide, by decide⟩, ?_⟩
  (conv => whnf); repeat ((first | (refine And.intro ?_ ?_; focus exact Cl3) | refine Both.T (by exact rfl) ?_ | refine Both.F (by exact rfl) ?_ | refine Both.GT (by exact rfl) (by exact rfl) ?_ | refine Both.GF (by exact rfl) ?_ | refine Both.GN (by exact rfl) ?_); conv => whnf)
  refine within_c _ _ _ _ (fun h2 => ?_) (fun h2 => absurd h2 (by decide))
  (conv => whnf); repeat ((first | (refine And.intro ?_ ?_; focus exact Cl3) | refine Both.T (by exact rfl) ?_ | refine Both.F (by exact rfl) ?_ | refine Both.GT (by exact rfl) (by exact rfl) ?_ | refine Both.GF (by exact rfl) ?_ | refine Both.GN (by exact rfl) ?_); conv => whnf)
  refine ⟨fun _ => ⟨by decide, by decide⟩, ?_⟩
  (conv => whnf); repeat ((first | (refine And.intro ?_ ?_; focus exact Cl3) | refine Both.T (by exact rfl) ?_ | refine Both.F (by exact rfl) ?_ | refine Both.GT (by exact rfl) (by exact rfl) ?_ | refine Both.GF (by exact rfl) ?_ | refine Both.GN (by exact rfl) ?_); conv => whnf)
  refine ⟨fun _ => ⟨by decide, by decide⟩, ?_⟩
  (conv => whnf); repeat ((first | (refine And.intro ?_ ?_; focus exact Cl3) | refine Both.T (by exact rfl) ?_ | refine Both.F (by exact rfl) ?_ | refine Both.GT (by exact rfl) (by exact rfl) ?_ | refine Both.GF (by exact rfl) ?_ | refine Both.GN (by exact rfl) ?_); conv => whnf)
  refine ⟨Nat × Nat × Bool, fun x => stT x.1 3 (yc 3 ([0, 1, 1, 1, 1, 1].getD x.1 0) ([0, 0, 2, 2, 2, 2].getD x.1 0) ([0, 0, 0, 1, 1, 1].getD x.1 0) [] (x.1 != 0)) x.2.1 ([[1, 2, 2], [2, 2], [2], [], [], []].getD x.1 []) x.2.2,
    fun x => x.1 ≤ 5 ∧ (x.2.1 = 1 ∨ ([[1, 2, 2], [2, 2], [2], [], [], []] : List (List UInt8)).getD x.1 [] = []), fun x => 5 - x.1, ⟨[], (0, 1, t), ⟨Nat.zero_le _, .inl rfl⟩, ?_⟩, fun x hI => ?_⟩
  · simp [meets, ghosts, St.le, St.get, look, keys, PV.labs, labsL, lookB, Blk.labs, stT, yc, fnsT, ev0, bs]
    rfl
  · obtain ⟨i, z, t'⟩ := x
    obtain ⟨hi, hz⟩ := hI
    simp only at hi hz
    rcases i with _ | _ | _ | _ | _ | _ | i
    case succ.succ.succ.succ.succ.succ => exact absurd hi (by omega)
    all_goals (
      conv => (arg 5; dsimp only)
      (conv => whnf); repeat ((first | (refine And.intro ?_ ?_; focus exact Cl3) | refine Both.T (by exact rfl) ?_ | refine Both.F (by exact rfl) ?_ | refine Both.GT (by exact rfl) (by exact rfl) ?_ | refine Both.GF (by exact rfl) ?_ | refine Both.GN (by exact rfl) ?_); conv => whnf))
    · refine clo49_spec 3 0 0 0 [] [1, 2, 2] z t' 0 hz (by decide) _ (fun z' m r e he hz' => ?_)
      rw [show rdSpec numG [1, 2, 2] = (1, [2, 2], 0) by decide +kernel] at he
      obtain ⟨rfl, rfl, rfl⟩ : 1 = m ∧ [2, 2] = r ∧ 0 = e := by simpa using he
      (conv => whnf); repeat ((first | (refine And.intro ?_ ?_; focus exact Cl3) | refine Both.T (by exact rfl) ?_ | refine Both.F (by exact rfl) ?_ | refine Both.GT (by exact rfl) (by exact rfl) ?_ | refine Both.GF (by exact rfl) ?_ | refine Both.GN (by exact rfl) ?_); conv => whnf)
      refine ⟨[], (1, z', false), ⟨by show 1 ≤ 5; omega, hz'⟩, by show 5 - 1 < 5 - 0; omega, ?_⟩
      simp [meets, ghosts, St.le, St.get, look, keys, PV.labs, labsL, lookB, Blk.labs, stT, yc, fnsT, ev0, bs]
      try rfl
    · refine ⟨fun _ => by decide, ?_⟩
      (conv => whnf); repeat ((first | (refine And.intro ?_ ?_; focus exact Cl3) | refine Both.T (by exact rfl) ?_ | refine Both.F (by exact rfl) ?_ | refine Both.GT (by exact rfl) (by exact rfl) ?_ | refine Both.GF (by exact rfl) ?_ | refine Both.GN (by exact rfl) ?_); conv => whnf)
      refine clo51_spec 3 1 0 0 [] [2, 2] z t' 0 hz (by decide) _ (fun z' m r e he hz' => ?_)
      rw [show rdSpec numG [2, 2] = (2, [2], 0) by decide +kernel] at he
      obtain ⟨rfl, rfl, rfl⟩ : 2 = m ∧ [2] = r ∧ 0 = e := by simpa using he
      (conv => whnf); repeat ((first | (refine And.intro ?_ ?_; focus exact Cl3) | refine Both.T (by exact rfl) ?_ | refine Both.F (by exact rfl) ?_ | refine Both.GT (by exact rfl) (by exact rfl) ?_ | refine Both.GF (by exact rfl) ?_ | refine Both.GN (by exact rfl) ?_); conv => whnf)
      refine ⟨[], (2, z', false), ⟨by show 2 ≤ 5; omega, hz'⟩, by show 5 - 2 < 5 - 1; omega, ?_⟩
      simp [meets, ghosts, St.le, St.get, look, keys, PV.labs, labsL, lookB, Blk.labs, stT, yc, fnsT, ev0, bs]
      try rfl
    · refine ⟨fun _ => by decide, ?_⟩
      (conv => whnf); repeat ((first | (refine And.intro ?_ ?_; focus exact Cl3) | refine Both.T (by exact rfl) ?_ | refine Both.F (by exact rfl) ?_ | refine Both.GT (by exact rfl) (by exact rfl) ?_ | refine Both.GF (by exact rfl) ?_ | refine Both.GN (by exact rfl) ?_); conv => whnf)
      refine clo52_spec 3 1 2 0 [] [2] z t' 0 hz (by decide) _ (fun z' m r e he hz' => ?_)
      rw [show rdSpec intG [2] = (1, [], 0) by decide +kernel] at he
      obtain ⟨rfl, rfl, rfl⟩ : 1 = m ∧ [] = r ∧ 0 = e := by simpa using he
      (conv => whnf); repeat ((first | (refine And.intro ?_ ?_; focus exact Cl3) | refine Both.T (by exact rfl) ?_ | refine Both.F (by exact rfl) ?_ | refine Both.GT (by exact rfl) (by exact rfl) ?_ | refine Both.GF (by exact rfl) ?_ | refine Both.GN (by exact rfl) ?_); conv => whnf)
      refine ⟨[], (3, z', false), ⟨by show 3 ≤ 5; omega, hz'⟩, by show 5 - 3 < 5 - 2; omega, ?_⟩
      simp [meets, ghosts, St.le, St.get, look, keys, PV.labs, labsL, lookB, Blk.labs, stT, yc, fnsT, ev0, bs]
      try rfl
    · refine ⟨fun _ => by decide, ?_⟩
      (conv => whnf); repeat ((first | (refine And.intro ?_ ?_; focus exact Cl3) | refine Both.T (by exact rfl) ?_ | refine Both.F (by exact rfl) ?_ | refine Both.GT (by exact rfl) (by exact rfl) ?_ | refine Both.GF (by exact rfl) ?_ | refine Both.GN (by exact rfl) ?_); conv => whnf)
      refine ⟨[], (4, z, t'), ⟨by show 4 ≤ 5; omega, .inr rfl⟩, by show 5 - 4 < 5 - 3; omega, ?_⟩
      simp [meets, ghosts, St.le, St.get, look, keys, PV.labs, labsL, lookB, Blk.labs, stT, yc, fnsT, ev0, bs]
      try rfl
    · refine ⟨fun _ => by decide, ?_⟩
      (conv => whnf); repeat ((first | (refine And.intro ?_ ?_; focus exact Cl3) | refine Both.T (by exact rfl) ?_ | refine Both.F (by exact rfl) ?_ | refine Both.GT (by exact rfl) (by exact rfl) ?_ | refine Both.GF (by exact rfl) ?_ | refine Both.GN (by exact rfl) ?_); conv => whnf)
      refine ⟨[], (5, z, t'), ⟨by show 5 ≤ 5; omega, .inr rfl⟩, by show 5 - 5 < 5 - 4; omega, ?_⟩
      simp [meets, ghosts, St.le, St.get, look, keys, PV.labs, labsL, lookB, Blk.labs, stT, yc, fnsT, ev0, bs]
      try rfl
    · refine evCheck_spec ⟨3, 1, 2, 1, [], V0⟩ 0 0 [] _ _ _ ⟨V0_VA, by decide, ⟨by decide, by decide⟩, ⟨by decide, by decide⟩⟩ ?_
      rw [show evOk ⟨3, 1, 2, 1, [], V0⟩ = true by decide +kernel]
      (conv => whnf); repeat ((first | (refine And.intro ?_ ?_; focus exact Cl3) | refine Both.T (by exact rfl) ?_ | refine Both.F (by exact rfl) ?_ | refine Both.GT (by exact rfl) (by exact rfl) ?_ | refine Both.GF (by exact rfl) ?_ | refine Both.GN (by exact rfl) ?_); conv => whnf)
      (conv => whnf); repeat' (first | ((refine And.intro ?_ ?_; focus exact Cl2); conv => whnf) | ((refine Both.mk ?_ ?_ <;> fail_if_success (intro _)) <;> conv => whnf))
      all_goals (
        refine clone_spec [] z t' (by decide) _ fun z' hz' => ?_
        (conv => whnf); repeat ((first | (refine And.intro ?_ ?_; focus exact Cl3) | refine Both.T (by exact rfl) ?_ | refine Both.F (by exact rfl) ?_ | refine Both.GT (by exact rfl) (by exact rfl) ?_ | refine Both.GF (by exact rfl) ?_ | refine Both.GN (by exact rfl) ?_); conv => whnf)
        exact h _)
set_option maxHeartbeats 16000000 in
theorem takeB_spec (t : Bool) (Post : PV → List (Nat × Blk) → Prop) (h : Post (.tup [.agg [.int .i64 0, .int .i64 0, .int .i64 0, .int .i64 0, .str [], .int .i64 0, .int .i64 0, .str [], .sl 0 [] false true, .sl 0 [] false true], .sl 0 [] false true, .int .i64 4]) []) :
    Spec K 29 [.sl 1 (bs [2, 14, 3]) t true] [] Post := by
  refine is29.specW K_ok K_mix false (by simp) (by simp [keys]) ?_
  (conv => whnf); repeat ((first | (refine And.intro ?_ ?_; focus exact Cl3) | refine Both.T (by exact rfl) ?_ | refine Both.F (by exact rfl) ?_ | refine Both.GT (by exact rfl) (by exact rfl) ?_ | refine Both.GF (by exact rfl) ?_ | refine Both.GN (by exact rfl) ?_); conv => whnf)
  refine ⟨fun _ => ⟨by decide, by decide⟩, ?_⟩
  (conv => whnf); repeat ((first | (refine And.intro ?_ ?_; focus exact Cl3) | refine Both.T (by exact rfl) ?_ | refine Both.F (by exact rfl) ?_ | refine Both.GT (by exact rfl) (by exact rfl) ?_ | refine Both.GF (by exact rfl) ?_ | refine Both.GN (by exact rfl) ?_); conv => whnf)
  refine ⟨fun _ => ⟨by decide, by decide⟩, ?_⟩
  (conv => whnf); repeat ((first | (refine And.intro ?_ ?_; focus exact Cl3) | refine Both.T (by exact rfl) ?_ | refine Both.F (by exact rfl) ?_ | refine Both.GT (by exact rfl) (by exact rfl) ?_ | refine Both.GF (by exact rfl) ?_ | refine Both.GN (by exact rfl) ?_); conv => whnf)
  exact h
set_option maxHeartbeats 16000000 in
theorem takeC_spec (t : Bool) (Post : PV → List (Nat × Blk) → Prop) (h : ∀ z, (z = 1 ∨ ([0] : List UInt8) = []) → Post (.tup [.agg [.int .i64 14, .int .i64 3, .int .i64 0, .int .i64 0, .str [], .int .i64 0, .int .i64 0, .str [], .sl 0 [] false true, .sl 0 [] false true], .sl z (bs [0]) false true, .int .i64 0]) []) :
    Spec K 29 [.sl 1 (bs [1, 14, 3, 0]) t true] [] Post := by
  refine is29.specW K_ok K_mix false (by simp) (by simp [keys]) ?_
  (conv => whnf); repeat ((first | (refine And.intro ?_ ?_; focus exact Cl3) | refine Both.T (by exact rfl) ?_ | refine Both.F (by exact rfl) ?_ | refine Both.GT (by exact rfl) (by exact rfl) ?_ | refine Both.GF (by exact rfl) ?_ | refine Both.GN (by exact rfl) ?_); conv => whnf)
  refine ⟨fun _ => ⟨by decide, by decide⟩, ?_⟩
  (conv => whnf); repeat ((first | (refine And.intro ?_ ?_; focus exact Cl3) | refine Both.T (by exact rfl) ?_ | refine Both.F (by exact rfl) ?_ | refine Both.GT (by exact rfl) (by exact rfl) ?_ | refine Both.GF (by exact rfl) ?_ | refine Both.GN (by exact rfl) ?_); conv => whnf)
  refine ⟨fun _ => ⟨by decide, by decide⟩, ?_⟩
  (conv => whnf); repeat ((first | (refine And.intro ?_ ?_; focus exact Cl3) | refine Both.T (by exact rfl) ?_ | refine Both.F (by exact rfl) ?_ | refine Both.GT (by exact rfl) (by exact rfl) ?_ | refine Both.GF (by exact rfl) ?_ | refine Both.GN (by exact rfl) ?_); conv => whnf)
  refine within_c _ _ _ _ (fun h2 => ?_) (fun h2 => absurd h2 (by decide))
  (conv => whnf); repeat ((first | (refine And.intro ?_ ?_; focus exact Cl3) | refine Both.T (by exact rfl) ?_ | refine Both.F (by exact rfl) ?_ | refine Both.GT (by exact rfl) (by exact rfl) ?_ | refine Both.GF (by exact rfl) ?_ | refine Both.GN (by exact rfl) ?_); conv => whnf)
  refine ⟨fun _ => ⟨by decide, by decide⟩, ?_⟩
  (conv => whnf); repeat ((first | (refine And.intro ?_ ?_; focus exact Cl3) | refine Both.T (by exact rfl) ?_ | refine Both.F (by exact rfl) ?_ | refine Both.GT (by exact rfl) (by exact rfl) ?_ | refine Both.GF (by exact rfl) ?_ | refine Both.GN (by exact rfl) ?_); conv => whnf)
  refine ⟨fun _ => ⟨by decide, by decide⟩, ?_⟩
  (conv => whnf); repeat ((first | (refine And.intro ?_ ?_; focus exact Cl3) | refine Both.T (by exact rfl) ?_ | refine Both.F (by exact rfl) ?_ | refine Both.GT (by exact rfl) (by exact rfl) ?_ | refine Both.GF (by exact rfl) ?_ | refine Both.GN (by exact rfl) ?_); conv => whnf)
  refine ⟨Nat × Nat × Bool, fun x => stT x.1 0 (yc 14 ([0, 3, 3, 3, 3, 3].getD x.1 0) 0 0 [] (x.1 != 0)) x.2.1 ([[3, 0], [0], [0], [0], [0], [0]].getD x.1 []) x.2.2,
    fun x => x.1 ≤ 5 ∧ (x.2.1 = 1 ∨ ([[3, 0], [0], [0], [0], [0], [0]] : List (List UInt8)).getD x.1 [] = []), fun x => 5 - x.1, ⟨[], (0, 1, t), ⟨Nat.zero_le _, .inl rfl⟩, ?_⟩, fun x hI => ?_⟩
  · simp [meets, ghosts, St.le, St.get, look, keys, PV.labs, labsL, lookB, Blk.labs, stT, yc, fnsT, ev0, bs]
    try rfl
  · obtain ⟨i, z, t'⟩ := x
    obtain ⟨hi, hz⟩ := hI
    simp only at hi hz
    rcases i with _ | _ | _ | _ | _ | _ | i
    case succ.succ.succ.succ.succ.succ => exact absurd hi (by omega)
    all_goals (
      conv => (arg 5; dsimp only)
      (conv => whnf); repeat ((first | (refine And.intro ?_ ?_; focus exact Cl3) | refine Both.T (by exact rfl) ?_ | refine Both.F (by exact rfl) ?_ | refine Both.GT (by exact rfl) (by exact rfl) ?_ | refine Both.GF (by exact rfl) ?_ | refine Both.GN (by exact rfl) ?_); conv => whnf))
    · refine clo49_spec 14 0 0 0 [] [3, 0] z t' 0 hz (by decide) _ (fun z' m r e he hz' => ?_)
      rw [show rdSpec numG [3, 0] = (3, [0], 0) by decide +kernel] at he
      obtain ⟨rfl, rfl, rfl⟩ : 3 = m ∧ [0] = r ∧ 0 = e := by simpa using he
      (conv => whnf); repeat ((first | (refine And.intro ?_ ?_; focus exact Cl3) | refine Both.T (by exact rfl) ?_ | refine Both.F (by exact rfl) ?_ | refine Both.GT (by exact rfl) (by exact rfl) ?_ | refine Both.GF (by exact rfl) ?_ | refine Both.GN (by exact rfl) ?_); conv => whnf)
      refine ⟨[], (1, z', false), ⟨by show 1 ≤ 5; omega, hz'⟩, by show 5 - 1 < 5 - 0; omega, ?_⟩
      simp [meets, ghosts, St.le, St.get, look, keys, PV.labs, labsL, lookB, Blk.labs, stT, yc, fnsT, ev0, bs]
      try rfl
    · refine ⟨fun _ => by decide, ?_⟩
      (conv => whnf); repeat ((first | (refine And.intro ?_ ?_; focus exact Cl3) | refine Both.T (by exact rfl) ?_ | refine Both.F (by exact rfl) ?_ | refine Both.GT (by exact rfl) (by exact rfl) ?_ | refine Both.GF (by exact rfl) ?_ | refine Both.GN (by exact rfl) ?_); conv => whnf)
      refine ⟨[], (2, z, t'), ⟨by show 2 ≤ 5; omega, hz⟩, by show 5 - 2 < 5 - 1; omega, ?_⟩
      simp [meets, ghosts, St.le, St.get, look, keys, PV.labs, labsL, lookB, Blk.labs, stT, yc, fnsT, ev0, bs]
      try rfl
    · refine ⟨fun _ => by decide, ?_⟩
      (conv => whnf); repeat ((first | (refine And.intro ?_ ?_; focus exact Cl3) | refine Both.T (by exact rfl) ?_ | refine Both.F (by exact rfl) ?_ | refine Both.GT (by exact rfl) (by exact rfl) ?_ | refine Both.GF (by exact rfl) ?_ | refine Both.GN (by exact rfl) ?_); conv => whnf)
      refine ⟨[], (3, z, t'), ⟨by show 3 ≤ 5; omega, hz⟩, by show 5 - 3 < 5 - 2; omega, ?_⟩
      simp [meets, ghosts, St.le, St.get, look, keys, PV.labs, labsL, lookB, Blk.labs, stT, yc, fnsT, ev0, bs]
      try rfl
    · refine ⟨fun _ => by decide, ?_⟩
      (conv => whnf); repeat ((first | (refine And.intro ?_ ?_; focus exact Cl3) | refine Both.T (by exact rfl) ?_ | refine Both.F (by exact rfl) ?_ | refine Both.GT (by exact rfl) (by exact rfl) ?_ | refine Both.GF (by exact rfl) ?_ | refine Both.GN (by exact rfl) ?_); conv => whnf)
      refine ⟨[], (4, z, t'), ⟨by show 4 ≤ 5; omega, hz⟩, by show 5 - 4 < 5 - 3; omega, ?_⟩
      simp [meets, ghosts, St.le, St.get, look, keys, PV.labs, labsL, lookB, Blk.labs, stT, yc, fnsT, ev0, bs]
      try rfl
    · refine ⟨fun _ => by decide, ?_⟩
      (conv => whnf); repeat ((first | (refine And.intro ?_ ?_; focus exact Cl3) | refine Both.T (by exact rfl) ?_ | refine Both.F (by exact rfl) ?_ | refine Both.GT (by exact rfl) (by exact rfl) ?_ | refine Both.GF (by exact rfl) ?_ | refine Both.GN (by exact rfl) ?_); conv => whnf)
      refine ⟨[], (5, z, t'), ⟨by show 5 ≤ 5; omega, hz⟩, by show 5 - 5 < 5 - 4; omega, ?_⟩
      simp [meets, ghosts, St.le, St.get, look, keys, PV.labs, labsL, lookB, Blk.labs, stT, yc, fnsT, ev0, bs]
      try rfl
    · refine evCheck_spec ⟨14, 3, 0, 0, [], V0⟩ 0 0 [] _ _ _ ⟨V0_VA, by decide, ⟨by decide, by decide⟩, ⟨by decide, by decide⟩⟩ ?_
      rw [show evOk ⟨14, 3, 0, 0, [], V0⟩ = true by decide +kernel]
      (conv => whnf); repeat ((first | (refine And.intro ?_ ?_; focus exact Cl3) | refine Both.T (by exact rfl) ?_ | refine Both.F (by exact rfl) ?_ | refine Both.GT (by exact rfl) (by exact rfl) ?_ | refine Both.GF (by exact rfl) ?_ | refine Both.GN (by exact rfl) ?_); conv => whnf)
      (conv => whnf); repeat' (first | ((refine And.intro ?_ ?_; focus exact Cl2); conv => whnf) | ((refine Both.mk ?_ ?_ <;> fail_if_success (intro _)) <;> conv => whnf))
      all_goals (
        refine clone_spec [0] z t' (by decide) _ fun z' hz' => ?_
        (conv => whnf); repeat ((first | (refine And.intro ?_ ?_; focus exact Cl3) | refine Both.T (by exact rfl) ?_ | refine Both.F (by exact rfl) ?_ | refine Both.GT (by exact rfl) (by exact rfl) ?_ | refine Both.GF (by exact rfl) ?_ | refine Both.GN (by exact rfl) ?_); conv => whnf)
        exact h _ hz')
def zeroE : PV := .agg [.int .i64 0, .int .i64 0, .int .i64 0, .int .i64 0, .str [], .int .i64 0, .int .i64 0, .str [], .sl 0 [] false true, .sl 0 [] false true]
theorem parseA_spec (t : Bool) (Post : PV → List (Nat × Blk) → Prop) (h : Post (.tup [.agg [.int .i64 3, .int .i64 1, .int .i64 2, .int .i64 1, .str [], .int .i64 0, .int .i64 0, .str [], .sl 0 [] false true, .sl 0 [] false true], .int .i64 0]) []) :
    Spec K 11 [.sl 1 (bs [1, 3, 1, 2, 2]) t true] [] Post := by
  refine is11.specW K_ok K_mix false (by simp) (by simp [keys]) ?_
  (conv => whnf); repeat ((first | (refine And.intro ?_ ?_; focus exact Cl3) | refine Both.T (by exact rfl) ?_ | refine Both.F (by exact rfl) ?_ | refine Both.GT (by exact rfl) (by exact rfl) ?_ | refine Both.GF (by exact rfl) ?_ | refine Both.GN (by exact rfl) ?_); conv => whnf)
  refine takeA_spec t _ fun z => ?_
  (conv => whnf); repeat ((first | (refine And.intro ?_ ?_; focus exact Cl3) | refine Both.T (by exact rfl) ?_ | refine Both.F (by exact rfl) ?_ | refine Both.GT (by exact rfl) (by exact rfl) ?_ | refine Both.GF (by exact rfl) ?_ | refine Both.GN (by exact rfl) ?_); conv => whnf)
  exact h
theorem parseB_spec (t : Bool) (Post : PV → List (Nat × Blk) → Prop) (h : Post (.tup [zeroE, .int .i64 4]) []) :
    Spec K 11 [.sl 1 (bs [2, 14, 3]) t true] [] Post := by
  refine is11.specW K_ok K_mix false (by simp) (by simp [keys]) ?_
  (conv => whnf); repeat ((first | (refine And.intro ?_ ?_; focus exact Cl3) | refine Both.T (by exact rfl) ?_ | refine Both.F (by exact rfl) ?_ | refine Both.GT (by exact rfl) (by exact rfl) ?_ | refine Both.GF (by exact rfl) ?_ | refine Both.GN (by exact rfl) ?_); conv => whnf)
  refine takeB_spec t _ ?_
  (conv => whnf); repeat ((first | (refine And.intro ?_ ?_; focus exact Cl3) | refine Both.T (by exact rfl) ?_ | refine Both.F (by exact rfl) ?_ | refine Both.GT (by exact rfl) (by exact rfl) ?_ | refine Both.GF (by exact rfl) ?_ | refine Both.GN (by exact rfl) ?_); conv => whnf)
  exact h
theorem parseC_spec (t : Bool) (Post : PV → List (Nat × Blk) → Prop) (h : Post (.tup [zeroE, .int .i64 4]) []) :
    Spec K 11 [.sl 1 (bs [1, 14, 3, 0]) t true] [] Post := by
  refine is11.specW K_ok K_mix false (by simp) (by simp [keys]) ?_
  (conv => whnf); repeat ((first | (refine And.intro ?_ ?_; focus exact Cl3) | refine Both.T (by exact rfl) ?_ | refine Both.F (by exact rfl) ?_ | refine Both.GT (by exact rfl) (by exact rfl) ?_ | refine Both.GF (by exact rfl) ?_ | refine Both.GN (by exact rfl) ?_); conv => whnf)
  refine takeC_spec t _ fun z hz => ?_
  (conv => whnf); repeat ((first | (refine And.intro ?_ ?_; focus exact Cl3) | refine Both.T (by exact rfl) ?_ | refine Both.F (by exact rfl) ?_ | refine Both.GT (by exact rfl) (by exact rfl) ?_ | refine Both.GF (by exact rfl) ?_ | refine Both.GN (by exact rfl) ?_); conv => whnf)
  exact h
end Go.Vc
