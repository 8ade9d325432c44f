/- What is proved here: contracts of functions of the program: of each function what it hands back and what it leaves in memory. Conditions: those that each theorem names. -/
import Derived.Test.YtmbopgmllnijjaaQm
set_option linter.unusedVariables false
set_option linter.unusedSimpArgs false
set_option linter.unusedSectionVars false
namespace Go.Vc
open Go Go.Proofs
set_option maxRecDepth 100000
/-! The chapter's functions: works. -/
def ofP (c : List IN) : PG := ⟨[⟨[109, 97, 105, 110], 0, 0, c⟩], [.mk 1 1 [] [] []]⟩
theorem is_spec (a b : Int) (Post : PV → List (Nat × Blk) → Prop) (h : Post (INP ⟨a, b, 0⟩) []) : Spec K 21 [.int .i64 a, .int .i64 b] [] Post := by
  refine is21.specW K_ok K_mix false (by simp) (by simp [keys]) ?_
  (conv => whnf); repeat ((first | (refine And.intro ?_ ?_; focus exact Cl4) | refine Both.T (by exact rfl) ?_ | refine Both.F (by exact rfl) ?_ | refine Both.GT (by exact rfl) (by exact rfl) ?_ | refine Both.GF (by exact rfl) ?_ | refine Both.GN (by exact rfl) ?_); conv => whnf)
  (conv => whnf); repeat' (first | ((first | (refine And.intro ?_ ?_; focus exact Cl4) | refine Both.T (by exact rfl) ?_ | refine Both.F (by exact rfl) ?_ | refine Both.GT (by exact rfl) (by exact rfl) ?_ | refine Both.GF (by exact rfl) ?_ | refine Both.GN (by exact rfl) ?_); conv => whnf) | (fail; conv => whnf) | ((refine Both.mk ?_ ?_ <;> fail_if_success (intro _)) <;> conv => whnf))
  all_goals exact h
theorem of_spec (c : List IN) (z : Nat) (t : Bool) (hz : z = 3 ∨ c = []) (hl : c.length ≤ 100) (hi : ∀ x ∈ c, i64 x.op ∧ i64 x.a ∧ i64 x.b) (Post : PV → List (Nat × Blk) → Prop)
    (h : ∀ zf lf tf zc lc tc, PGA (ofP c) zf lf zc lc → Post (.agg (pgc zf lf tf zc lc tc)) []) : Spec K 26 [.sl z (c.map INP) t true] [] Post := by
  refine is26.specW K_ok K_mix false (by simp) (by simp [keys]) ?_
  (conv => whnf); repeat ((first | (refine And.intro ?_ ?_; focus exact Cl4) | refine Both.T (by exact rfl) ?_ | refine Both.F (by exact rfl) ?_ | refine Both.GT (by exact rfl) (by exact rfl) ?_ | refine Both.GF (by exact rfl) ?_ | refine Both.GN (by exact rfl) ?_); conv => whnf)
  (conv => whnf); repeat' (first | ((first | (refine And.intro ?_ ?_; focus exact Cl4) | refine Both.T (by exact rfl) ?_ | refine Both.F (by exact rfl) ?_ | refine Both.GT (by exact rfl) (by exact rfl) ?_ | refine Both.GF (by exact rfl) ?_ | refine Both.GN (by exact rfl) ?_); conv => whnf) | (fail; conv => whnf) | ((refine Both.mk ?_ ?_ <;> fail_if_success (intro _)) <;> conv => whnf))
  all_goals exact h 4 _ false 5 _ false ⟨⟨_, [], rfl, ⟨z, t, true, rfl, hz⟩, rfl⟩, ⟨_, [], rfl, ⟨0, [], true, false, 0, true, false, rfl, rfl, .inr rfl, .inr rfl, by unfold i64; decide⟩, rfl⟩, .inl rfl, .inl rfl, (by decide : (1 : Nat) ≤ 1000000000), (by decide : (1 : Nat) ≤ 1000000000),
    fun f hf => by
      obtain rfl := List.mem_singleton.1 hf
      exact ⟨(by decide : (4 : Nat) ≤ 1000000000), (show i64 0 by unfold i64; decide), (show i64 0 by unfold i64; decide), Nat.le_trans hl (by decide), hi⟩,
    fun v hv => by
      obtain rfl := List.mem_singleton.1 hv
      exact ⟨by unfold i64; decide, by decide⟩⟩
structure HOk (p : PG) (w : List Int) (pl : PL) : Prop where
  ok : verM p 0 = .ok pl
  len : pl.length = w.length
  at_ : ∀ i, i < w.length → (PL.at pl i).isSome = decide (0 ≤ w.getD i 0) ∧ ((PL.at pl i).getD ⟨0, []⟩).h = max (w.getD i 0) 0
  all : progM p = 0
theorem mx0 (a : Int) : (max a 0 != if 0 > a then 0 else a) = false := by
  have : (if 0 > a then 0 else a) = max a 0 := by split <;> omega
  rw [this, bne_self_eq_false]
def ints (w : List Int) : List PV := w.map (PV.int .i64)
theorem ints_nth {w : List Int} {i : Nat} (h : i < w.length) : nth (ints w) i = .int .i64 (w.getD i 0) := by
  unfold nth ints
  rw [List.getD_eq_getElem?_getD, List.getElem?_map, List.getElem?_eq_getElem h, List.getD_eq_getElem?_getD, List.getElem?_eq_getElem h]; rfl
set_option maxHeartbeats 16000000 in
theorem heights_spec (hF : FitsC) (p : PG) (w : List Int) (pl : PL) (zw : Nat) (tw : Bool) (hzw : zw = 1 ∨ w = []) (hw : w.length ≤ 1000) (zf : Nat) (lf : List PV) (tf : Bool) (zc : Nat) (lc : List PV) (tc : Bool) (hp : PGA p zf lf zc lc) (hk : HOk p w pl) (Post : PV → List (Nat × Blk) → Prop)
    (h : Post (.bool true) []) : Spec K 25 [.agg (pgc zf lf tf zc lc tc), .sl zw (ints w) tw true] [] Post := by
  refine is25.specW K_ok K_mix false (by simp) (by simp [keys]) ?_
  have hwl : (ints w).length = w.length := List.length_map _
  have hz2 : zw = 1 ∨ ints w = [] := hzw.imp id fun e => by rw [e]; rfl
  (conv => whnf); repeat ((first | (refine And.intro ?_ ?_; focus exact Cl4) | refine Both.T (by exact rfl) ?_ | refine Both.F (by exact rfl) ?_ | refine Both.GT (by exact rfl) (by exact rfl) ?_ | refine Both.GF (by exact rfl) ?_ | refine Both.GN (by exact rfl) ?_); conv => whnf)
  refine verf_spec hF p 0 zf lf tf zc lc tc hp _ (fun e he => ?_) (fun pl' L he hWs => ?_)
  · rw [hk.ok] at he; cases he
  rw [hk.ok] at he
  cases he
  have hLl := hWs.len
  have hpl := hk.len
  (conv => whnf); repeat ((first | (refine And.intro ?_ ?_; focus exact Cl4) | refine Both.T (by exact rfl) ?_ | refine Both.F (by exact rfl) ?_ | refine Both.GT (by exact rfl) (by exact rfl) ?_ | refine Both.GF (by exact rfl) ?_ | refine Both.GN (by exact rfl) ?_); conv => whnf)
  rw [hLl, hwl, hpl]
  refine Both.F (by simp) ?_
  (conv => whnf); repeat ((first | (refine And.intro ?_ ?_; focus exact Cl4) | refine Both.T (by exact rfl) ?_ | refine Both.F (by exact rfl) ?_ | refine Both.GT (by exact rfl) (by exact rfl) ?_ | refine Both.GF (by exact rfl) ?_ | refine Both.GN (by exact rfl) ?_); conv => whnf)
  refine ⟨Nat, fun i => ⟨55, [(7, .int .i64 i), (5, .sl 3 L false true), (4, .bool false), (2, .ptr 0 0), (1, .sl zw (ints w) tw true)], [(0, .box (pgc zf lf tf zc lc tc))], []⟩, fun i => i ≤ w.length, fun i => w.length - i, ⟨[], 0, Nat.zero_le _, ?_⟩, fun i hi => ?_⟩
  · simp [meets, ghosts, St.le, St.get, look, keys, PV.labs, labsL, lookB, Blk.labs]
    done
  · conv => (arg 5; dsimp only)
    (conv => whnf); repeat ((first | (refine And.intro ?_ ?_; focus exact Cl4) | refine Both.T (by exact rfl) ?_ | refine Both.F (by exact rfl) ?_ | refine Both.GT (by exact rfl) (by exact rfl) ?_ | refine Both.GF (by exact rfl) ?_ | refine Both.GN (by exact rfl) ?_); conv => whnf)
    rw [hLl, hpl]
    by_cases hix : i < w.length
    · rw [decide_eq_true (show (i : Int) < (w.length : Int) by omega)]
      (conv => whnf); repeat ((first | (refine And.intro ?_ ?_; focus exact Cl4) | refine Both.T (by exact rfl) ?_ | refine Both.F (by exact rfl) ?_ | refine Both.GT (by exact rfl) (by exact rfl) ?_ | refine Both.GF (by exact rfl) ?_ | refine Both.GN (by exact rfl) ?_); conv => whnf)
      have hr := hWs.at_ i (by omega)
      obtain ⟨ha, hh⟩ := hk.at_ i hix
      have hnw := ints_nth hix
      have hopen : ∃ b X, nth L i = .agg [.bool b, .int .i64 (max (w.getD i 0) 0), X] ∧ decide (0 ≤ w.getD i 0) = b := by
        cases hq : PL.at pl i with
        | none =>
          rw [hq] at hr ha hh
          obtain ⟨y, u, o, hr⟩ := hr
          exact ⟨false, .sl y [] u o, by rw [← hh]; exact hr, ha.symm⟩
        | some s =>
          rw [hq] at hr ha hh
          obtain ⟨y, u, o, hr, _⟩ := hr
          exact ⟨true, .sl y (tps s.ts) u o, by rw [← hh]; exact hr, ha.symm⟩
      obtain ⟨b, X, hq, hD⟩ := hopen
      rw [← Int.toNat_natCast i] at hq hnw hD
      cases b
      all_goals (
        (conv => whnf); repeat' (first | ((first | (refine And.intro ?_ ?_; focus exact Cl4) | refine Both.T (by exact rfl) ?_ | refine Both.F (by exact rfl) ?_ | refine Both.GT (by exact rfl) (by exact rfl) ?_ | refine Both.GF (by exact rfl) ?_ | refine Both.GN (by exact rfl) ?_); conv => whnf) | (rw [hq]; conv => whnf) | (rw [hnw]; conv => whnf) | (rw [hD]; conv => whnf) | (rw [bne_self_eq_false]; conv => whnf) | ((refine Both.mk ?_ ?_ <;> fail_if_success (intro _)) <;> conv => whnf))
        all_goals (
          refine Both.F (by exact mx0 _) ?_
          (conv => whnf); repeat ((first | (refine And.intro ?_ ?_; focus exact Cl4) | refine Both.T (by exact rfl) ?_ | refine Both.F (by exact rfl) ?_ | refine Both.GT (by exact rfl) (by exact rfl) ?_ | refine Both.GF (by exact rfl) ?_ | refine Both.GN (by exact rfl) ?_); conv => whnf)
          rw [wrap64 (n := (i : Int) + 1) (by omega) (by omega)]
          refine ⟨[], i + 1, by show i + 1 ≤ w.length; omega, by show w.length - (i + 1) < w.length - i; omega, ?_⟩
          simp [meets, ghosts, St.le, St.get, look, keys, PV.labs, labsL, lookB, Blk.labs]))
    · obtain rfl : i = w.length := by omega
      rw [decide_eq_false (show ¬ (w.length : Int) < (w.length : Int) by omega)]
      (conv => whnf); repeat ((first | (refine And.intro ?_ ?_; focus exact Cl4) | refine Both.T (by exact rfl) ?_ | refine Both.F (by exact rfl) ?_ | refine Both.GT (by exact rfl) (by exact rfl) ?_ | refine Both.GF (by exact rfl) ?_ | refine Both.GN (by exact rfl) ?_); conv => whnf)
      refine prog_spec hF p zf lf tf zc lc tc hp _ ?_
      rw [hk.all]
      (conv => whnf); repeat ((first | (refine And.intro ?_ ?_; focus exact Cl4) | refine Both.T (by exact rfl) ?_ | refine Both.F (by exact rfl) ?_ | refine Both.GT (by exact rfl) (by exact rfl) ?_ | refine Both.GF (by exact rfl) ?_ | refine Both.GN (by exact rfl) ?_); conv => whnf)
      exact h
set_option maxHeartbeats 16000000 in
theorem refused_spec (hF : FitsC) (c : List IN) (z : Nat) (t : Bool) (hz : z = 3 ∨ c = []) (hl : c.length ≤ 100) (hi : ∀ x ∈ c, i64 x.op ∧ i64 x.a ∧ i64 x.b) (hv : verM (ofP c) 0 = .error 170) (hpr : progM (ofP c) = 170) (Post : PV → List (Nat × Blk) → Prop)
    (h : Post (.bool true) []) : Spec K 24 [.sl z (c.map INP) t true] [] Post := by
  refine is24.specW K_ok K_mix false (by simp) (by simp [keys]) ?_
  (conv => whnf); repeat ((first | (refine And.intro ?_ ?_; focus exact Cl4) | refine Both.T (by exact rfl) ?_ | refine Both.F (by exact rfl) ?_ | refine Both.GT (by exact rfl) (by exact rfl) ?_ | refine Both.GF (by exact rfl) ?_ | refine Both.GN (by exact rfl) ?_); conv => whnf)
  refine of_spec c z t hz hl hi _ (fun zf lf tf zc lc tc hp => ?_)
  (conv => whnf); repeat ((first | (refine And.intro ?_ ?_; focus exact Cl4) | refine Both.T (by exact rfl) ?_ | refine Both.F (by exact rfl) ?_ | refine Both.GT (by exact rfl) (by exact rfl) ?_ | refine Both.GF (by exact rfl) ?_ | refine Both.GN (by exact rfl) ?_); conv => whnf)
  refine verf_spec hF (ofP c) 0 zf lf tf zc lc tc hp _ (fun e he => ?_) (fun pl L he hWs => ?_)
  · rw [hv] at he
    cases he
    (conv => whnf); repeat ((first | (refine And.intro ?_ ?_; focus exact Cl4) | refine Both.T (by exact rfl) ?_ | refine Both.F (by exact rfl) ?_ | refine Both.GT (by exact rfl) (by exact rfl) ?_ | refine Both.GF (by exact rfl) ?_ | refine Both.GN (by exact rfl) ?_); conv => whnf)
    refine of_spec c z t hz hl hi _ (fun zf lf tf zc lc tc hp => ?_)
    (conv => whnf); repeat ((first | (refine And.intro ?_ ?_; focus exact Cl4) | refine Both.T (by exact rfl) ?_ | refine Both.F (by exact rfl) ?_ | refine Both.GT (by exact rfl) (by exact rfl) ?_ | refine Both.GF (by exact rfl) ?_ | refine Both.GN (by exact rfl) ?_); conv => whnf)
    refine prog_spec hF (ofP c) zf lf tf zc lc tc hp _ ?_
    rw [hpr]
    (conv => whnf); repeat ((first | (refine And.intro ?_ ?_; focus exact Cl4) | refine Both.T (by exact rfl) ?_ | refine Both.F (by exact rfl) ?_ | refine Both.GT (by exact rfl) (by exact rfl) ?_ | refine Both.GF (by exact rfl) ?_ | refine Both.GN (by exact rfl) ?_); conv => whnf)
    exact h
  · rw [hv] at he; cases he
end Go.Vc
namespace Go.Vc
open Go Go.Proofs
set_option maxRecDepth 100000
def wTried : List IN := [⟨26, 4, 0⟩, ⟨1, 0, 0⟩, ⟨27, 0, 0⟩, ⟨30, 0, 0⟩, ⟨30, 0, 0⟩]
def wOne : List IN := [⟨1, 0, 0⟩, ⟨30, 0, 0⟩]
def wPop : List IN := [⟨4, 0, 0⟩, ⟨30, 0, 0⟩]
def wAll : List IN := [⟨1, 0, 0⟩, ⟨30, 0, 0⟩, ⟨4, 0, 0⟩]
def lTried : PL := [some ⟨0, []⟩, some ⟨0, [(4, 0)]⟩, some ⟨1, [(4, 0)]⟩, some ⟨1, []⟩, some ⟨1, []⟩]
theorem w1 : verM (ofP wTried) 0 = .ok lTried := by rfl
theorem w1p : progM (ofP wTried) = 0 := by rfl
theorem w2 : verM (ofP wOne) 0 = .ok [some ⟨0, []⟩, some ⟨1, []⟩] := by rfl
theorem w2p : progM (ofP wOne) = 0 := by rfl
theorem w3 : verM (ofP wPop) 0 = .error 170 := by rfl
theorem w3p : progM (ofP wPop) = 170 := by rfl
theorem w4 : verM (ofP wAll) 0 = .ok [some ⟨0, []⟩, some ⟨1, []⟩, none] := by rfl
theorem w4p : progM (ofP wAll) = 0 := by rfl
theorem h1 : HOk (ofP wTried) [0, 0, 1, 1, 1] lTried := ⟨w1, rfl, by decide, w1p⟩
theorem h2 : HOk (ofP wOne) [0, 1] [some ⟨0, []⟩, some ⟨1, []⟩] := ⟨w2, rfl, by decide, w2p⟩
theorem h4 : HOk (ofP wAll) [0, 1, -1] [some ⟨0, []⟩, some ⟨1, []⟩, none] := ⟨w4, rfl, by decide, w4p⟩
end Go.Vc
