/- What is proved here: contracts of functions of the program: of each function what it hands back and what it leaves in memory. Conditions: those that each theorem names. -/
import Derived.Test.YtmbopgmllnijjaaCa
import Derived.Test.YtmbopgmllnijjaaC0
import Derived.Test.YtmbopgmllnijjaaFx
set_option linter.unusedVariables false
set_option linter.unusedSimpArgs false
set_option linter.unusedSectionVars false
namespace Go.Vc
open Go Go.Proofs
set_option maxRecDepth 100000
def verP (b : List UInt8) : Except Int (Unit × List UInt8) := bindP (numP 1 256 b) fun n b => if n = 1 then .ok ((), b) else .error 4
def valsP (b : List UInt8) : Except Int (List V × List UInt8) := bindP (numP 2 256 b) fun n b => listG takeV n.toNat b
def funsP (b : List UInt8) : Except Int (List FD × List UInt8) := bindP (numP 1 16 b) fun n b => listG funP n.toNat b
def partsP (b : List UInt8) : Except Int ((List V × List FD) × List UInt8) := bindP (verP b) fun _ b => bindP (valsP b) fun cs b => bindP (funsP b) fun fs b => .ok ((cs, fs), b)
/-- What Parse answers. -/
def progP (b : List UInt8) : Except Int PG :=
  match partsP b with
  | .error e => .error e
  | .ok ((cs, fs), r) => if r ≠ [] then .error 4 else if chkM ⟨fs, cs⟩ ≠ 0 then .error (chkM ⟨fs, cs⟩) else .ok ⟨fs, cs⟩
set_option maxHeartbeats 16000000 in
theorem parse_spec (hF : FitsC) (b : List UInt8) (z : Nat) (t : Bool) (hz : z = 1 ∨ b = []) (hb : b.length ≤ 100000000) (Post : PV → List (Nat × Blk) → Prop)
    (h0 : ∀ e, progP b = .error e → e ≠ 0 → Post (.tup [.agg [.sl 0 [] false true, .sl 0 [] false true], .int .i64 e]) [])
    (h1 : ∀ p lf lc z1 z2, progP b = .ok p → PGA p z1 lf z2 lc → Post (.tup [.agg (pgc z1 lf false z2 lc false), .int .i64 0]) []) : Spec K 30 [.sl z (bs b) t true] [] Post := by
  refine is30.specC [18, 48, 56, 67] K_ok K_mix false (by simp) (by simp [keys]) ?_
  (conv => whnf); repeat ((first | (refine And.intro ?_ ?_; focus exact Cl4) | refine Both.T (by exact rfl) ?_ | refine Both.F (by exact rfl) ?_ | refine Both.GT (by exact rfl) (by exact rfl) ?_ | refine Both.GF (by exact rfl) ?_ | refine Both.GN (by exact rfl) ?_); conv => whnf)
  refine num_m z b t 0 1 256 (by decide) (by decide) hz (by omega) _ (fun n1 b1 e1 o1 p1 q1 hb1 hz1 _ t1 => ?_)
  have hver : ∃ e2, OutN (verP b) () b1 e2 ∧ e2 = (if e1 = 0 ∧ n1 ≠ 1 then 4 else e1) := by
    refine ⟨_, ?_, rfl⟩
    unfold verP
    refine OutN.bind o1 ?_
    by_cases he : e1 = 0
    · subst he
      rw [lift0]
      by_cases hn : n1 = 1
      · subst hn; exact .inl ⟨rfl, rfl⟩
      · rw [if_neg hn, if_pos ⟨rfl, hn⟩]; exact .inr ⟨rfl, by decide⟩
    · rw [liftE he, if_neg (fun h => he h.1)]; exact .inr ⟨rfl, he⟩
  obtain ⟨e2, o2, he2⟩ := hver
  (conv => whnf); repeat ((first | (refine And.intro ?_ ?_; focus exact Cl4) | refine Both.T (by exact rfl) ?_ | refine Both.F (by exact rfl) ?_ | refine Both.GT (by exact rfl) (by exact rfl) ?_ | refine Both.GF (by exact rfl) ?_ | refine Both.GN (by exact rfl) ?_); conv => whnf)
  refine ⟨Unit, fun _ => ⟨73, [(4, .ptr 1 0), (5, .ptr 2 0), (2, .ptr 0 0)], [(1, .box [.sl z (bs b1) t1 true, .int .i64 e2]), (2, .box [.sl 0 [] true false, .sl 0 [] true false]), (0, .box [.sl 0 [] true false, .sl 0 [] true false])], []⟩, fun _ => True, ?_, fun _ _ => ?_⟩
  · by_cases hc : e1 = 0 ∧ n1 ≠ 1
    · rw [if_pos hc] at he2
      obtain ⟨rfl, hn⟩ := hc
      subst he2
      refine Both.T (by simp [hn]) ?_
      (conv => whnf); repeat ((first | (refine And.intro ?_ ?_; focus exact Cl4) | refine Both.T (by exact rfl) ?_ | refine Both.F (by exact rfl) ?_ | refine Both.GT (by exact rfl) (by exact rfl) ?_ | refine Both.GF (by exact rfl) ?_ | refine Both.GN (by exact rfl) ?_); conv => whnf)
      refine ⟨[], (), trivial, ?_⟩
      simp [meets, ghosts, St.le, St.get, look, keys, PV.labs, labsL, lookB, Blk.labs]
    · rw [if_neg hc] at he2
      subst he2
      refine Both.F (by
        by_cases hn : n1 = 1
        · simp [hn]
        · have : e2 ≠ 0 := fun h => hc ⟨h, hn⟩
          simp [this]) ?_
      (conv => whnf); repeat ((first | (refine And.intro ?_ ?_; focus exact Cl4) | refine Both.T (by exact rfl) ?_ | refine Both.F (by exact rfl) ?_ | refine Both.GT (by exact rfl) (by exact rfl) ?_ | refine Both.GF (by exact rfl) ?_ | refine Both.GN (by exact rfl) ?_); conv => whnf)
      refine ⟨[], (), trivial, ?_⟩
      simp [meets, ghosts, St.le, St.get, look, keys, PV.labs, labsL, lookB, Blk.labs]
  conv => (arg 4; dsimp only)
  (conv => whnf); repeat ((first | (refine And.intro ?_ ?_; focus exact Cl4) | refine Both.T (by exact rfl) ?_ | refine Both.F (by exact rfl) ?_ | refine Both.GT (by exact rfl) (by exact rfl) ?_ | refine Both.GF (by exact rfl) ?_ | refine Both.GN (by exact rfl) ?_); conv => whnf)
  refine num_m z b1 t1 e2 2 256 (by decide) (by decide) hz1 (by omega) _ (fun n3 b3 e3 o3 p3 q3 hb3 hz3 _ t3 => ?_)
  obtain ⟨k3, rfl⟩ : ∃ k : Nat, n3 = k := ⟨n3.toNat, by omega⟩
  (conv => whnf); repeat ((first | (refine And.intro ?_ ?_; focus exact Cl4) | refine Both.T (by exact rfl) ?_ | refine Both.F (by exact rfl) ?_ | refine Both.GT (by exact rfl) (by exact rfl) ?_ | refine Both.GF (by exact rfl) ?_ | refine Both.GN (by exact rfl) ?_); conv => whnf)
  refine values_m z b3 t3 e3 k3 (by omega) hz3 (by omega) _ (fun cs lc b4 e4 o4 hl4 hcs hcb hb4 zc z4 t4 hzc hz4 => ?_)
  (conv => whnf); repeat ((first | (refine And.intro ?_ ?_; focus exact Cl4) | refine Both.T (by exact rfl) ?_ | refine Both.F (by exact rfl) ?_ | refine Both.GT (by exact rfl) (by exact rfl) ?_ | refine Both.GF (by exact rfl) ?_ | refine Both.GN (by exact rfl) ?_); conv => whnf)
  refine num_m z4 b4 t4 e4 1 16 (by decide) (by decide) hz4 (by omega) _ (fun n5 b5 e5 o5 p5 q5 hb5 hz5 _ t5 => ?_)
  obtain ⟨k5, rfl⟩ : ∃ k : Nat, n5 = k := ⟨n5.toNat, by omega⟩
  (conv => whnf); repeat ((first | (refine And.intro ?_ ?_; focus exact Cl4) | refine Both.T (by exact rfl) ?_ | refine Both.F (by exact rfl) ?_ | refine Both.GT (by exact rfl) (by exact rfl) ?_ | refine Both.GF (by exact rfl) ?_ | refine Both.GN (by exact rfl) ?_); conv => whnf)
  refine funs_m z4 b5 t5 e5 k5 (by omega) hz5 (by omega) _ (fun fs lf b6 e6 o6 hl6 hfs hfb hb6 hz6 zf t6 hzf => ?_)
  have hparts : OutN (partsP b) (cs, fs) b6 e6 := by
    unfold partsP
    refine o2.bind ?_
    rw [lift_bind]
    refine OutN.bind (a := cs) (b1 := b4) (e1 := e4) ?_ ?_
    · unfold valsP
      rw [lift_bind]
      exact o3.bind (by rw [Int.toNat_natCast]; exact o4)
    · rw [lift_bind]
      refine OutN.bind (a := fs) (b1 := b6) (e1 := e6) ?_ (.ret _ _ _)
      unfold funsP
      rw [lift_bind]
      exact o5.bind (by rw [Int.toNat_natCast]; exact o6)
  have hp : PGA ⟨fs, cs⟩ zf lf zc lc := ⟨hfs, hcs, hzf, hzc, by show fs.length ≤ _; omega, by show cs.length ≤ _; omega, hfb, fun v hv => ⟨(hcb v hv).1, by have := (hcb v hv).2; omega⟩⟩
  obtain ⟨e7, he7⟩ : ∃ e7, e7 = if e6 = 0 ∧ b6 ≠ [] then 4 else e6 := ⟨_, rfl⟩
  obtain ⟨e8, he8⟩ : ∃ e8, e8 = if e7 = 0 then chkM ⟨fs, cs⟩ else e7 := ⟨_, rfl⟩
  have hprog : (e8 ≠ 0 → progP b = .error e8) ∧ (e8 = 0 → progP b = .ok ⟨fs, cs⟩) := by
    unfold progP
    by_cases h6 : e6 = 0
    · subst h6
      rw [hparts.ok]
      by_cases hb6e : b6 = []
      · rw [if_neg (fun h => h.2 hb6e)] at he7
        subst he7
        rw [if_pos rfl] at he8
        subst he8
        dsimp only
        rw [if_neg (fun h => h hb6e)]
        exact ⟨fun h => if_pos h, fun h => if_neg (fun hc => hc h)⟩
      · rw [if_pos ⟨rfl, hb6e⟩] at he7
        subst he7
        rw [if_neg (by decide)] at he8
        subst he8
        dsimp only
        rw [if_pos hb6e]
        exact ⟨fun _ => rfl, fun h => by cases h⟩
    · rw [hparts.err h6]
      rw [if_neg (fun h => h6 h.1)] at he7
      subst he7
      rw [if_neg h6] at he8
      subst he8
      exact ⟨fun _ => rfl, fun h => absurd h h6⟩
  (conv => whnf); repeat ((first | (refine And.intro ?_ ?_; focus exact Cl4) | refine Both.T (by exact rfl) ?_ | refine Both.F (by exact rfl) ?_ | refine Both.GT (by exact rfl) (by exact rfl) ?_ | refine Both.GF (by exact rfl) ?_ | refine Both.GN (by exact rfl) ?_); conv => whnf)
  refine ⟨Unit, fun _ => ⟨73, [(4, .ptr 1 0), (5, .ptr 2 0), (2, .ptr 0 0)], [(1, .box [.sl z4 (bs b6) t6 true, .int .i64 e7]), (2, .box [.sl zf lf false true, .sl zc lc false true]), (0, .box [.sl 0 [] true false, .sl 0 [] true false])], []⟩, fun _ => True, ?_, fun _ _ => ?_⟩
  · rw [bs_len]
    by_cases hc : e6 = 0 ∧ b6 ≠ []
    · rw [if_pos hc] at he7
      obtain ⟨rfl, hn⟩ := hc
      have hpos : 0 < b6.length := List.length_pos_iff.2 hn
      rw [decide_eq_true (show (0 : Int) < (b6.length : Int) by omega)]
      (conv => whnf); repeat ((first | (refine And.intro ?_ ?_; focus exact Cl4) | refine Both.T (by exact rfl) ?_ | refine Both.F (by exact rfl) ?_ | refine Both.GT (by exact rfl) (by exact rfl) ?_ | refine Both.GF (by exact rfl) ?_ | refine Both.GN (by exact rfl) ?_); conv => whnf)
      refine ⟨[], (), trivial, ?_⟩
      subst he7
      simp [meets, ghosts, St.le, St.get, look, keys, PV.labs, labsL, lookB, Blk.labs]
    · rw [if_neg hc] at he7
      refine Both.F (by
        by_cases h6 : e6 = 0
        · have : b6 = [] := by
            by_cases hbe : b6 = []
            · exact hbe
            · exact absurd ⟨h6, hbe⟩ hc
          subst this
          simp
        · simp [h6]) ?_
      (conv => whnf); repeat ((first | (refine And.intro ?_ ?_; focus exact Cl4) | refine Both.T (by exact rfl) ?_ | refine Both.F (by exact rfl) ?_ | refine Both.GT (by exact rfl) (by exact rfl) ?_ | refine Both.GF (by exact rfl) ?_ | refine Both.GN (by exact rfl) ?_); conv => whnf)
      refine ⟨[], (), trivial, ?_⟩
      subst he7
      simp [meets, ghosts, St.le, St.get, look, keys, PV.labs, labsL, lookB, Blk.labs]
  conv => (arg 4; dsimp only)
  (conv => whnf); repeat ((first | (refine And.intro ?_ ?_; focus exact Cl4) | refine Both.T (by exact rfl) ?_ | refine Both.F (by exact rfl) ?_ | refine Both.GT (by exact rfl) (by exact rfl) ?_ | refine Both.GF (by exact rfl) ?_ | refine Both.GN (by exact rfl) ?_); conv => whnf)
  refine ⟨Unit, fun _ => ⟨73, [(4, .ptr 1 0), (5, .ptr 2 0), (2, .ptr 0 0)], [(1, .box [.sl z4 (bs b6) t6 true, .int .i64 e8]), (2, .box [.sl zf lf false true, .sl zc lc false true]), (0, .box [.sl 0 [] true false, .sl 0 [] true false])], []⟩, fun _ => True, ?_, fun _ _ => ?_⟩
  · by_cases h7 : e7 = 0
    · rw [if_pos h7] at he8
      refine Both.T (by simp [h7]) ?_
      (conv => whnf); repeat ((first | (refine And.intro ?_ ?_; focus exact Cl4) | refine Both.T (by exact rfl) ?_ | refine Both.F (by exact rfl) ?_ | refine Both.GT (by exact rfl) (by exact rfl) ?_ | refine Both.GF (by exact rfl) ?_ | refine Both.GN (by exact rfl) ?_); conv => whnf)
      refine chk_spec hF ⟨fs, cs⟩ zf lf _ zc lc _ hp _ ?_
      (conv => whnf); repeat ((first | (refine And.intro ?_ ?_; focus exact Cl4) | refine Both.T (by exact rfl) ?_ | refine Both.F (by exact rfl) ?_ | refine Both.GT (by exact rfl) (by exact rfl) ?_ | refine Both.GF (by exact rfl) ?_ | refine Both.GN (by exact rfl) ?_); conv => whnf)
      refine ⟨[], (), trivial, ?_⟩
      rw [← he8]
      simp [meets, ghosts, St.le, St.get, look, keys, PV.labs, labsL, lookB, Blk.labs]
    · rw [if_neg h7] at he8
      refine Both.F (by simp [h7]) ?_
      (conv => whnf); repeat ((first | (refine And.intro ?_ ?_; focus exact Cl4) | refine Both.T (by exact rfl) ?_ | refine Both.F (by exact rfl) ?_ | refine Both.GT (by exact rfl) (by exact rfl) ?_ | refine Both.GF (by exact rfl) ?_ | refine Both.GN (by exact rfl) ?_); conv => whnf)
      refine ⟨[], (), trivial, ?_⟩
      subst he8
      simp [meets, ghosts, St.le, St.get, look, keys, PV.labs, labsL, lookB, Blk.labs]
  conv => (arg 4; dsimp only)
  (conv => whnf); repeat ((first | (refine And.intro ?_ ?_; focus exact Cl4) | refine Both.T (by exact rfl) ?_ | refine Both.F (by exact rfl) ?_ | refine Both.GT (by exact rfl) (by exact rfl) ?_ | refine Both.GF (by exact rfl) ?_ | refine Both.GN (by exact rfl) ?_); conv => whnf)
  by_cases h8 : e8 = 0
  · refine Both.F (by simp [h8]) ?_
    (conv => whnf); repeat ((first | (refine And.intro ?_ ?_; focus exact Cl4) | refine Both.T (by exact rfl) ?_ | refine Both.F (by exact rfl) ?_ | refine Both.GT (by exact rfl) (by exact rfl) ?_ | refine Both.GF (by exact rfl) ?_ | refine Both.GN (by exact rfl) ?_); conv => whnf)
    exact h1 ⟨fs, cs⟩ lf lc zf zc (hprog.2 h8) hp
  · refine Both.T (by simp [h8]) ?_
    (conv => whnf); repeat ((first | (refine And.intro ?_ ?_; focus exact Cl4) | refine Both.T (by exact rfl) ?_ | refine Both.F (by exact rfl) ?_ | refine Both.GT (by exact rfl) (by exact rfl) ?_ | refine Both.GF (by exact rfl) ?_ | refine Both.GN (by exact rfl) ?_); conv => whnf)
    refine ⟨Unit, fun _ => ⟨73, [(3, .int .i64 e8), (2, .ptr 0 0)], [(0, .box [.sl 0 [] true false, .sl 0 [] true false])], []⟩, fun _ => True, ?_, fun _ _ => ?_⟩
    · (conv => whnf); repeat' (first | ((first | (refine And.intro ?_ ?_; focus exact Cl4) | refine Both.T (by exact rfl) ?_ | refine Both.F (by exact rfl) ?_ | refine Both.GT (by exact rfl) (by exact rfl) ?_ | refine Both.GF (by exact rfl) ?_ | refine Both.GN (by exact rfl) ?_); conv => whnf) | (fail; conv => whnf) | ((refine Both.mk ?_ ?_ <;> fail_if_success (intro _)) <;> conv => whnf))
      all_goals (
        refine ⟨[], (), trivial, ?_⟩
        simp [meets, ghosts, St.le, St.get, look, keys, PV.labs, labsL, lookB, Blk.labs])
    conv => (arg 4; dsimp only)
    (conv => whnf); repeat ((first | (refine And.intro ?_ ?_; focus exact Cl4) | refine Both.T (by exact rfl) ?_ | refine Both.F (by exact rfl) ?_ | refine Both.GT (by exact rfl) (by exact rfl) ?_ | refine Both.GF (by exact rfl) ?_ | refine Both.GN (by exact rfl) ?_); conv => whnf)
    exact h0 e8 (hprog.1 h8) h8
end Go.Vc
