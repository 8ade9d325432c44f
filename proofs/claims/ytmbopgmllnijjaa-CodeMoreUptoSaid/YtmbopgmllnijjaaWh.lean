/- What is proved here: contracts of functions of the program: of each function what it hands back and what it leaves in memory. Conditions: those that each theorem names. -/
import Derived.Test.YtmbopgmllnijjaaWg
import Derived.Test.YtmbopgmllnijjaaWc
import Derived.Test.YtmbopgmllnijjaaFx
set_option linter.unusedVariables false
set_option linter.unusedSimpArgs false
set_option linter.unusedSectionVars false
namespace Go.Vc
open Go Go.Proofs
set_option maxRecDepth 100000
theorem sclone_spec (a : List UInt8) (z : Nat) (t : Bool) (ha : a.length ≤ 1000000000) (Post : PV → List (Nat × Blk) → Prop) (h : ∀ z, (z = 1 ∨ a = []) → Post (.sl z (bs a) false true) []) : Spec K 93 [.sl z (bs a) t true] [] Post := by
  refine is93.specW K_ok K_mix false (by simp) (by simp [keys]) ?_
  (conv => whnf); repeat ((refine And.intro ?_ ?_; focus exact Cl1); conv => whnf)
  intro bb hb
  (conv => whnf); repeat ((refine And.intro ?_ ?_; focus exact Cl1); conv => whnf)
  refine ⟨fun hc => ?_, fun hc => ?_⟩
  · have := isnil hb hc
    subst this
    (conv => whnf); repeat ((refine And.intro ?_ ?_; focus exact Cl1); conv => whnf)
    exact h _ (.inr rfl)
  · (conv => whnf); repeat ((refine And.intro ?_ ?_; focus exact Cl1); conv => whnf)
    refine ⟨by rw [bs_len]; show (0 + a.length) * 2 ≤ _; omega, ?_⟩
    (conv => whnf); repeat ((refine And.intro ?_ ?_; focus exact Cl1); conv => whnf)
    rw [show List.take (0 + (bs a).length) (List.drop 0 (List.take 0 [] ++ bs a)) = bs a by simp]
    exact h 1 (.inl rfl)
theorem copyB_spec (a : List UInt8) (z : Nat) (t : Bool) (ha : a.length ≤ 1000000000) (Post : PV → List (Nat × Blk) → Prop) (h : Post (.sl 1 (bs a) false true) []) : Spec K 33 [.sl z (bs a) t true] [] Post := by
  refine is33.specW K_ok K_mix false (by simp) (by simp [keys]) ?_
  (conv => whnf); repeat ((refine And.intro ?_ ?_; focus exact Cl1); conv => whnf)
  refine ⟨by rw [bs_len]; show a.length * 2 ≤ _; omega, ?_⟩
  (conv => whnf); repeat ((refine And.intro ?_ ?_; focus exact Cl1); conv => whnf)
  rw [List.drop_zero, List.take_length]
  exact h
/-- What value.Take hands back. -/
def takeV (b : List UInt8) : Except Int (V × List UInt8) :=
  match parseV 8 b with
  | .error e => .error e
  | .ok (v, r) => if mayV v then .ok (v, r) else .error 2
/-- What came of it: a thing and what is left, or an error and nothing. -/
def OutZ {α : Type} (zero : α) (p : Except Int (α × List UInt8)) (a : α) (b : List UInt8) (e : Int) : Prop := p = .ok (a, b) ∧ e = 0 ∨ p = .error e ∧ e ≠ 0 ∧ a = zero ∧ b = []
theorem VO.va {v : V} {z1 : Nat} {lp : List PV} {z2 : Nat} (h : VO v z1 lp z2) (hb : bulkV v ≤ 100000000000) : VA v z1 lp z2 := ⟨h.l, h.z1, h.z2, h.n, hb⟩
set_option maxHeartbeats 4000000 in
theorem takeV_p (b : List UInt8) (z : Nat) (t : Bool) (hz : z = 1 ∨ b = []) (hb : b.length ≤ 1000000000) (Post : PV → List (Nat × Blk) → Prop)
    (h : ∀ v r e z1 lp z2 z, VO v z1 lp z2 → (z = 1 ∨ r = []) → OutZ V0 (takeV b) v r e → Post (.tup [.agg (vc v z1 lp false z2 false), .sl z (bs r) false true, .int .i64 e]) []) : Spec K 74 [.sl z (bs b) t true] [] Post := by
  refine is74.specW K_ok K_mix false (by simp) (by simp [keys]) ?_
  (conv => whnf); repeat ((first | (refine And.intro ?_ ?_; focus exact Cl3) | refine Both.T (by exact rfl) ?_ | refine Both.F (by exact rfl) ?_ | refine Both.GT (by exact rfl) (by exact rfl) ?_ | refine Both.GF (by exact rfl) ?_ | refine Both.GN (by exact rfl) ?_); conv => whnf)
  refine value_tape 8 (by omega) b z t 0 rfl hz hb _ (fun v b' e' t' z1 lp z2 hv hb' hz' ho => ?_)
  (conv => whnf); repeat ((first | (refine And.intro ?_ ?_; focus exact Cl3) | refine Both.T (by exact rfl) ?_ | refine Both.F (by exact rfl) ?_ | refine Both.GT (by exact rfl) (by exact rfl) ?_ | refine Both.GF (by exact rfl) ?_ | refine Both.GN (by exact rfl) ?_); conv => whnf)
  rcases ho with ⟨ho, rfl⟩ | ⟨ho, he⟩
  · (conv => whnf); repeat ((first | (refine And.intro ?_ ?_; focus exact Cl3) | refine Both.T (by exact rfl) ?_ | refine Both.F (by exact rfl) ?_ | refine Both.GT (by exact rfl) (by exact rfl) ?_ | refine Both.GF (by exact rfl) ?_ | refine Both.GN (by exact rfl) ?_); conv => whnf)
    have hbk := parse_bulk _ _ _ _ ho
    refine check_spec v z1 z2 lp _ _ _ (hv.va (by omega)) ?_
    cases hm : mayV v
    · (conv => whnf); repeat ((first | (refine And.intro ?_ ?_; focus exact Cl3) | refine Both.T (by exact rfl) ?_ | refine Both.F (by exact rfl) ?_ | refine Both.GT (by exact rfl) (by exact rfl) ?_ | refine Both.GF (by exact rfl) ?_ | refine Both.GN (by exact rfl) ?_); conv => whnf)
      (conv => whnf); repeat' (first | ((first | (refine And.intro ?_ ?_; focus exact Cl3) | refine Both.T (by exact rfl) ?_ | refine Both.F (by exact rfl) ?_ | refine Both.GT (by exact rfl) (by exact rfl) ?_ | refine Both.GF (by exact rfl) ?_ | refine Both.GN (by exact rfl) ?_); conv => whnf) | (fail; conv => whnf) | ((refine Both.mk ?_ ?_ <;> fail_if_success (intro _)) <;> conv => whnf))
      all_goals exact h V0 [] 2 0 [] 0 _ VO0 (.inr rfl) (.inr ⟨by rw [takeV, ho]; simp [hm], by decide, rfl, rfl⟩)
    · (conv => whnf); repeat ((first | (refine And.intro ?_ ?_; focus exact Cl3) | refine Both.T (by exact rfl) ?_ | refine Both.F (by exact rfl) ?_ | refine Both.GT (by exact rfl) (by exact rfl) ?_ | refine Both.GF (by exact rfl) ?_ | refine Both.GN (by exact rfl) ?_); conv => whnf)
      (conv => whnf); repeat' (first | ((first | (refine And.intro ?_ ?_; focus exact Cl3) | refine Both.T (by exact rfl) ?_ | refine Both.F (by exact rfl) ?_ | refine Both.GT (by exact rfl) (by exact rfl) ?_ | refine Both.GF (by exact rfl) ?_ | refine Both.GN (by exact rfl) ?_); conv => whnf) | (refine sclone_spec b' z t' (by omega) _ (fun z3 hz3 => ?_); conv => whnf) | ((refine Both.mk ?_ ?_ <;> fail_if_success (intro _)) <;> conv => whnf))
      all_goals exact h v b' 0 z1 lp z2 z3 hv hz3 (.inl ⟨by rw [takeV, ho]; simp [hm], rfl⟩)
  · have h1 : (e' == 0) = false := by simpa using is345_ne he
    have h2 : (e' != 0) = true := by simpa using is345_ne he
    rw [h1]
    (conv => whnf); repeat ((first | (refine And.intro ?_ ?_; focus exact Cl3) | refine Both.T (by exact rfl) ?_ | refine Both.F (by exact rfl) ?_ | refine Both.GT (by exact rfl) (by exact rfl) ?_ | refine Both.GF (by exact rfl) ?_ | refine Both.GN (by exact rfl) ?_); conv => whnf)
    rw [h2]
    (conv => whnf); repeat ((first | (refine And.intro ?_ ?_; focus exact Cl3) | refine Both.T (by exact rfl) ?_ | refine Both.F (by exact rfl) ?_ | refine Both.GT (by exact rfl) (by exact rfl) ?_ | refine Both.GF (by exact rfl) ?_ | refine Both.GN (by exact rfl) ?_); conv => whnf)
    (conv => whnf); repeat' (first | ((first | (refine And.intro ?_ ?_; focus exact Cl3) | refine Both.T (by exact rfl) ?_ | refine Both.F (by exact rfl) ?_ | refine Both.GT (by exact rfl) (by exact rfl) ?_ | refine Both.GF (by exact rfl) ?_ | refine Both.GN (by exact rfl) ?_); conv => whnf) | (fail; conv => whnf) | ((refine Both.mk ?_ ?_ <;> fail_if_success (intro _)) <;> conv => whnf))
    all_goals exact h V0 [] e' 0 [] 0 _ VO0 (.inr rfl) (.inr ⟨by rw [takeV, ho], is345_ne he, rfl, rfl⟩)
end Go.Vc
