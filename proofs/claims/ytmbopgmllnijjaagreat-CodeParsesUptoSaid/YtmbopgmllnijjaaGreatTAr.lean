/- What is proved here: contracts of functions of the program: of each function what it hands back and what it leaves in memory. Conditions: those that each theorem names. -/
import Derived.Test.YtmbopgmllnijjaaGreatTAq
set_option linter.unusedVariables false
set_option linter.unusedSimpArgs false
set_option linter.unusedSectionVars false
namespace Go.Vc
open Go Go.Proofs
set_option maxRecDepth 100000
structure May (p : PG) : Prop where
 some : p.funcs ≠ []
 few : p.funcs.length ≤ 16
 len : ∀ f ∈ p.funcs, f.code.length ≤ 512
 head : ∀ f ∈ p.funcs, headM p f = true
 ins : ∀ f ∈ p.funcs, ∀ x ∈ f.code, insM p f x = true
theorem chk_may {p : PG} (h : chkM p = 0) : May p := by
 unfold chkM at h
 split at h
 ·cases h
 rename_i h1
 split at h
 ·cases h
 rename_i h2
 split at h
 ·cases h
 rename_i h3
 have a1 : ¬ 16 < p.funcs.length := fun hc => h1 (.inl hc)
 have a2 : (p.funcs.any fun f => decide (512 < f.code.length)) = false := by
  cases hc : (p.funcs.any fun f => decide (512 < f.code.length))
  ·rfl
  ·exact absurd (.inr (.inr hc)) h1
 have a3 : (p.funcs.any fun f => !headM p f) = false := by
  cases hc : (p.funcs.any fun f => !headM p f)
  ·rfl
  ·exact absurd (.inr (.inr hc)) h2
 have a4 : (p.funcs.any fun f => f.code.any fun x => !insM p f x) = false := by
  cases hc : (p.funcs.any fun f => f.code.any fun x => !insM p f x)
  ·rfl
  ·exact absurd hc h3
 rw [List.any_eq_false] at a2 a3 a4
 refine ⟨fun hc => h2 (.inl hc), by omega, fun f hf => by have := a2 f hf; simp at this; exact this, fun f hf => by have := a3 f hf; simpa using this, fun f hf x hx => ?_⟩
 have := a4 f hf
 simp only [Bool.not_eq_true] at this
 rw [List.any_eq_false] at this
 have := this x hx
 simpa using this
def LawPost : PV → List (Nat × Blk) → Prop := fun r h' => r = .bool true ∧ h' = []
def ofP (c : List IN) : PG := ⟨[⟨[109, 97, 105, 110], 0, 0, c⟩], [.mk 1 1 [] [] []]⟩
def wOne : List IN := [⟨1, 0, 0⟩, ⟨30, 0, 0⟩]
end Go.Vc
