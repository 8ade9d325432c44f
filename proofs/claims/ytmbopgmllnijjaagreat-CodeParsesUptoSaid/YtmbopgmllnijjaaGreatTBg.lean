/- What is proved here: contracts of functions of the program: of each function what it hands back and what it leaves in memory. Conditions: those that each theorem names. -/
import Derived.Test.YtmbopgmllnijjaaGreatTAw
import Derived.Test.YtmbopgmllnijjaaGreatTBf
import Derived.Test.YtmbopgmllnijjaaGreatTAy
set_option linter.unusedVariables false
set_option linter.unusedSimpArgs false
set_option linter.unusedSectionVars false
namespace Go.Vc
open Go Go.Proofs
set_option maxRecDepth 100000
def Enc {α : Type} (p : List UInt8 → Except Int (α × List UInt8)) (a : α) (w : List UInt8) : Prop := (∀ r, p (w ++ r) = .ok (a, r)) ∧ ∀ k, k < w.length → p (w.take k) = .error 3
def thenP {α β : Type} (p : List UInt8 → Except Int (α × List UInt8)) (f : α → List UInt8 → Except Int (β × List UInt8)) (b : List UInt8) : Except Int (β × List UInt8) :=
 match p b with
 | .error e => .error e
 | .ok (a, r) => f a r
theorem Enc.bind {α β : Type} {p : List UInt8 → Except Int (α × List UInt8)} {f : α → List UInt8 → Except Int (β × List UInt8)} {a : α} {c : β} {w w' : List UInt8} (h1 : Enc p a w) (h2 : Enc (f a) c w') : Enc (thenP p f) c (w ++ w') := by
 refine ⟨fun r => ?_, fun k hk => ?_⟩
 ·unfold thenP
  rw [List.append_assoc, h1.1]
  exact h2.1 r
 ·unfold thenP
  by_cases h : k < w.length
  ·rw [List.take_append_of_le_length (by omega), h1.2 k h]
  ·rw [List.take_append, List.take_of_length_le (by omega), h1.1]
   exact h2.2 _ (by simp at hk; omega)
theorem Enc.pure {α : Type} (a : α) : Enc (fun b => .ok (a, b)) a [] := ⟨fun r => rfl, fun k hk => by simp at hk⟩
theorem Enc.map {α β : Type} {p : List UInt8 → Except Int (α × List UInt8)} {a : α} {w : List UInt8} {q : List UInt8 → Except Int (β × List UInt8)} {c : β} (h : Enc p a w) (h1 : ∀ b r, p b = .ok (a, r) → q b = .ok (c, r)) (h2 : ∀ b, p b = .error 3 → q b = .error 3) : Enc q c w :=
 ⟨fun r => h1 _ _ (h.1 r), fun k hk => h2 _ (h.2 k hk)⟩
theorem Enc.congr {α : Type} {p q : List UInt8 → Except Int (α × List UInt8)} {a : α} {w : List UInt8} (h : Enc p a w) (hpq : ∀ b, q b = p b) : Enc q a w :=
 ⟨fun r => by rw [hpq, h.1], fun k hk => by rw [hpq, h.2 k hk]⟩
end Go.Vc
namespace Go.Vc
open Go Go.Proofs
set_option maxRecDepth 100000
end Go.Vc
namespace Go.Vc
open Go Go.Proofs
set_option maxRecDepth 100000
end Go.Vc
namespace Go.Vc
open Go Go.Proofs
set_option maxRecDepth 100000
end Go.Vc
