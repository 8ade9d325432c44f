/- What is proved here: contracts of functions of the program: of each function what it hands back and what it leaves in memory. Conditions: those that each theorem names. -/
import Derived.Test.YthhokabbanhllaaGreatDoorTAp
set_option linter.unusedVariables false
set_option linter.unusedSimpArgs false
set_option linter.unusedSectionVars false
namespace Go.Vc
open Go Go.Proofs
set_option maxRecDepth 100000
def slotsEq (s : St) : List (Nat × PV) → Prop
 | [] => True
 | (i, v) :: r => s.get i = v ∧ slotsEq s r
def heapEq (h : List (Nat × Blk)) : List (Nat × Blk) → Prop
 | [] => True
 | (i, b) :: r => lookB i h = some b ∧ heapEq h r
theorem slotsEq_mem {s : St} : ∀ {l : List (Nat × PV)}, slotsEq s l → ∀ p ∈ l, s.get p.1 = p.2
 | (i, v) :: r, h, p, hp => by
  rcases List.mem_cons.1 hp with rfl | hp
  ·exact h.1
  ·exact slotsEq_mem h.2 p hp
theorem heapEq_mem {h : List (Nat × Blk)} : ∀ {l : List (Nat × Blk)}, heapEq h l → ∀ p ∈ l, lookB p.1 h = some p.2
 | (i, v) :: r, h, p, hp => by
  rcases List.mem_cons.1 hp with rfl | hp
  ·exact h.1
  ·exact heapEq_mem h.2 p hp
def inB2 (l m : List Nat) : Bool := l.all fun i => m.any fun j => Nat.beq i j
theorem inB2_mem {l m : List Nat} (h : inB2 l m = true) : ∀ i ∈ l, i ∈ m := fun i hi => by
 obtain ⟨j, hj, e⟩ := List.any_eq_true.1 (List.all_eq_true.1 h i hi)
 rw [Nat.eq_of_beq_eq_true e]; exact hj
theorem meetsR {C : Ctx} {s s0 : St} (h1 : s0.n = s.n) (h2 : slotsEq s s0.slots) (h3 : heapEq s.heap s0.heap) (h4 : (s0.slots.all fun p => inB2 p.2.labs (keys s0.heap)) = true) (h5 : (s0.heap.all fun p => inB2 p.2.labs (keys s0.heap)) = true) (h6 : s0.kb = s.kb) (h7 : inB2 s.kb (keys s0.heap) = true) : meets C [] s s0 :=
 show s.le s0 from ⟨h1, slotsEq_mem h2, heapEq_mem h3, fun p hp => inB2_mem (List.all_eq_true.1 h4 p hp), fun p hp => inB2_mem (List.all_eq_true.1 h5 p hp), h6, inB2_mem h7⟩
theorem mR {C : Ctx} {s s0 : St} (h1 : s0.n = s.n := by rfl) (h2 : slotsEq s s0.slots := by repeat (first | exact trivial | refine ⟨rfl, ?_⟩)) (h3 : heapEq s.heap s0.heap := by repeat (first | exact trivial | refine ⟨rfl, ?_⟩)) (h4 : (s0.slots.all fun p => inB2 p.2.labs (keys s0.heap)) = true := by rfl) (h5 : (s0.heap.all fun p => inB2 p.2.labs (keys s0.heap)) = true := by rfl) (h6 : s0.kb = s.kb := by rfl) (h7 : inB2 s.kb (keys s0.heap) = true := by rfl) : meets C [] s s0 := meetsR h1 h2 h3 h4 h5 h6 h7
end Go.Vc
