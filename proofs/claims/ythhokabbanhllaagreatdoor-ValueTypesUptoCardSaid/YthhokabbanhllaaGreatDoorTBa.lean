/- What is proved here: contracts of functions of the program: of each function what it hands back and what it leaves in memory. Conditions: those that each theorem names. -/
import Derived.Test.YthhokabbanhllaaGreatDoorTAz
set_option linter.unusedVariables false
set_option linter.unusedSimpArgs false
set_option linter.unusedSectionVars false
namespace Go.Vc
open Go Go.Proofs
set_option maxRecDepth 100000
def low (c : UInt8) : Bool := decide (97 ≤ c.toNat) && decide (c.toNat ≤ 122)
def wordM (t : List UInt8) : List UInt8 := t.takeWhile low
mutual
def readM : Nat → List UInt8 → List UInt8 × Bool
 | 0, _ => ([], false)
 | n + 1, t =>
  match t with
  | 91 :: r => match readM n r with
   | (93 :: l, ok) => (l, ok)
   | (l, _) => (l, false)
  | 123 :: 125 :: r => (r, true)
  | 123 :: r => recM n [] r
  | _ => (t.drop (wordM t).length, decide (0 ≤ kindM (wordM t)))
def recM : Nat → List (List UInt8) → List UInt8 → List UInt8 × Bool
 | 0, _, _ => ([], false)
 | n + 1, ns, t =>
  match readM n (cutM t).2.1 with
  | (l, ok) => match (cutM t).2.2 && ok, l with
   | true, 125 :: r => (r, rise [] (ns ++ [(cutM t).1]))
   | true, 44 :: r => recM n (ns ++ [(cutM t).1]) r
   | _, _ => ([], false)
end
def fitsT (t : List UInt8) : Bool := decide (t.length ≤ 64) && (readM (2 * t.length + 1) t).2 && (readM (2 * t.length + 1) t).1.isEmpty
def idxL {α : Type} (P : α → Bool) : List α → Int
 | [] => -1
 | f :: r => if P f = true then 0 else if idxL P r = -1 then -1 else idxL P r + 1
def sh (i : Nat) (r : Int) : Int := if r = -1 then -1 else r + i
theorem idxL_ge {α : Type} (P : α → Bool) : ∀ l, -1 ≤ idxL P l ∧ idxL P l < l.length
 | [] => by simp [idxL]
 | f :: r => by
  have := idxL_ge P r
  simp only [idxL, List.length_cons]
  split
  ·omega
  ·split <;> omega
theorem sh_step {α : Type} {P : α → Bool} {l : List α} {i : Nat} (hi : i < l.length) (hp : P l[i] = false) : sh i (idxL P (l.drop i)) = sh (i + 1) (idxL P (l.drop (i + 1))) := by
 rw [List.drop_eq_getElem_cons hi]
 have hg := idxL_ge P (l.drop (i + 1))
 simp only [idxL, hp, sh]
 generalize idxL P (l.drop (i + 1)) = r at hg
 by_cases hr : r = -1
 ·simp [hr]
 ·simp [hr]
  split <;> omega
theorem sh_hit {α : Type} {P : α → Bool} {l : List α} {i : Nat} (hi : i < l.length) (hp : P l[i] = true) : sh i (idxL P (l.drop i)) = i := by
 rw [List.drop_eq_getElem_cons hi]
 simp [idxL, hp, sh]
theorem sh_end {α : Type} {P : α → Bool} {l : List α} : sh l.length (idxL P (l.drop l.length)) = -1 := by
 rw [List.drop_length]; rfl
theorem sh_zero {α : Type} {P : α → Bool} {l : List α} : sh 0 (idxL P (l.drop 0)) = idxL P l := by
 rw [List.drop_zero]; unfold sh; split <;> omega
theorem idx_hit {α : Type} {P : α → Bool} : ∀ {l : List α} {i : Nat}, idxL P l = i → ∃ hi : i < l.length, P l[i] = true
 | [], i, h => by simp only [idxL] at h; omega
 | a :: r, i, h => by
  unfold idxL at h
  split at h
  ·rename_i ha
   obtain rfl : i = 0 := by omega
   exact ⟨by simp, ha⟩
  ·split at h
   ·omega
   ·obtain ⟨j, rfl⟩ : ∃ j, i = j + 1 := ⟨i - 1, by rename_i h1; have := idxL_ge P r; omega⟩
    obtain ⟨h1, h2⟩ := idx_hit (P := P) (l := r) (i := j) (by omega)
    exact ⟨by simpa using h1, by simpa using h2⟩
end Go.Vc
