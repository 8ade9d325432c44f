/- What is proved here: contracts of functions of the program: of each function what it hands back and what it leaves in memory. Conditions: those that each theorem names. -/
import Derived.Test.YthhokabbanhllaaDoorTBh
set_option linter.unusedVariables false
set_option linter.unusedSimpArgs false
set_option linter.unusedSectionVars false
namespace Go.Vc
open Go Go.Proofs
set_option maxRecDepth 100000
theorem sizeVs_in : ∀ {l : List V} {v : V}, v ∈ l → sizeV v ≤ sizeVs l
 | _ :: _, _, .head _ => by simp only [sizeVs]; omega
 | _ :: _, _, .tail _ h => by have := sizeVs_in h; simp only [sizeVs]; omega
theorem depthVs_in2 : ∀ {l : List V} {v : V}, v ∈ l → depthV v ≤ depthVs l
 | _ :: _, _, .head _ => by simp only [depthVs]; omega
 | _ :: _, _, .tail _ h => by have := depthVs_in2 h; simp only [depthVs]; omega
theorem allVs_in2 : ∀ {l : List V} {v : V}, allVs l = true → v ∈ l → allV v = true
 | _ :: _, _, h, .head _ => by simp only [allVs, Bool.and_eq_true] at h; exact h.1
 | _ :: _, _, h, .tail _ hv => by simp only [allVs, Bool.and_eq_true] at h; exact allVs_in2 h.2 hv
theorem mayV_in {v w : V} (h : mayV v = true) (hw : w ∈ v.l) : mayV w = true := by
 obtain ⟨k, n, s, l, ns⟩ := v
 have h := okV_iff.1 h
 refine okV_iff.2 ⟨⟨?_, ?_⟩, ?_⟩
 ·have := h.1.1; have := depthVs_in2 hw; simp only [depthV, V.l] at *; omega
 ·have := h.1.2; have := sizeVs_in hw; simp only [sizeV, V.l] at *; omega
 ·have := h.2; simp only [allV, Bool.and_eq_true] at this; exact allVs_in2 this.2 hw
theorem fits_list {t : List UInt8} (h : t.length ≤ 62) : fitsT (91 :: (t ++ [93])) = fitsT t := by
 rw [Bool.eq_iff_iff, fits_text, fits_text]
 constructor
 ·rintro ⟨_, s, hs⟩
  obtain ⟨x, _, hx⟩ := list_text hs
  exact ⟨by omega, x, hx⟩
 ·rintro ⟨_, s, hs⟩
  exact ⟨by simp; omega, _, .list s t hs⟩
theorem lists_holds (l : List V) (t : List UInt8) (hl : 62 < t.length ∨ mayV (.mk 4 0 [] l []) = false ∨ True) :
  (if mayV (.mk 4 0 [] l []) = false ∨ 62 < t.length then !isVB (.mk 4 0 [] l []) (91 :: (t ++ [93])) || decide (62 < t.length) else isVB (.mk 4 0 [] l []) (91 :: (t ++ [93])) == ((l.all fun w => isVB w t) && fitsT t)) = true := by
 split
 ·rename_i h
  rcases h with h | h
  ·simp [isVB, h]
  ·simp [h]
 ·rename_i h
  have hm : mayV (.mk 4 0 [] l []) = true := by
   cases h1 : mayV (.mk 4 0 [] l []) with
   | true => rfl
   | false => exact absurd (.inl h1) h
  have ht : t.length ≤ 62 := by
   rcases Nat.lt_or_ge 62 t.length with h1 | h1
   ·exact absurd (.inr h1) h
   ·exact h1
  rw [beq_iff_eq]
  unfold isVB
  rw [fits_list ht, hm]
  cases hf : fitsT t with
  | false => simp
  | true =>
   have hx := (tree_fits hf).1
   rw [tree_of (.list _ _ hx)]
   have e : hasT (.mk 4 0 [] l []) (.mk 4 [] [treeT t]) = hasL l 4 [treeT t] := by
    rw [hasT]
    rfl
   rw [e, hasL_list]
   simp only [Bool.true_and, Bool.and_true]
   rw [Bool.eq_iff_iff, List.all_eq_true, List.all_eq_true]
   refine ⟨fun h v hv => ?_, fun h v hv => ?_⟩
   ·rw [mayV_in hm hv, h v hv]; rfl
   ·have := h v hv
    rw [mayV_in hm hv] at this
    exact this
end Go.Vc
