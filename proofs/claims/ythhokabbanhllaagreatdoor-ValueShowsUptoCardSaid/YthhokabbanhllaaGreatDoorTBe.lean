/- What is proved here: contracts of functions of the program: of each function what it hands back and what it leaves in memory. Conditions: those that each theorem names. -/
import Derived.Test.YthhokabbanhllaaGreatDoorTBd
set_option linter.unusedVariables false
set_option linter.unusedSimpArgs false
set_option linter.unusedSectionVars false
namespace Go.Vc
open Go Go.Proofs
set_option maxRecDepth 100000
theorem colon_idx (s : List UInt8) : colon s = idxL (fun b => b == 58) s := by
 unfold colon
 induction s with
 | nil => rfl
 | cons a r ih =>
  unfold Lib.indexByte idxL
  rw [ih]
  cases a == 58
  ·cases h : (idxL (fun b => b == 58) r == -1)
   ·have : ¬ idxL (fun b => b == 58) r = -1 := by simpa using h
    simp [this]
   ·have : idxL (fun b => b == 58) r = -1 := by simpa using h
    simp [this]
  ·rfl
theorem cutM_at {t : List UInt8} {i : Nat} (h : colon t = i) (hi : i < t.length) : cutM t = (t.take i, t.drop (i + 1), true) := by
 unfold cutM; rw [h, if_pos (by omega)]; rfl
end Go.Vc
namespace Go.Vc
open Go Go.Proofs
set_option maxRecDepth 100000
theorem part_91 (m : Nat) (r : List UInt8) : partM (m + 1) (91 :: r) = (match partM m r with | some (93 :: l) => some l | _ => none) := by
 conv => lhs; unfold partM
 rw [preW_head (by decide)]
 simp
 rfl
theorem part_123 (m : Nat) (r : List UInt8) : partM (m + 1) (123 :: r) = (if r.head? = some 125 then some (r.drop 1) else recPM m [] r) := by
 conv => lhs; unfold partM
 rw [preW_head (by decide)]
 dsimp only
 split
 ·rename_i he; exact absurd (List.cons.inj he).1 (by decide)
 ·rename_i r' he
  rw [(List.cons.inj he).2]; rfl
 ·rename_i r' hne he
  rw [(List.cons.inj he).2]
  split
  ·rename_i hh
   cases r' with
   | nil => cases hh
   | cons a q => exact absurd (by rw [Option.some.inj hh]) (hne q)
  ·rfl
 ·rename_i h3; exact absurd rfl (h3 r)
end Go.Vc
namespace Go.Vc
open Go Go.Proofs
set_option maxRecDepth 100000
theorem cut_eq {u : List UInt8} (h : (cutM u).2.2 = true) : u = (cutM u).1 ++ 58 :: (cutM u).2.1 := by
 unfold cutM at h ⊢
 by_cases h0 : 0 ≤ colon u
 ·rw [if_pos h0]
  have he : idxL (fun b => b == 58) u = ((colon u).toNat : Nat) := by rw [← colon_idx]; omega
  obtain ⟨hi, h2⟩ := idx_hit he
  have h3 : u[(colon u).toNat] = 58 := by simpa using h2
  show u = List.take _ u ++ 58 :: List.drop _ u
  rw [← h3, ← List.drop_eq_getElem_cons hi, List.take_append_drop]
 ·rw [if_neg h0] at h; exact absurd h (by simp)
theorem recP_eq (n : Nat) (last t : List UInt8) : recPM (n + 1) last t = if ((cutM t).2.2 && isName (cutM t).1 && !(Op.bytesLess (cutM t).1 last || (cutM t).1 == last)) = true then
   (match partM n (cutM t).2.1 with
   | some (125 :: l) => some l
   | some (44 :: r) => recPM n (cutM t).1 r
   | _ => none)
  else none := by
 conv => lhs; unfold recPM
 rfl
end Go.Vc
