/- What is proved here: contracts of functions of the program: of each function what it hands back and what it leaves in memory. Conditions: those that each theorem names. -/
import Derived.Test.YthhokabbanhllaaDoorTBq
set_option linter.unusedVariables false
set_option linter.unusedSimpArgs false
set_option linter.unusedSectionVars false
namespace Go.Vc
open Go Go.Proofs Go.Deep Go.ChangeShapes
set_option maxRecDepth 100000
open Go.Proofs.YthhokabbanhllaaDoor (Rows.uptoBulk Rows.uptoBulkAll)
variable {H : Type} {enc : TypeId × Value → H} {W : World} {sp : Nat → Bool} {hd : Bool}
theorem bulkAll_len : ∀ l : List (DataW H), l.length ≤ Rows.uptoBulkAll l
 | [] => by simp
 | x :: r => by
  have := bulkAll_len r
  have : 1 ≤ Rows.uptoBulk x := by
   cases x with
   | lit l => cases l <;> simp [Rows.uptoBulk]
   | _ => simp [Rows.uptoBulk]
  simp only [List.length_cons, Rows.uptoBulkAll]; omega
theorem u8_wf {n : Int} (h : (Lit.int .u8 n : Lit).wf = true) : ∃ c : UInt8, n = c.toNat := by
 simp [Lit.wf, IntKind.min, IntKind.max, IntKind.signed, IntKind.bits] at h
 refine ⟨UInt8.ofNat n.toNat, ?_⟩
 have : (UInt8.ofNat n.toNat).toNat = n.toNat % 256 := rfl
 rw [this]
 omega
theorem bytes_read {fuel : Nat} {cs : List Value} {x : DataW H × List MemPlace} (h : DataW.trod enc Tryd.prog W 0 sp hd fuel 29 cs = some x) :
  ∃ (v : Value) (b : List UInt8), cs = [v] ∧ Rep0 W (Zall W) (.sl 1 (bs b) false true) v ∧ b.length ≤ Rows.uptoBulk x.1 := by
 have hc5 : Tryd.prog.cellsOf 5 = 1 := by kernel_rfl
 rcases open_sl Tryd.underlying29 h with ⟨rfl, rfl⟩ | ⟨a, len, cap, n, D, R, hn, rfl, hl, hx, hel⟩
 ·refine ⟨_, [], rfl, .sl 1 [] false true none 0 0 (fun _ _ => undef) rfl (Nat.le_refl _) (fun h => by cases h) (fun _ h => by cases h) (fun j hj => absurd hj (by simp)) (fun j i x u hx => by simp at hx), by simp⟩
 ·have hel2 : ∀ i, ∃ s : UInt8, i < len → W.cells? 0 (a.add (i * 1)) 1 = some [.int .u8 s.toNat] := by
   intro i
   by_cases hi : i < len
   ·obtain ⟨cs', pl, h1, h2⟩ := hel i hi
    obtain ⟨m, rfl, h3, hw⟩ := DataW.trod_int Tryd.underlying5 h2
    obtain ⟨c, rfl⟩ := u8_wf hw
    rw [hc5] at h1
    exact ⟨c, fun _ => h1⟩
   ·exact ⟨0, fun h => absurd h hi⟩
  obtain ⟨S, hS⟩ := Classical.axiomOfChoice hel2
  have hr := row_at (cs := fun i => [Value.int .u8 (S i).toNat]) (by omega) fun i hi => hS i hi
  refine ⟨_, (List.range len).map S, rfl, .sl 1 _ false true (some a) len cap (fun j _ => .int .u8 (S j).toNat) (by simp [bs]) (by simpa [bs] using hl) (fun h => by cases h) (fun u hu => ?_) (fun j hj => ?_) (fun j i u w hu hw => ?_), ?_⟩
  ·simp only [bs, List.map_map, List.mem_map] at hu
   obtain ⟨_, _, rfl⟩ := hu
   rfl
  ·have hj' : j < len := by simpa [bs] using hj
   obtain ⟨h1, h2, _, h4⟩ := hr j hj'
   refine ⟨a, rfl, h2, h1, fun i hi => ?_⟩
   have := h4 i hi
   obtain rfl : i = 0 := by omega
   simpa using this
  ·simp only [bs, List.map_map, List.getElem?_map] at hu
   obtain ⟨q, hq, rfl⟩ := Option.map_eq_some_iff.1 hu
   obtain rfl : j = q := by
    obtain ⟨h1, h2⟩ := List.getElem?_eq_some_iff.1 hq
    simpa using h2
   have : w = .int .u8 (S j).toNat := by
    rcases i with _ | i
    ·exact (Option.some.inj hw).symm
    ·cases hw
   subst this
   exact .int _ _
  ·have := bulkAll_len ((List.range len).map D)
   rw [hx, Rows.uptoBulk]
   simp at this ⊢
   omega
end Go.Vc
