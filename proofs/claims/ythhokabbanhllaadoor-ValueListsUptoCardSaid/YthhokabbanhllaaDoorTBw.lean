/- What is proved here: contracts of functions of the program: of each function what it hands back and what it leaves in memory. Conditions: those that each theorem names. -/
import Derived.ChangeMaps5
import Derived.Test.YthhokabbanhllaaDoorTBq
set_option linter.unusedVariables false
set_option linter.unusedSimpArgs false
set_option linter.unusedSectionVars false
namespace Go.Vc
open Go Go.Proofs Go.Deep Go.ChangeShapes
set_option maxRecDepth 100000
open Go.Proofs.YthhokabbanhllaaDoor (Rows.uptoBulk Rows.uptoBulkAll)
variable {H : Type} {enc : TypeId × Value → H} {W : World} {sp : Nat → Bool} {hd : Bool}
theorem values_read {fuel : Nat} {cs : List Value} {x : DataW H × List MemPlace} (h3 : DataW.trod enc Tryd.prog W 0 sp hd fuel 22 cs = some x) :
  ∃ (v : Value) (l : List V) (lp : List PV), cs = [v] ∧ VPs l lp ∧ Rep0 W (Zall W) (.sl 5 lp false true) v ∧ bulkVs l ≤ Rows.uptoBulk x.1 := by
   have hc25 : Tryd.prog.cellsOf 25 = 5 := by kernel_rfl
   rcases open_sl Tryd.underlying22 h3 with ⟨hc, rfl⟩ | ⟨a, len, cap, n', D, R, hn', hc, hle, hx3, hel⟩
   ·subst hc
    exact ⟨_, [], [], rfl, rfl, .sl 5 [] false true none 0 0 (fun _ _ => undef) rfl (Nat.le_refl _) (fun h => by cases h) (fun _ h => by cases h) (fun j hj => absurd hj (by simp)) (fun j i x u hx => by simp at hx), by simp [bulkVs]⟩
   ·subst hc
    have hel2 : ∀ i, ∃ (y : V × List PV × List Value), i < len → W.cells? 0 (a.add (i * 5)) 5 = some y.2.2 ∧ VR W y.1 y.2.1 y.2.2 ∧ bulkV y.1 ≤ Rows.uptoBulk (D i) := by
     intro i
     by_cases hi : i < len
     ·obtain ⟨cs', pl, g1, g2⟩ := hel i hi
      rw [hc25] at g1
      obtain ⟨v, lp, g3, g4⟩ := value_read n' cs' _ g2
      exact ⟨(v, lp, cs'), fun _ => ⟨g1, g3, g4⟩⟩
     ·exact ⟨(.mk 0 0 [] [] [], [], []), fun h => absurd h hi⟩
    obtain ⟨Y, hY⟩ := Classical.axiomOfChoice hel2
    have hr := row_at (cs := fun i => (Y i).2.2) (by omega) fun i hi => (hY i hi).1
    refine ⟨_, (List.range len).map fun i => (Y i).1, (List.range len).map fun i => .agg (vc (Y i).1 5 (Y i).2.1 false 1 false), rfl, VPs_map _ _ _ fun i hi => ?_, .sl 5 _ false true (some a) len cap (fun j i => (Y j).2.2.getD i undef) (by simp) (by simpa using hle) (fun h => by cases h) (fun u hu => ?_) (fun j hj => ?_) (fun j i u w hu hw => ?_), ?_⟩
    ·have hi' : i < len := by simpa using hi
     exact VP_mk (hY i hi').2.1.l (hY i hi').2.1.n
    ·simp only [List.mem_map] at hu
     obtain ⟨_, _, rfl⟩ := hu
     rfl
    ·have hj' : j < len := by simpa using hj
     obtain ⟨e1, e2, e3, e4⟩ := hr j hj'
     refine ⟨a, rfl, e2, e1, fun i hi => ?_⟩
     rw [e4 i hi, List.getD_eq_getElem?_getD]
     rw [List.getElem?_eq_getElem (by rw [e3]; exact hi)]
     rfl
    ·simp only [List.getElem?_map] at hu
     obtain ⟨q, hq, rfl⟩ := Option.map_eq_some_iff.1 hu
     obtain ⟨q1, q2⟩ := List.getElem?_eq_some_iff.1 hq
     have hjq : j = q := by simpa using q2
     subst hjq
     have hj' : j < len := by simpa using q1
     have hv := (hY j hj').2.1
     have hi5 : i < 5 := by
      have := (List.getElem?_eq_some_iff.1 hw).1
      exact this
     refine hv.rep i w _ hw ?_
     rw [List.getD_eq_getElem?_getD, List.getElem?_eq_getElem (by rw [hv.len]; exact hi5)]
     rfl
    ·have : ∀ L : List Nat, (∀ i ∈ L, i < len) → bulkVs (L.map fun i => (Y i).1) ≤ Rows.uptoBulkAll (L.map D) := by
      intro L
      induction L with
      | nil => intro _; simp [bulkVs]
      | cons q r ih2 =>
       intro hL
       have := (hY q (hL q (by simp))).2.2
       have := ih2 fun i hi => hL i (by simp [hi])
       simp only [List.map_cons, bulkVs, Rows.uptoBulkAll]
       omega
     have := this (List.range len) fun i hi => by simpa using hi
     rw [hx3, Rows.uptoBulk]
     omega
theorem string_read {fuel : Nat} {s : ByteArray} {x : DataW H × List MemPlace} (h : DataW.trod enc Tryd.prog W 0 sp hd fuel 9 [.string s] = some x) :
  s.data.toList.length ≤ Rows.uptoBulk x.1 := by
 obtain ⟨s', hs, h3, _⟩ := DataW.trod_string Tryd.underlying9 h
 cases hs
 rw [h3]
 simp only [Rows.uptoBulk]
 omega
end Go.Vc
