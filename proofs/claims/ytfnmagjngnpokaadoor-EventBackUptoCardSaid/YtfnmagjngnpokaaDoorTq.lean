/- What is proved here: contracts of functions of the program: of each function what it hands back and what it leaves in memory. Conditions: those that each theorem names. -/
import Derived.Test.YtfnmagjngnpokaaDoorTp
import Derived.Test.YtfnmagjngnpokaaDoorWm
set_option linter.unusedVariables false
set_option linter.unusedSimpArgs false
set_option linter.unusedSectionVars false
namespace Go.Vc
open Go Go.Proofs Go.Deep Go.ChangeShapes
set_option maxRecDepth 100000
open Go.Proofs.YtfnmagjngnpokaaDoor (Rows.uptoBulk Rows.uptoBulkAll)
variable {H : Type} {enc : TypeId × Value → H} {W : World} {sp : Nat → Bool} {hd : Bool}
theorem event_cells {fuel : Nat} {cs : List Value} {x : DataW H × List MemPlace} (h : DataW.trod enc Tryd.prog W 0 sp hd fuel 27 cs = some x) (hb : Rows.uptoBulk x.1 ≤ 1048576) :
    ∃ e lp, EA e 5 lp 1 ∧ bulkV e.v ≤ 2000000 ∧ cs.length = 10 ∧ ∀ (i : Nat) u c, (ec e 5 lp false 1 false)[i]? = some u → cs[i]? = some c → Rep0 W (Zall W) u c := by
  have hc27 : Tryd.prog.cellsOf 27 = 10 := by kernel_rfl
  have hc25 : Tryd.prog.cellsOf 25 = 5 := by kernel_rfl
  have hc3 : Tryd.prog.cellsOf 3 = 1 := by kernel_rfl
  have hc9 : Tryd.prog.cellsOf 9 = 1 := by kernel_rfl
  obtain ⟨xs, m, rfl, hx, hl, hxl, hf⟩ := DataW.trod_struct Tryd.underlying27 h
  rw [hc27] at hl
  have h0 : DataW.trod enc Tryd.prog W 0 sp hd m 3 ((cs.drop 0).take (Tryd.prog.cellsOf 3)) = xs[0]? := hf 0 _ rfl
  have h1 : DataW.trod enc Tryd.prog W 0 sp hd m 3 ((cs.drop 1).take (Tryd.prog.cellsOf 3)) = xs[1]? := hf 1 _ rfl
  have h2 : DataW.trod enc Tryd.prog W 0 sp hd m 3 ((cs.drop 2).take (Tryd.prog.cellsOf 3)) = xs[2]? := hf 2 _ rfl
  have h3 : DataW.trod enc Tryd.prog W 0 sp hd m 3 ((cs.drop 3).take (Tryd.prog.cellsOf 3)) = xs[3]? := hf 3 _ rfl
  have h4 : DataW.trod enc Tryd.prog W 0 sp hd m 9 ((cs.drop 4).take (Tryd.prog.cellsOf 9)) = xs[4]? := hf 4 _ rfl
  have h5 : DataW.trod enc Tryd.prog W 0 sp hd m 25 ((cs.drop 5).take (Tryd.prog.cellsOf 25)) = xs[5]? := hf 5 _ rfl
  rw [hc3] at h0 h1 h2 h3
  rw [hc9] at h4
  rw [hc25] at h5
  obtain ⟨c0, c1, c2, c3, c4, c5, c6, c7, c8, c9, rfl⟩ : ∃ c0 c1 c2 c3 c4 c5 c6 c7 c8 c9, cs = [c0, c1, c2, c3, c4, c5, c6, c7, c8, c9] := by
    match cs, hl with
    | [a, b, c, d, e, f, g, h, i, j], _ => exact ⟨a, b, c, d, e, f, g, h, i, j, rfl⟩
  obtain ⟨x0, x1, x2, x3, x4, x5, rfl⟩ : ∃ x0 x1 x2 x3 x4 x5, xs = [x0, x1, x2, x3, x4, x5] := by
    match xs, hxl with
    | [a, b, c, d, e, f], _ => exact ⟨a, b, c, d, e, f, rfl⟩
  obtain ⟨k, hk, rfl, _⟩ := DataW.trod_int Tryd.underlying3 h0
  obtain ⟨fl, hfl, rfl, _⟩ := DataW.trod_int Tryd.underlying3 h1
  obtain ⟨id, hid, rfl, hidw⟩ := DataW.trod_int Tryd.underlying3 h2
  obtain ⟨n, hn, rfl, hnw⟩ := DataW.trod_int Tryd.underlying3 h3
  obtain ⟨s, hs, rfl, _⟩ := DataW.trod_string Tryd.underlying9 h4
  obtain ⟨w, lp, hw, hwb⟩ := value_read _ _ _ h5
  simp at hk hfl hid hn hs
  subst hk hfl hid hn hs
  rw [hx] at hb
  simp only [List.map_cons, List.map_nil, Rows.uptoBulk, Rows.uptoBulkAll] at hb
  refine ⟨⟨k, fl, id, n, s.data.toList, w⟩, lp, ⟨⟨hw.l, .inl rfl, .inl rfl, hw.n, by show bulkV w ≤ _; omega⟩, by show s.data.toList.length ≤ _; omega, i64_wf hidw, i64_wf hnw⟩, by show bulkV w ≤ _; omega, rfl, ?_⟩
  intro i u c hu hc
  have hr : ∀ (j : Nat) u c, (vc w 5 lp false 1 false)[j]? = some u → [c5, c6, c7, c8, c9][j]? = some c → Rep0 W (Zall W) u c := hw.rep
  rcases i with _ | _ | _ | _ | _ | _ | _ | _ | _ | _ | i
  · cases hu; cases hc; exact .int _ _
  · cases hu; cases hc; exact .int _ _
  · cases hu; cases hc; exact .int _ _
  · cases hu; cases hc; exact .int _ _
  · cases hu; cases hc; exact .str _ _ rfl
  · cases hu; cases hc; exact hr 0 _ _ rfl rfl
  · cases hu; cases hc; exact hr 1 _ _ rfl rfl
  · cases hu; cases hc; exact hr 2 _ _ rfl rfl
  · cases hu; cases hc; exact hr 3 _ _ rfl rfl
  · cases hu; cases hc; exact hr 4 _ _ rfl rfl
  · simp [ec] at hu
theorem bulkAll_mem : ∀ (l : List (DataW H)) (x : DataW H), x ∈ l → Rows.uptoBulk x ≤ Rows.uptoBulkAll l
  | y :: r, x, h => by
    simp only [Rows.uptoBulkAll]
    rcases List.mem_cons.1 h with rfl | h
    · omega
    · have := bulkAll_mem r x h; omega
theorem events_read {fuel : Nat} {cs : List Value} {x : DataW H × List MemPlace} (h : DataW.trod enc Tryd.prog W 0 sp hd fuel 46 cs = some x) (hb : Rows.uptoBulk x.1 ≤ 1048576) :
    ∃ (v : Value) (l : List EV) (lp : List PV), cs = [v] ∧ Rep0 W (Zall W) (.sl 10 lp false true) v ∧ EPs l lp ∧ l.length ≤ Rows.uptoBulk x.1 := by
  have hc27 : Tryd.prog.cellsOf 27 = 10 := by kernel_rfl
  rcases open_sl Tryd.underlying46 h with ⟨rfl, rfl⟩ | ⟨a, len, cap, n, D, R, hn, rfl, hl, hx, hel⟩
  · refine ⟨_, [], [], rfl, .sl 10 [] false true none 0 0 (fun _ _ => undef) rfl (Nat.le_refl _) (fun h => by cases h) (fun _ h => by cases h) (fun j hj => absurd hj (by simp)) (fun j i x u hx => by simp at hx), .nil, by simp⟩
  · have hbD : ∀ i, i < len → Rows.uptoBulk (D i) ≤ 1048576 := fun i hi => by
      have h1 := bulkAll_mem ((List.range len).map D) (D i) (List.mem_map.2 ⟨i, List.mem_range.2 hi, rfl⟩)
      rw [hx, Rows.uptoBulk] at hb
      omega
    have hel2 : ∀ i, ∃ Y : EV × List PV × List Value, i < len → W.cells? 0 (a.add (i * 10)) 10 = some Y.2.2 ∧ EA Y.1 5 Y.2.1 1 ∧ bulkV Y.1.v ≤ 2000000 ∧ Y.2.2.length = 10 ∧ ∀ (k : Nat) u c, (ec Y.1 5 Y.2.1 false 1 false)[k]? = some u → Y.2.2[k]? = some c → Rep0 W (Zall W) u c := by
      intro i
      by_cases hi : i < len
      · obtain ⟨cs', pl, h1, h2⟩ := hel i hi
        rw [hc27] at h1
        obtain ⟨e, lp, g1, g2, g3, g4⟩ := event_cells h2 (hbD i hi)
        exact ⟨(e, lp, cs'), fun _ => ⟨h1, g1, g2, g3, g4⟩⟩
      · exact ⟨(⟨0, 0, 0, 0, [], V0⟩, [], []), fun h => absurd h hi⟩
    obtain ⟨Y, hY⟩ := Classical.axiomOfChoice hel2
    have hr := row_at (cs := fun i => (Y i).2.2) (by omega) fun i hi => (hY i hi).1
    refine ⟨_, (List.range len).map fun i => (Y i).1, (List.range len).map fun i => .agg (ec (Y i).1 5 (Y i).2.1 false 1 false), rfl, .sl 10 _ false true (some a) len cap (fun j k => ((Y j).2.2).getD k undef) (by simp) (by simpa using hl) (fun h => by cases h) (fun u hu => ?_) (fun j hj => ?_) (fun j i u w hu hw => ?_), ⟨by simp, fun i hi => ?_⟩, ?_⟩
    · simp only [List.mem_map] at hu
      obtain ⟨_, _, rfl⟩ := hu
      rfl
    · have hj' : j < len := by simpa using hj
      obtain ⟨e1, e2, e3, e4⟩ := hr j hj'
      refine ⟨a, rfl, e2, e1, fun i hi => ?_⟩
      rw [e4 i hi, List.getD_eq_getElem?_getD]
      rw [List.getElem?_eq_getElem (by rw [e3]; exact hi)]
      rfl
    · simp only [List.getElem?_map] at hu
      obtain ⟨q, hq, rfl⟩ := Option.map_eq_some_iff.1 hu
      obtain ⟨q1, q2⟩ := List.getElem?_eq_some_iff.1 hq
      have hjq : j = q := by simpa using q2
      subst hjq
      have hj' : j < len := by simpa using q1
      have hv := hY j hj'
      have hi10 : i < 10 := (List.getElem?_eq_some_iff.1 hw).1
      refine hv.2.2.2.2 i w _ hw ?_
      rw [List.getD_eq_getElem?_getD, List.getElem?_eq_getElem (by rw [hv.2.2.2.1]; exact hi10)]
      rfl
    · have hi' : i < len := by simpa using hi
      have hv := hY i hi'
      refine ⟨5, (Y i).2.1, false, 1, false, ?_, ?_, ?_⟩
      · unfold nth
        rw [List.getD_eq_getElem?_getD, List.getElem?_map, List.getElem?_eq_getElem (by simpa using hi')]
        simp
      · simpa using hv.2.1
      · simpa using hv.2.2.1
    · have := bulkAll_len ((List.range len).map D)
      rw [hx, Rows.uptoBulk]
      simp at this ⊢
      omega
end Go.Vc
