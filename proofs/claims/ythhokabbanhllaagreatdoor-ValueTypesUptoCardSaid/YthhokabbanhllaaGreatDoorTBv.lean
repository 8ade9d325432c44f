/- What is proved here: contracts of functions of the program: of each function what it hands back and what it leaves in memory. Conditions: those that each theorem names. -/
import Derived.Test.YthhokabbanhllaaGreatDoorTie
import Derived.Test.YthhokabbanhllaaGreatDoorCards
import Derived.Deep.Slices
import Derived.Lib.LaidTab
import Derived.Below
import Derived.Stop.LaidErr
import Derived.WalkKit
import Derived.ProofKit
import Derived.OpenShut
import Derived.Deep.DeepHandedRow
import Derived.ChangeMaps5
import Derived.Test.YthhokabbanhllaaGreatDoorTBt
import Derived.Test.YthhokabbanhllaaGreatDoorTBu
set_option linter.unusedVariables false
set_option linter.unusedSimpArgs false
set_option linter.unusedSectionVars false
namespace Go.Vc
open Go Go.Proofs Go.Deep Go.ChangeShapes
set_option maxRecDepth 100000
open Go.Proofs.YthhokabbanhllaaGreatDoor (Rows.uptoBulk Rows.uptoBulkAll)
abbrev Zall (W : World) : Nat → Prop := fun b => b < W.heap.size
theorem cell_lt {W : World} {a : Addr} {v : Value} (h : W.cell? a = some v) : a.block < W.heap.size := by
 rcases Nat.lt_or_ge a.block W.heap.size with h1 | h1
 ·exact h1
 ·rw [World.cell?, Array.getElem?_eq_none h1] at h
  simp at h
theorem add0 (a : Addr) : a.add 0 = a := by unfold Addr.add; simp
theorem cells_at {W : World} {a : Addr} {n : Nat} {cs : List Value} (h : W.cells? 0 a n = some cs) :
  cs.length = n ∧ (0 < n → a.spot = none ∧ a.block < W.heap.size ∧ ∀ i, i < n → W.cell? ⟨a.block, a.off + i, none⟩ = cs[i]?) := by
 obtain ⟨_, hl, hc⟩ := World.cells?_some h
 refine ⟨hl, fun hn => ?_⟩
 have h0 := hc 0 hn
 rw [List.getElem?_eq_getElem (by omega), add0] at h0
 have hs := World.cell?_spot h0
 refine ⟨hs, cell_lt h0, fun i hi => ?_⟩
 have := hc i hi
 obtain ⟨b, o, s⟩ := a
 simp only at hs
 subst hs
 rwa [Go.WideShapes.add_plain] at this
theorem row_at {W : World} {a : Addr} {len c : Nat} {cs : Nat → List Value} (hc : 0 < c) (h : ∀ i, i < len → W.cells? 0 (a.add (i * c)) c = some (cs i)) :
  ∀ i, i < len → a.spot = none ∧ a.block < W.heap.size ∧ (cs i).length = c ∧ ∀ k, k < c → W.cell? ⟨a.block, a.off + (i * c + k), none⟩ = (cs i)[k]? := by
 intro i hi
 have h0 := cells_at (h 0 (by omega))
 rw [Nat.zero_mul, add0] at h0
 obtain ⟨hs, hb, _⟩ := h0.2 hc
 have hi' := cells_at (h i hi)
 obtain ⟨b, o, s⟩ := a
 simp only at hs
 subst hs
 rw [Go.WideShapes.add_plain] at hi'
 refine ⟨rfl, hb, hi'.1, fun k hk => ?_⟩
 rw [← (hi'.2 hc).2.2 k hk, Nat.add_assoc]
variable {H : Type} {enc : TypeId × Value → H} {W : World} {sp : Nat → Bool} {hd : Bool}
theorem strs_read {fuel : Nat} {cs : List Value} {x : DataW H × List MemPlace} (h : DataW.trod enc Tryz.prog W 0 sp hd fuel 23 cs = some x) :
  ∃ (v : Value) (ns : List (List UInt8)), cs = [v] ∧ Rep0 W (Zall W) (.sl 1 (strs ns) false true) v ∧ nsBulk ns ≤ Rows.uptoBulk x.1 := by
 have hc9 : Tryz.prog.cellsOf 9 = 1 := by kernel_rfl
 rcases open_slice Tryz.underlying23 h with ⟨rfl, rfl⟩ | ⟨a, len, cap, m, n, D, Pl, rfl, hb, hl, hm, hme, rfl, hel⟩
 ·refine ⟨_, [], rfl, .sl 1 [] false true none 0 0 (fun _ _ => undef) rfl (Nat.le_refl _) (fun h => by cases h) (fun _ h => by cases h) (fun j hj => absurd hj (by simp)) (fun j i x u hx => by simp at hx), by simp [nsBulk]⟩
 ·have hlm : len ≤ m := by rw [hme]; split <;> omega
  have hel2 : ∀ i, ∃ s : ByteArray, i < len → W.cells? 0 (a.add (i * 1)) 1 = some [.string s] ∧ D i = .lit (.string s.data.toList) := by
   intro i
   by_cases hi : i < len
   ·obtain ⟨cs', h1, h2⟩ := hel i (by omega)
    obtain ⟨s, rfl, h3, _⟩ := DataW.trod_string Tryz.underlying9 h2
    rw [hc9] at h1
    exact ⟨s, fun _ => ⟨h1, (Prod.mk.inj h3).1⟩⟩
   ·exact ⟨default, fun h => absurd h hi⟩
  obtain ⟨S, hS⟩ := Classical.axiomOfChoice hel2
  have hr := row_at (cs := fun i => [Value.string (S i)]) (by omega) fun i hi => (hS i hi).1
  refine ⟨_, (List.range len).map fun i => (S i).data.toList, rfl, .sl 1 _ false true (some a) len cap (fun j _ => .string (S j)) (by simp [strs]) (by simpa [strs] using hl) (fun h => by cases h) (fun u hu => ?_) (fun j hj => ?_) (fun j i u w hu hw => ?_), ?_⟩
  ·simp only [strs, List.map_map, List.mem_map] at hu
   obtain ⟨_, _, rfl⟩ := hu
   rfl
  ·have hj' : j < len := by simpa [strs] using hj
   obtain ⟨h1, h2, _, h4⟩ := hr j hj'
   refine ⟨a, rfl, h2, h1, fun i hi => ?_⟩
   have := h4 i hi
   obtain rfl : i = 0 := by omega
   simpa using this
  ·simp only [strs, List.map_map, List.getElem?_map] at hu
   obtain ⟨q, hq, rfl⟩ := Option.map_eq_some_iff.1 hu
   obtain rfl : j = q := by
    have := List.getElem?_eq_some_iff.1 hq
    obtain ⟨h1, h2⟩ := this
    simpa using h2
   have : w = .str (S j).data.toList := by
    rcases i with _ | i
    ·exact (Option.some.inj hw).symm
    ·cases hw
   subst this
   exact .str _ _ rfl
  ·have hD : (List.range len).map D = (List.range len).map fun i => DataW.lit (.string (S i).data.toList) := List.map_congr_left fun i hi => (hS i (by simpa using hi)).2
   simp only [hD, Rows.uptoBulk]
   have : ∀ L : List Nat, nsBulk (L.map fun i => (S i).data.toList) = Rows.uptoBulkAll (L.map fun i => (DataW.lit (.string (S i).data.toList) : DataW H)) := by
    intro L
    induction L with
    | nil => rfl
    | cons q r ih => simp only [List.map_cons, nsBulk, Rows.uptoBulkAll, Rows.uptoBulk, ih]; omega
   rw [this]
   omega
theorem open_sl {t e : TypeId} {fuel : Nat} {cs : List Value} {x : DataW H × List MemPlace} (ht : Tryz.prog.underlying t = some (.slice e)) (h : DataW.trod enc Tryz.prog W 0 sp hd fuel t cs = some x) :
  (cs = [.slice none 0 0] ∧ x = (.nil, [])) ∨
  ∃ (a : Addr) (len cap n : Nat) (D : Nat → DataW H) (R : List (DataW H)), n < fuel ∧ cs = [.slice (some a) len cap] ∧ len ≤ cap ∧ x.1 = .slice ((List.range len).map D) R ∧
   ∀ i, i < len → ∃ cs' pl, W.cells? 0 (a.add (i * Tryz.prog.cellsOf e)) (Tryz.prog.cellsOf e) = some cs' ∧ DataW.trod enc Tryz.prog W 0 sp hd n e cs' = some (D i, pl) := by
 rcases DataW.trod_slice ht h with h0 | ⟨a, len, cap, elems, rest, n, rfl, rfl, rfl, hb, hl, hm, hlen, hel, _, _⟩
 ·exact .inl h0
 ·refine .inr ⟨a, len, cap, n, fun i => (elems.getD i (.nil, [])).1, rest.map (·.1), by omega, rfl, hl, ?_, fun i hi => ?_⟩
  ·show DataW.slice (elems.map (·.1)) _ = _
   rw [map_by_index elems (.nil, []) (·.1), hlen]
  ·have key := hel i hi
   rw [List.getElem?_eq_getElem (by omega)] at key
   obtain ⟨cs', h1, h2⟩ := Option.bind_eq_some_iff.1 key
   refine ⟨cs', elems[i].2, h1, ?_⟩
   rw [h2]
   simp [List.getD, List.getElem?_eq_getElem (show i < elems.length by omega)]
theorem i64_wf {n : Int} (h : (Lit.int .i64 n : Lit).wf = true) : i64 n := by
 simp [Lit.wf, IntKind.min, IntKind.max, IntKind.signed, IntKind.bits] at h
 exact ⟨by omega, by omega⟩
theorem VP_mk {v : V} {lp : List PV} (h : VPs v.l lp) (hn : i64 v.n) : VP v (.agg (vc v 5 lp false 1 false)) := by
 cases v
 exact ⟨5, lp, false, true, 1, false, true, rfl, h, .inl rfl, .inl rfl, hn⟩
theorem VPs_map (f : Nat → V) (g : Nat → PV) : ∀ L : List Nat, (∀ i ∈ L, VP (f i) (g i)) → VPs (L.map f) (L.map g)
 | [], _ => rfl
 | a :: r, h => ⟨g a, r.map g, rfl, h a (by simp), VPs_map f g r fun i hi => h i (by simp [hi])⟩
structure VR (W : World) (v : V) (lp : List PV) (cs : List Value) : Prop where
 l : VPs v.l lp
 n : i64 v.n
 len : cs.length = 5
 rep : ∀ (i : Nat) u c, (vc v 5 lp false 1 false)[i]? = some u → cs[i]? = some c → Rep0 W (Zall W) u c
theorem value_read : ∀ (fuel : Nat) (cs : List Value) (x : DataW H × List MemPlace), DataW.trod enc Tryz.prog W 0 sp hd fuel 25 cs = some x →
  ∃ v lp, VR W v lp cs ∧ bulkV v ≤ Rows.uptoBulk x.1 := by
 intro fuel
 induction fuel using Nat.strongRecOn with
 | _ fuel ih =>
  intro cs x h
  have hc25 : Tryz.prog.cellsOf 25 = 5 := by kernel_rfl
  have hc3 : Tryz.prog.cellsOf 3 = 1 := by kernel_rfl
  have hc9 : Tryz.prog.cellsOf 9 = 1 := by kernel_rfl
  have hc22 : Tryz.prog.cellsOf 22 = 1 := by kernel_rfl
  have hc23 : Tryz.prog.cellsOf 23 = 1 := by kernel_rfl
  obtain ⟨xs, m, rfl, rfl, hl, hxl, hf⟩ := DataW.trod_struct Tryz.underlying25 h
  rw [hc25] at hl
  have h0 : DataW.trod enc Tryz.prog W 0 sp hd m 3 ((cs.drop 0).take (Tryz.prog.cellsOf 3)) = xs[0]? := hf 0 _ rfl
  rw [hc3] at h0
  have h1 : DataW.trod enc Tryz.prog W 0 sp hd m 3 ((cs.drop 1).take (Tryz.prog.cellsOf 3)) = xs[1]? := hf 1 _ rfl
  rw [hc3] at h1
  have h2 : DataW.trod enc Tryz.prog W 0 sp hd m 9 ((cs.drop 2).take (Tryz.prog.cellsOf 9)) = xs[2]? := hf 2 _ rfl
  rw [hc9] at h2
  have h3 : DataW.trod enc Tryz.prog W 0 sp hd m 22 ((cs.drop 3).take (Tryz.prog.cellsOf 22)) = xs[3]? := hf 3 _ rfl
  rw [hc22] at h3
  have h4 : DataW.trod enc Tryz.prog W 0 sp hd m 23 ((cs.drop 4).take (Tryz.prog.cellsOf 23)) = xs[4]? := hf 4 _ rfl
  rw [hc23] at h4
  obtain ⟨c0, c1, c2, c3, c4, rfl⟩ : ∃ c0 c1 c2 c3 c4, cs = [c0, c1, c2, c3, c4] := by
   match cs, hl with
   | [a, b, c, d, e], _ => exact ⟨a, b, c, d, e, rfl⟩
  obtain ⟨x0, x1, x2, x3, x4, rfl⟩ : ∃ x0 x1 x2 x3 x4, xs = [x0, x1, x2, x3, x4] := by
   match xs, hxl with
   | [a, b, c, d, e], _ => exact ⟨a, b, c, d, e, rfl⟩
  obtain ⟨k, hk, rfl, _⟩ := DataW.trod_int Tryz.underlying3 h0
  obtain ⟨n, hn, rfl, hwf⟩ := DataW.trod_int Tryz.underlying3 h1
  obtain ⟨s, hs, rfl, _⟩ := DataW.trod_string Tryz.underlying9 h2
  obtain ⟨v4, ns, hv4, r4, b4⟩ := strs_read h4
  simp at hk hn hs hv4
  subst hk hn hs hv4
  have key : ∃ (l : List V) (lp : List PV), VPs l lp ∧ Rep0 W (Zall W) (.sl 5 lp false true) c3 ∧ bulkVs l ≤ Rows.uptoBulk x3.1 := by
   rcases open_sl Tryz.underlying22 h3 with ⟨hc, rfl⟩ | ⟨a, len, cap, n', D, R, hn', hc, hle, hx3, hel⟩
   ·simp at hc
    subst hc
    exact ⟨[], [], rfl, .sl 5 [] false true none 0 0 (fun _ _ => undef) rfl (Nat.le_refl _) (fun h => by cases h) (fun _ h => by cases h) (fun j hj => absurd hj (by simp)) (fun j i x u hx => by simp at hx), by simp [bulkVs]⟩
   ·simp at hc
    subst hc
    have hel2 : ∀ i, ∃ (y : V × List PV × List Value), i < len → W.cells? 0 (a.add (i * 5)) 5 = some y.2.2 ∧ VR W y.1 y.2.1 y.2.2 ∧ bulkV y.1 ≤ Rows.uptoBulk (D i) := by
     intro i
     by_cases hi : i < len
     ·obtain ⟨cs', pl, g1, g2⟩ := hel i hi
      rw [hc25] at g1
      obtain ⟨v, lp, g3, g4⟩ := ih n' (by omega) cs' _ g2
      exact ⟨(v, lp, cs'), fun _ => ⟨g1, g3, g4⟩⟩
     ·exact ⟨(.mk 0 0 [] [] [], [], []), fun h => absurd h hi⟩
    obtain ⟨Y, hY⟩ := Classical.axiomOfChoice hel2
    have hr := row_at (cs := fun i => (Y i).2.2) (by omega) fun i hi => (hY i hi).1
    refine ⟨(List.range len).map fun i => (Y i).1, (List.range len).map fun i => .agg (vc (Y i).1 5 (Y i).2.1 false 1 false), VPs_map _ _ _ fun i hi => ?_, .sl 5 _ false true (some a) len cap (fun j i => (Y j).2.2.getD i undef) (by simp) (by simpa using hle) (fun h => by cases h) (fun u hu => ?_) (fun j hj => ?_) (fun j i u w hu hw => ?_), ?_⟩
    ·have hi' : i < len := by simpa using hi
     exact VP_mk (hY i hi').2.1.l (hY i hi').2.1.n
    ·simp only [List.mem_map] at hu
     obtain ⟨_, _, rfl⟩ := hu
     rfl
    ·have hj' : j < len := by simpa using hj
     obtain ⟨e1, e2, e3, e4⟩ := hr j hj'
     refine ⟨a, rfl, e2, e1, fun i hi => ?_⟩
     rw [e4 i hi, List.getD_eq_getElem?_getD]
     rw [List.getElem?_eq_getElem (by rw [e3]; exact hi)]
     rfl
    ·simp only [List.getElem?_map] at hu
     obtain ⟨q, hq, rfl⟩ := Option.map_eq_some_iff.1 hu
     obtain ⟨q1, q2⟩ := List.getElem?_eq_some_iff.1 hq
     have hjq : j = q := by simpa using q2
     subst hjq
     have hj' : j < len := by simpa using q1
     have hv := (hY j hj').2.1
     have hi5 : i < 5 := by
      have := (List.getElem?_eq_some_iff.1 hw).1
      exact this
     refine hv.rep i w _ hw ?_
     rw [List.getD_eq_getElem?_getD, List.getElem?_eq_getElem (by rw [hv.len]; exact hi5)]
     rfl
    ·have : ∀ L : List Nat, (∀ i ∈ L, i < len) → bulkVs (L.map fun i => (Y i).1) ≤ Rows.uptoBulkAll (L.map D) := by
      intro L
      induction L with
      | nil => intro _; simp [bulkVs]
      | cons q r ih2 =>
       intro hL
       have := (hY q (hL q (by simp))).2.2
       have := ih2 fun i hi => hL i (by simp [hi])
       simp only [List.map_cons, bulkVs, Rows.uptoBulkAll]
       omega
     have := this (List.range len) fun i hi => by simpa using hi
     rw [hx3, Rows.uptoBulk]
     omega
  obtain ⟨l, lp, hvl, r3, b3⟩ := key
  refine ⟨.mk k n s.data.toList l ns, lp, ⟨hvl, i64_wf hwf, rfl, fun i u c hu hc => ?_⟩, ?_⟩
  ·rcases i with _ | _ | _ | _ | _ | i
   ·cases hu; cases hc; exact .int _ _
   ·cases hu; cases hc; exact .int _ _
   ·cases hu; cases hc; exact .str _ _ rfl
   ·cases hu; cases hc; exact r3
   ·cases hu; cases hc; exact r4
   ·simp [vc] at hu
  ·simp only [bulkV, List.map_cons, List.map_nil, Rows.uptoBulk, Rows.uptoBulkAll] at *
   omega
end Go.Vc
namespace Go.Vc
open Go Go.Proofs Go.Deep Go.ChangeShapes
set_option maxRecDepth 100000
open Go.Proofs.YthhokabbanhllaaGreatDoor (Rows.uptoBulk Rows.uptoBulkAll)
variable {H : Type} {enc : TypeId × Value → H} {W : World} {sp : Nat → Bool} {hd : Bool}
abbrev φN : Phi := fun _ => none
abbrev RN (W : World) : RC := ⟨W, Zall W, W.heap.size, φN⟩
theorem rep_of0 {u : PV} {x : Value} (h : Rep0 W (Zall W) u x) (hu : (match u with | .int .. => true | .str _ => true | .sl _ _ _ o => o | _ => false) = true) : Rep (RN W) u x := by
 cases h with
 | int k n => exact .int k n
 | str l s h => exact .str l s h
 | sl sz l t o a n c cs h1 h2 h3 h4 h5 h6 =>
  simp only at hu
  subst hu
  exact .sl _ _ _ _ _ (Rep0.step (.sl sz l t true a n c cs h1 h2 h3 h4 h5 h6) fun b hb => ⟨⟨hb, .inl rfl⟩, rfl⟩)
 | bool b => cases hu
 | raw v => cases hu
theorem agg_of {v : Value} {n : Nat} (hn : n ≠ 1) {cs : List Value} (h : v.cells.toList = cs) (hl : cs.length = n) : v = .agg ⟨cs⟩ := by
 cases v with
 | agg c => subst h; rfl
 | _ => subst h; exact absurd hl.symm hn
theorem val_read {v : Value} {d : DataW H} {p : List MemPlace} (h : DataW.Trod enc Tryz.prog W 0 sp hd 25 v d p) (hb : Rows.uptoBulk d ≤ 1048576) :
  ∃ w lp, VA w 5 lp 1 ∧ bulkV w ≤ Rows.uptoBulk d ∧ Rep (RN W) (.agg (vc w 5 lp false 1 false)) v := by
 obtain ⟨fuel, h⟩ := h
 generalize hcs : v.cells.toList = cs at h
 obtain ⟨w, lp, hw, hwb⟩ := value_read _ _ _ h
 have hv := agg_of (n := 5) (by decide) hcs hw.len
 have hwb : bulkV w ≤ Rows.uptoBulk d := hwb
 refine ⟨w, lp, ⟨hw.l, .inl rfl, .inl rfl, hw.n, by omega⟩, hwb, ?_⟩
 rw [hv]
 refine .agg _ _ (by simp [vc, hw.len]) fun i u c hu hc => ?_
 have hr : ∀ (j : Nat) u c, (vc w 5 lp false 1 false)[j]? = some u → cs[j]? = some c → Rep0 W (Zall W) u c := hw.rep
 rcases i with _ | _ | _ | _ | _ | i
 ·cases hu; exact rep_of0 (hr 0 _ _ rfl hc) rfl
 ·cases hu; exact rep_of0 (hr 1 _ _ rfl hc) rfl
 ·cases hu; exact rep_of0 (hr 2 _ _ rfl hc) rfl
 ·cases hu; exact rep_of0 (hr 3 _ _ rfl hc) rfl
 ·cases hu; exact rep_of0 (hr 4 _ _ rfl hc) rfl
 ·simp [vc] at hu
theorem glob_ok (h : laidMetH Tryz.prog [("math/bits.deBruijn32tab", Go.Proofs.YthhokabbanhllaaGreatDoor.Rows.laid_math_bits_deBruijn32tab), ("math/bits.deBruijn64tab", Go.Proofs.YthhokabbanhllaaGreatDoor.Rows.laid_math_bits_deBruijn64tab), ("internal/strconv.uint64pow10", Go.Proofs.YthhokabbanhllaaGreatDoor.Rows.laid_internal_strconv_uint64pow10)] W) : Glob K W (Zall W) := by
 have hg : Tryz.prog.globalNamed "internal/strconv.uint64pow10" = some 1 := by kernel_rfl
 have h : laidMet Tryz.prog [("math/bits.deBruijn32tab", Go.Proofs.YthhokabbanhllaaGreatDoor.Rows.laid_math_bits_deBruijn32tab), ("math/bits.deBruijn64tab", Go.Proofs.YthhokabbanhllaaGreatDoor.Rows.laid_math_bits_deBruijn64tab), ("internal/strconv.uint64pow10", Go.Proofs.YthhokabbanhllaaGreatDoor.Rows.laid_internal_strconv_uint64pow10)] W := h
 have hT : Lib.TabIs Tryz.prog W "internal/strconv.uint64pow10" .u64 [1, 10, 100, 1000, 10000, 100000, 1000000, 10000000, 100000000, 1000000000, 10000000000, 100000000000, 1000000000000, 10000000000000, 100000000000000, 1000000000000000, 10000000000000000, 100000000000000000, 1000000000000000000, 10000000000000000000] :=
  Lib.tabIs_of_head (rest := []) (t := 120) (e := 112) (n := 20) hg (by kernel_rfl) (by kernel_rfl) (by kernel_rfl) (by kernel_rfl) (by kernel_rfl) h.tail.tail
 obtain ⟨c, T, fr, hb, hcs⟩ : ∃ (c : Array Value) (T : TypeId) (fr : Nat × Nat), W.heap[1]? = some (.cells c T fr) ∧ c.size = 20 := by
  have h0 : W.var? Tryz.prog "internal/strconv.uint64pow10" = _ := hT
  simp only [World.var?, hg, Option.bind_some] at h0
  split at h0
  ·rename_i cs T fr hh
   exact ⟨cs, T, fr, hh, by rw [Option.some.inj h0]; rfl⟩
  ·cases h0
 intro g
 rcases g with _ | _ | g
 ·exact .inl rfl
 ·refine .inr ⟨powT, fun i => .int .u64 (([1, 10, 100, 1000, 10000, 100000, 1000000, 10000000, 100000000, 1000000000, 10000000000, 100000000000, 1000000000000, 10000000000000, 100000000000000, 1000000000000000, 10000000000000000, 100000000000000000, 1000000000000000000, 10000000000000000000] : List Int).getD i 0), rfl, cell_lt (hT.cell hg 0 (by decide)), fun i hi => hT.cell hg i hi, fun i u hu => ?_, c, T, fr, hb, hcs⟩
  rcases i with _ | _ | _ | _ | _ | _ | _ | _ | _ | _ | _ | _ | _ | _ | _ | _ | _ | _ | _ | _ | i
  all_goals first
  | (cases hu; exact .int _ _)
  | (simp [powT] at hu; done)
 ·exact .inl rfl
end Go.Vc
namespace Go.Vc
open Go Go.Proofs Go.Deep Go.ChangeShapes Go.WideShapes Go.ChangeAt Go.RowKit
open Go.Proofs.YthhokabbanhllaaGreatDoor
set_option maxRecDepth 100000
theorem own : ownKnob Tryz.prog.godebug = none := by kernel_rfl
theorem below_of {W W' : World} (h : Frame0 W (ownOf (Zall W) φN) W') : Below W.heap.size W W' :=
 ⟨h.os, h.tape, h.output, h.size, fun k hk => h.block k hk fun ⟨⟨_, _, h1⟩, _⟩ => (by cases h1)⟩
theorem law_end {f : Nat} {args : List PV} {W : World} {vs : List Value} (hc : CSpec K f args [] LawPost) (hl : args.length = vs.length)
  (hr : ∀ (i : Nat) u x, args[i]? = some u → vs[i]? = some x → Rep (RN W) u x) (hg : Glob K W (Zall W)) :
  Calls Tryz.prog f ⟨vs⟩ W fun e w' => e = .returned (.bool true) ∧ Below W.heap.size W w' := by
 refine (hc W (Zall W) φN vs ⟨hl, hr, ?_, fun b hb => hb, hg⟩).mono fun e w' ⟨v, he, ha⟩ => ?_
 ·exact ⟨fun id b h => (by cases h), fun i j b m m' _ h => (by cases h), fun id x h => (by cases h)⟩
 ·obtain ⟨r, h', φ', Z', ⟨rfl, rfl⟩, h2, _, _, _, _, _, h8⟩ := ha
  cases h2
  exact ⟨he, below_of h8⟩
end Go.Vc
namespace Go.Vc
open Go Go.Proofs Go.Deep Go.ChangeShapes
set_option maxRecDepth 100000
open Go.Proofs.YthhokabbanhllaaGreatDoor (Rows.uptoBulk Rows.uptoBulkAll)
variable {H : Type} {enc : TypeId × Value → H} {W : World} {sp : Nat → Bool} {hd : Bool}
theorem string_read {fuel : Nat} {s : ByteArray} {x : DataW H × List MemPlace} (h : DataW.trod enc Tryz.prog W 0 sp hd fuel 9 [.string s] = some x) :
  s.data.toList.length ≤ Rows.uptoBulk x.1 := by
 obtain ⟨s', hs, h3, _⟩ := DataW.trod_string Tryz.underlying9 h
 cases hs
 rw [h3]
 simp only [Rows.uptoBulk]
 omega
end Go.Vc
