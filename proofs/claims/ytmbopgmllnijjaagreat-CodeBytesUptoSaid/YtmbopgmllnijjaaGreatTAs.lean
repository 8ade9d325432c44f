/- What is proved here: contracts of functions of the program: of each function what it hands back and what it leaves in memory. Conditions: those that each theorem names. -/
import Derived.Below
import Derived.WalkKit
import Derived.ProofKit
import Derived.OpenShut
import Derived.Deep.DeepHandedRow
import Derived.Test.YtmbopgmllnijjaaGreatTAo
import Derived.Test.YtmbopgmllnijjaaGreatTAr
set_option linter.unusedVariables false
set_option linter.unusedSimpArgs false
set_option linter.unusedSectionVars false
namespace Go.Vc
open Go Go.Proofs Go.Deep Go.ChangeShapes
set_option maxRecDepth 100000
open Go.Proofs.YtmbopgmllnijjaaGreat (Rows.uptoBulk Rows.uptoBulkAll)
variable {H : Type} {enc : TypeId × Value → H} {W : World} {sp : Nat → Bool} {hd : Bool}
inductive All2 {α β : Type} (P : α → β → Prop) : List α → List β → Prop
 | nil : All2 P [] []
 | cons {a : α} {b : β} {l : List α} {m : List β} : P a b → All2 P l m → All2 P (a :: l) (b :: m)
theorem All2.map {α β : Type} {P : α → β → Prop} (f : Nat → α) (g : Nat → β) : ∀ L : List Nat, (∀ i ∈ L, P (f i) (g i)) → All2 P (L.map f) (L.map g)
 | [], _ => .nil
 | a :: r, h => .cons (h a (by simp)) (All2.map f g r fun i hi => h i (by simp [hi]))
theorem bulk_pos (d : DataW H) : 1 ≤ Rows.uptoBulk d := by
 cases d with
 | lit l => cases l <;> simp [Rows.uptoBulk]
 | _ => simp [Rows.uptoBulk]
theorem bulkAll_len : ∀ l : List (DataW H), l.length ≤ Rows.uptoBulkAll l
 | [] => Nat.zero_le _
 | d :: r => by
  have h1 := bulk_pos d
  have h2 := bulkAll_len r
  simp only [List.length_cons, Rows.uptoBulkAll]
  omega
theorem bulkAll_mem : ∀ (l : List (DataW H)) (x : DataW H), x ∈ l → Rows.uptoBulk x ≤ Rows.uptoBulkAll l
 | y :: r, x, h => by
  simp only [Rows.uptoBulkAll]
  rcases List.mem_cons.1 h with rfl | h
  ·omega
  ·have := bulkAll_mem r x h; omega
theorem list_read {t e : TypeId} {c : Nat} {α : Type} (d0 : α) (P : α → List PV → Prop) (hc : 0 < c) (hce : Tryz.prog.cellsOf e = c) (ht : Tryz.prog.underlying t = some (.slice e)) {fuel : Nat} {cs : List Value} {x : DataW H × List MemPlace}
  (h : DataW.trod enc Tryz.prog W 0 sp hd fuel t cs = some x)
  (hel : ∀ n cs' y, DataW.trod enc Tryz.prog W 0 sp hd n e cs' = some y → Rows.uptoBulk y.1 ≤ Rows.uptoBulk x.1 →
   ∃ a us, P a us ∧ us.length = c ∧ cs'.length = c ∧ ∀ (i : Nat) u k, us[i]? = some u → cs'[i]? = some k → Rep0 W (Zall W) u k) :
  ∃ (v : Value) (l : List α) (us : List (List PV)), cs = [v] ∧ Rep0 W (Zall W) (.sl c (us.map PV.agg) false true) v ∧ l.length ≤ Rows.uptoBulk x.1 ∧ All2 P l us := by
 rcases open_sl ht h with ⟨rfl, rfl⟩ | ⟨a, len, cap, n, D, R, hn, rfl, hl, hx, hel'⟩
 ·exact ⟨_, [], [], rfl, .sl c [] false true none 0 0 (fun _ _ => undef) rfl (Nat.le_refl _) (fun h => by cases h) (fun _ h => by cases h) (fun j hj => absurd hj (by simp)) (fun j i x u hx => by simp at hx), Nat.zero_le _, .nil⟩
 ·have hbD : ∀ i, i < len → Rows.uptoBulk (D i) ≤ Rows.uptoBulk x.1 := fun i hi => by
   have h1 := bulkAll_mem ((List.range len).map D) (D i) (List.mem_map.2 ⟨i, List.mem_range.2 hi, rfl⟩)
   rw [hx, Rows.uptoBulk]
   omega
  have hel2 : ∀ i, ∃ Y : α × List PV × List Value, i < len → W.cells? 0 (a.add (i * c)) c = some Y.2.2 ∧ P Y.1 Y.2.1 ∧ Y.2.1.length = c ∧ Y.2.2.length = c ∧ ∀ (k : Nat) u w, Y.2.1[k]? = some u → Y.2.2[k]? = some w → Rep0 W (Zall W) u w := by
   intro i
   by_cases hi : i < len
   ·obtain ⟨cs', pl, h1, h2⟩ := hel' i hi
    rw [hce] at h1
    obtain ⟨b, us, g1, g2, g3, g4⟩ := hel n cs' _ h2 (hbD i hi)
    exact ⟨(b, us, cs'), fun _ => ⟨h1, g1, g2, g3, g4⟩⟩
   ·exact ⟨(d0, [], []), fun h => absurd h hi⟩
  obtain ⟨Y, hY⟩ := Classical.axiomOfChoice hel2
  have hr := row_at (cs := fun i => (Y i).2.2) hc fun i hi => (hY i hi).1
  refine ⟨_, (List.range len).map fun i => (Y i).1, (List.range len).map fun i => (Y i).2.1, rfl, .sl c _ false true (some a) len cap (fun j k => ((Y j).2.2).getD k undef) (by simp) (by simpa using hl) (fun h => by cases h) (fun u hu => ?_) (fun j hj => ?_) (fun j i u w hu hw => ?_), ?_, All2.map _ _ _ fun i hi => (hY i (by simpa using hi)).2.1⟩
  ·simp only [List.mem_map] at hu
   obtain ⟨_, ⟨i, hi, rfl⟩, rfl⟩ := hu
   exact (hY i (by simpa using hi)).2.2.1
  ·have hj' : j < len := by simpa using hj
   obtain ⟨e1, e2, e3, e4⟩ := hr j hj'
   refine ⟨a, rfl, e2, e1, fun i hi => ?_⟩
   rw [e4 i hi, List.getD_eq_getElem?_getD]
   rw [List.getElem?_eq_getElem (by rw [e3]; exact hi)]
   rfl
  ·simp only [List.getElem?_map, List.map_map] at hu
   obtain ⟨q, hq, rfl⟩ := Option.map_eq_some_iff.1 hu
   obtain ⟨q1, q2⟩ := List.getElem?_eq_some_iff.1 hq
   have hjq : j = q := by simpa using q2
   subst hjq
   have hj' : j < len := by simpa using q1
   have hv := hY j hj'
   have hic : i < c := by
    have := (List.getElem?_eq_some_iff.1 hw).1
    rw [← hv.2.2.1]
    exact this
   refine hv.2.2.2.2 i w _ hw ?_
   rw [List.getD_eq_getElem?_getD, List.getElem?_eq_getElem (by rw [hv.2.2.2.1]; exact hic)]
   rfl
  ·have := bulkAll_len ((List.range len).map D)
   rw [hx, Rows.uptoBulk]
   simp at this ⊢
   omega
def InP (x : IN) (us : List PV) : Prop := us = [.int .i64 x.op, .int .i64 x.a, .int .i64 x.b] ∧ i64 x.op ∧ i64 x.a ∧ i64 x.b
theorem ins_cells {fuel : Nat} {cs : List Value} {x : DataW H × List MemPlace} (h : DataW.trod enc Tryz.prog W 0 sp hd fuel 69 cs = some x) :
  ∃ i us, InP i us ∧ us.length = 3 ∧ cs.length = 3 ∧ ∀ (k : Nat) u c, us[k]? = some u → cs[k]? = some c → Rep0 W (Zall W) u c := by
 have hcI : Tryz.prog.cellsOf 69 = 3 := by kernel_rfl
 have hc3 : Tryz.prog.cellsOf 3 = 1 := by kernel_rfl
 obtain ⟨xs, m, rfl, hx, hl, hxl, hf⟩ := DataW.trod_struct Tryz.underlying69 h
 rw [hcI] at hl
 have h0 : DataW.trod enc Tryz.prog W 0 sp hd m 3 ((cs.drop 0).take (Tryz.prog.cellsOf 3)) = xs[0]? := hf 0 _ rfl
 have h1 : DataW.trod enc Tryz.prog W 0 sp hd m 3 ((cs.drop 1).take (Tryz.prog.cellsOf 3)) = xs[1]? := hf 1 _ rfl
 have h2 : DataW.trod enc Tryz.prog W 0 sp hd m 3 ((cs.drop 2).take (Tryz.prog.cellsOf 3)) = xs[2]? := hf 2 _ rfl
 rw [hc3] at h0 h1 h2
 obtain ⟨c0, c1, c2, rfl⟩ : ∃ c0 c1 c2, cs = [c0, c1, c2] := by
  match cs, hl with
  | [a, b, c], _ => exact ⟨a, b, c, rfl⟩
 obtain ⟨x0, x1, x2, rfl⟩ : ∃ x0 x1 x2, xs = [x0, x1, x2] := by
  match xs, hxl with
  | [a, b, c], _ => exact ⟨a, b, c, rfl⟩
 obtain ⟨n0, e0, rfl, w0⟩ := DataW.trod_int Tryz.underlying3 h0
 obtain ⟨n1, e1, rfl, w1⟩ := DataW.trod_int Tryz.underlying3 h1
 obtain ⟨n2, e2, rfl, w2⟩ := DataW.trod_int Tryz.underlying3 h2
 simp at e0 e1 e2
 subst e0 e1 e2
 refine ⟨⟨n0, n1, n2⟩, _, ⟨rfl, i64_wf w0, i64_wf w1, i64_wf w2⟩, rfl, rfl, fun i u c hu hc => ?_⟩
 rcases i with _ | _ | _ | i
 ·cases hu; cases hc; exact .int _ _
 ·cases hu; cases hc; exact .int _ _
 ·cases hu; cases hc; exact .int _ _
 ·simp at hu
theorem InP.row : ∀ {l : List IN} {us : List (List PV)}, All2 InP l us → us.map PV.agg = l.map INP ∧ ∀ x ∈ l, i64 x.op ∧ i64 x.a ∧ i64 x.b
 | _, _, .nil => ⟨rfl, fun x h => by cases h⟩
 | _, _, .cons h1 h2 => by
  obtain ⟨e, r⟩ := InP.row h2
  obtain ⟨rfl, b⟩ := h1
  refine ⟨by simp only [List.map_cons, e]; rfl, fun x hx => ?_⟩
  rcases List.mem_cons.1 hx with rfl | hx
  ·exact b
  ·exact r x hx
def FuP (f : FD) (us : List PV) : Prop := us = fdc f 3 false ∧ FB f
theorem fun_cells {fuel : Nat} {cs : List Value} {x : DataW H × List MemPlace} (h : DataW.trod enc Tryz.prog W 0 sp hd fuel 55 cs = some x) (hb : Rows.uptoBulk x.1 ≤ 1048576) :
  ∃ f us, FuP f us ∧ us.length = 4 ∧ cs.length = 4 ∧ ∀ (k : Nat) u c, us[k]? = some u → cs[k]? = some c → Rep0 W (Zall W) u c := by
 have hcF : Tryz.prog.cellsOf 55 = 4 := by kernel_rfl
 have hcI : Tryz.prog.cellsOf 69 = 3 := by kernel_rfl
 have hc3 : Tryz.prog.cellsOf 3 = 1 := by kernel_rfl
 have hc9 : Tryz.prog.cellsOf 9 = 1 := by kernel_rfl
 have hcC : Tryz.prog.cellsOf 53 = 1 := by kernel_rfl
 obtain ⟨xs, m, rfl, hx, hl, hxl, hf⟩ := DataW.trod_struct Tryz.underlying55 h
 rw [hcF] at hl
 have h0 : DataW.trod enc Tryz.prog W 0 sp hd m 9 ((cs.drop 0).take (Tryz.prog.cellsOf 9)) = xs[0]? := hf 0 _ rfl
 have h1 : DataW.trod enc Tryz.prog W 0 sp hd m 3 ((cs.drop 1).take (Tryz.prog.cellsOf 3)) = xs[1]? := hf 1 _ rfl
 have h2 : DataW.trod enc Tryz.prog W 0 sp hd m 3 ((cs.drop 2).take (Tryz.prog.cellsOf 3)) = xs[2]? := hf 2 _ rfl
 have h3 : DataW.trod enc Tryz.prog W 0 sp hd m 53 ((cs.drop 3).take (Tryz.prog.cellsOf 53)) = xs[3]? := hf 3 _ rfl
 rw [hc9] at h0
 rw [hc3] at h1 h2
 rw [hcC] at h3
 obtain ⟨c0, c1, c2, c3, rfl⟩ : ∃ c0 c1 c2 c3, cs = [c0, c1, c2, c3] := by
  match cs, hl with
  | [a, b, c, d], _ => exact ⟨a, b, c, d, rfl⟩
 obtain ⟨x0, x1, x2, x3, rfl⟩ : ∃ x0 x1 x2 x3, xs = [x0, x1, x2, x3] := by
  match xs, hxl with
  | [a, b, c, d], _ => exact ⟨a, b, c, d, rfl⟩
 obtain ⟨s, e0, rfl, _⟩ := DataW.trod_string Tryz.underlying9 h0
 obtain ⟨n1, e1, rfl, w1⟩ := DataW.trod_int Tryz.underlying3 h1
 obtain ⟨n2, e2, rfl, w2⟩ := DataW.trod_int Tryz.underlying3 h2
 obtain ⟨v, l, us, e3, hr, hln, hall⟩ := list_read (⟨0, 0, 0⟩ : IN) InP (by decide) hcI Tryz.underlying53 h3 fun n cs' y hy _ => ins_cells hy
 simp at e0 e1 e2 e3
 subst e0 e1 e2 e3
 rw [hx] at hb
 simp only [List.map_cons, List.map_nil, Rows.uptoBulk, Rows.uptoBulkAll] at hb
 obtain ⟨e, hi⟩ := InP.row hall
 rw [e] at hr
 refine ⟨⟨s.data.toList, n1, n2, l⟩, _, ⟨rfl, ⟨by show s.data.toList.length ≤ _; omega, i64_wf w1, i64_wf w2, by show l.length ≤ _; omega, hi⟩⟩, rfl, rfl, fun i u c hu hc => ?_⟩
 rcases i with _ | _ | _ | _ | i
 ·cases hu; cases hc; exact .str _ _ rfl
 ·cases hu; cases hc; exact .int _ _
 ·cases hu; cases hc; exact .int _ _
 ·cases hu; cases hc; exact hr
 ·simp [fdc] at hu
theorem FuP.row : ∀ {l : List FD} {us : List (List PV)}, All2 FuP l us → FPs l (us.map PV.agg) ∧ ∀ f ∈ l, FB f
 | _, _, .nil => ⟨rfl, fun x h => by cases h⟩
 | _, _, .cons h1 h2 => by
  obtain ⟨e, r⟩ := FuP.row h2
  obtain ⟨rfl, b⟩ := h1
  refine ⟨⟨_, _, rfl, ⟨3, false, true, rfl, .inl rfl⟩, e⟩, fun x hx => ?_⟩
  rcases List.mem_cons.1 hx with rfl | hx
  ·exact b
  ·exact r x hx
def VaP (N : Nat) (v : V) (us : List PV) : Prop := ∃ lp, us = vc v 5 lp false 1 false ∧ VPs v.l lp ∧ i64 v.n ∧ bulkV v ≤ N
theorem val_cells {fuel : Nat} {cs : List Value} {x : DataW H × List MemPlace} (h : DataW.trod enc Tryz.prog W 0 sp hd fuel 58 cs = some x) {N : Nat} (hb : Rows.uptoBulk x.1 ≤ N) :
  ∃ v us, VaP N v us ∧ us.length = 5 ∧ cs.length = 5 ∧ ∀ (k : Nat) u c, us[k]? = some u → cs[k]? = some c → Rep0 W (Zall W) u c := by
 obtain ⟨v, lp, hv, hbv⟩ := value_read _ _ _ h
 exact ⟨v, _, ⟨lp, rfl, hv.l, hv.n, by omega⟩, rfl, hv.len, hv.rep⟩
theorem VaP.row {N : Nat} : ∀ {l : List V} {us : List (List PV)}, All2 (VaP N) l us → VPs l (us.map PV.agg) ∧ ∀ v ∈ l, i64 v.n ∧ bulkV v ≤ N
 | _, _, .nil => ⟨rfl, fun x h => by cases h⟩
 | _, _, .cons h1 h2 => by
  obtain ⟨e, r⟩ := VaP.row h2
  obtain ⟨lp, rfl, hl, hn, b⟩ := h1
  refine ⟨⟨_, _, rfl, VP_mk hl hn, e⟩, fun x hx => ?_⟩
  rcases List.mem_cons.1 hx with rfl | hx
  ·exact ⟨hn, b⟩
  ·exact r x hx
abbrev φN : Phi := fun _ => none
abbrev RN (W : World) : RC := ⟨W, Zall W, W.heap.size, φN⟩
theorem rep_of0 {u : PV} {x : Value} (h : Rep0 W (Zall W) u x) (hu : (match u with | .int .. => true | .str _ => true | .sl _ _ _ o => o | _ => false) = true) : Rep (RN W) u x := by
 cases h with
 | int k n => exact .int k n
 | str l s h => exact .str l s h
 | sl sz l t o a n c cs h1 h2 h3 h4 h5 h6 =>
  simp only at hu
  subst hu
  exact .sl _ _ _ _ _ (Rep0.step (.sl sz l t true a n c cs h1 h2 h3 h4 h5 h6) fun b hb => ⟨⟨hb, .inl rfl⟩, rfl⟩)
 | bool b => cases hu
 | raw v => cases hu
theorem agg_of {v : Value} {n : Nat} (hn : n ≠ 1) {cs : List Value} (h : v.cells.toList = cs) (hl : cs.length = n) : v = .agg ⟨cs⟩ := by
 cases v with
 | agg c => subst h; rfl
 | _ => subst h; exact absurd hl.symm hn
theorem program_read {v : Value} {d : DataW H} {p : List MemPlace} (h : DataW.Trod enc Tryz.prog W 0 sp hd 25 v d p) (hb : Rows.uptoBulk d ≤ 1048576) :
  ∃ p lf lc, PGA p 4 lf 5 lc ∧ Rep (RN W) (.agg (pgc 4 lf false 5 lc false)) v := by
 obtain ⟨fuel, h⟩ := h
 have hcP : Tryz.prog.cellsOf 25 = 2 := by kernel_rfl
 have hcF : Tryz.prog.cellsOf 55 = 4 := by kernel_rfl
 have hcV : Tryz.prog.cellsOf 58 = 5 := by kernel_rfl
 have hc1 : Tryz.prog.cellsOf 22 = 1 := by kernel_rfl
 have hc2 : Tryz.prog.cellsOf 23 = 1 := by kernel_rfl
 generalize hcs : v.cells.toList = cs at h
 obtain ⟨xs, m, rfl, hx, hl, hxl, hf⟩ := DataW.trod_struct Tryz.underlying25 h
 rw [hcP] at hl
 have h0 : DataW.trod enc Tryz.prog W 0 sp hd m 22 ((cs.drop 0).take (Tryz.prog.cellsOf 22)) = xs[0]? := hf 0 _ rfl
 have h1 : DataW.trod enc Tryz.prog W 0 sp hd m 23 ((cs.drop 1).take (Tryz.prog.cellsOf 23)) = xs[1]? := hf 1 _ rfl
 rw [hc1] at h0
 rw [hc2] at h1
 have hv := agg_of (n := 2) (by decide) hcs hl
 obtain ⟨c0, c1, rfl⟩ : ∃ c0 c1, cs = [c0, c1] := by
  match cs, hl with
  | [a, b], _ => exact ⟨a, b, rfl⟩
 obtain ⟨x0, x1, rfl⟩ : ∃ x0 x1, xs = [x0, x1] := by
  match xs, hxl with
  | [a, b], _ => exact ⟨a, b, rfl⟩
 obtain ⟨hd1, _⟩ := Prod.mk.inj hx
 rw [hd1] at hb
 simp only [List.map_cons, List.map_nil, Rows.uptoBulk, Rows.uptoBulkAll] at hb
 obtain ⟨w0, fs, us, e0, r0, l0, a0⟩ := list_read (⟨[], 0, 0, []⟩ : FD) FuP (by decide) hcF Tryz.underlying22 h0 fun n cs' y hy hyb => fun_cells hy (by omega)
 obtain ⟨w1, vs, ws, e1, r1, l1, a1⟩ := list_read (V.mk 0 0 [] [] []) (VaP 1048576) (by decide) hcV Tryz.underlying23 h1 fun n cs' y hy hyb => val_cells hy (by omega)
 simp at e0 e1
 subst e0 e1
 obtain ⟨q0, f0⟩ := FuP.row a0
 obtain ⟨q1, f1⟩ := VaP.row a1
 refine ⟨⟨fs, vs⟩, _, _, ⟨q0, q1, .inl rfl, .inl rfl, by show fs.length ≤ _; omega, by show vs.length ≤ _; omega, f0, fun v hv => ⟨(f1 v hv).1, by have := (f1 v hv).2; omega⟩⟩, ?_⟩
 rw [hv]
 refine .agg _ _ rfl fun i u c hu hc => ?_
 rcases i with _ | _ | i
 ·cases hu; cases hc; exact rep_of0 r0 rfl
 ·cases hu; cases hc; exact rep_of0 r1 rfl
 ·simp at hu
theorem glob_none : Glob K W (Zall W) := fun _ => .inl rfl
theorem own : ownKnob Tryz.prog.godebug = none := by kernel_rfl
theorem below_of {W W' : World} (h : Frame0 W (ownOf (Zall W) φN) W') : RowKit.Below W.heap.size W W' :=
 ⟨h.os, h.tape, h.output, h.size, fun k hk => h.block k hk fun ⟨⟨_, _, h1⟩, _⟩ => (by cases h1)⟩
theorem law_end {f : Nat} {args : List PV} {W : World} {vs : List Value} (hc : CSpec K f args [] LawPost) (hl : args.length = vs.length)
  (hr : ∀ (i : Nat) u x, args[i]? = some u → vs[i]? = some x → Rep (RN W) u x) (hg : Glob K W (Zall W)) :
  Calls Tryz.prog f ⟨vs⟩ W fun e w' => e = .returned (.bool true) ∧ RowKit.Below W.heap.size W w' := by
 refine (hc W (Zall W) φN vs ⟨hl, hr, ?_, fun b hb => hb, hg⟩).mono fun e w' ⟨v, he, ha⟩ => ?_
 ·exact ⟨fun id b h => (by cases h), fun i j b m m' _ h => (by cases h), fun id x h => (by cases h)⟩
 ·obtain ⟨r, h', φ', Z', ⟨rfl, rfl⟩, h2, _, _, _, _, _, h8⟩ := ha
  cases h2
  exact ⟨he, below_of h8⟩
end Go.Vc
