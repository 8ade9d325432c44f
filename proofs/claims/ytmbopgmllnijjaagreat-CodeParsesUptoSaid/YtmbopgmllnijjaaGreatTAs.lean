/- What is proved here: contracts of functions of the program: of each function what it hands back and what it leaves in memory. Conditions: those that each theorem names. -/
import Derived.Below
import Derived.WalkKit
import Derived.ProofKit
import Derived.OpenShut
import Derived.Deep.DeepHandedRow
import Derived.Test.YtmbopgmllnijjaaGreatTAo
import Derived.Test.YtmbopgmllnijjaaGreatTAr
set_option linter.unusedVariables false
set_option linter.unusedSimpArgs false
set_option linter.unusedSectionVars false
namespace Go.Vc
open Go Go.Proofs Go.Deep Go.ChangeShapes
set_option maxRecDepth 100000
open Go.Proofs.YtmbopgmllnijjaaGreat (Rows.uptoBulk Rows.uptoBulkAll)
variable {H : Type} {enc : TypeId × Value → H} {W : World} {sp : Nat → Bool} {hd : Bool}
inductive All2 {α β : Type} (P : α → β → Prop) : List α → List β → Prop
 | nil : All2 P [] []
 | cons {a : α} {b : β} {l : List α} {m : List β} : P a b → All2 P l m → All2 P (a :: l) (b :: m)
theorem All2.map {α β : Type} {P : α → β → Prop} (f : Nat → α) (g : Nat → β) : ∀ L : List Nat, (∀ i ∈ L, P (f i) (g i)) → All2 P (L.map f) (L.map g)
 | [], _ => .nil
 | a :: r, h => .cons (h a (by simp)) (All2.map f g r fun i hi => h i (by simp [hi]))
theorem bulk_pos (d : DataW H) : 1 ≤ Rows.uptoBulk d := by
 cases d with
 | lit l => cases l <;> simp [Rows.uptoBulk]
 | _ => simp [Rows.uptoBulk]
theorem bulkAll_len : ∀ l : List (DataW H), l.length ≤ Rows.uptoBulkAll l
 | [] => Nat.zero_le _
 | d :: r => by
  have h1 := bulk_pos d
  have h2 := bulkAll_len r
  simp only [List.length_cons, Rows.uptoBulkAll]
  omega
def InP (x : IN) (us : List PV) : Prop := us = [.int .i64 x.op, .int .i64 x.a, .int .i64 x.b] ∧ i64 x.op ∧ i64 x.a ∧ i64 x.b
theorem InP.row : ∀ {l : List IN} {us : List (List PV)}, All2 InP l us → us.map PV.agg = l.map INP ∧ ∀ x ∈ l, i64 x.op ∧ i64 x.a ∧ i64 x.b
 | _, _, .nil => ⟨rfl, fun x h => by cases h⟩
 | _, _, .cons h1 h2 => by
  obtain ⟨e, r⟩ := InP.row h2
  obtain ⟨rfl, b⟩ := h1
  refine ⟨by simp only [List.map_cons, e]; rfl, fun x hx => ?_⟩
  rcases List.mem_cons.1 hx with rfl | hx
  ·exact b
  ·exact r x hx
def FuP (f : FD) (us : List PV) : Prop := us = fdc f 3 false ∧ FB f
theorem FuP.row : ∀ {l : List FD} {us : List (List PV)}, All2 FuP l us → FPs l (us.map PV.agg) ∧ ∀ f ∈ l, FB f
 | _, _, .nil => ⟨rfl, fun x h => by cases h⟩
 | _, _, .cons h1 h2 => by
  obtain ⟨e, r⟩ := FuP.row h2
  obtain ⟨rfl, b⟩ := h1
  refine ⟨⟨_, _, rfl, ⟨3, false, true, rfl, .inl rfl⟩, e⟩, fun x hx => ?_⟩
  rcases List.mem_cons.1 hx with rfl | hx
  ·exact b
  ·exact r x hx
def VaP (N : Nat) (v : V) (us : List PV) : Prop := ∃ lp, us = vc v 5 lp false 1 false ∧ VPs v.l lp ∧ i64 v.n ∧ bulkV v ≤ N
theorem VaP.row {N : Nat} : ∀ {l : List V} {us : List (List PV)}, All2 (VaP N) l us → VPs l (us.map PV.agg) ∧ ∀ v ∈ l, i64 v.n ∧ bulkV v ≤ N
 | _, _, .nil => ⟨rfl, fun x h => by cases h⟩
 | _, _, .cons h1 h2 => by
  obtain ⟨e, r⟩ := VaP.row h2
  obtain ⟨lp, rfl, hl, hn, b⟩ := h1
  refine ⟨⟨_, _, rfl, VP_mk hl hn, e⟩, fun x hx => ?_⟩
  rcases List.mem_cons.1 hx with rfl | hx
  ·exact ⟨hn, b⟩
  ·exact r x hx
abbrev φN : Phi := fun _ => none
abbrev RN (W : World) : RC := ⟨W, Zall W, W.heap.size, φN⟩
theorem rep_of0 {u : PV} {x : Value} (h : Rep0 W (Zall W) u x) (hu : (match u with | .int .. => true | .str _ => true | .sl _ _ _ o => o | _ => false) = true) : Rep (RN W) u x := by
 cases h with
 | int k n => exact .int k n
 | str l s h => exact .str l s h
 | sl sz l t o a n c cs h1 h2 h3 h4 h5 h6 =>
  simp only at hu
  subst hu
  exact .sl _ _ _ _ _ (Rep0.step (.sl sz l t true a n c cs h1 h2 h3 h4 h5 h6) fun b hb => ⟨⟨hb, .inl rfl⟩, rfl⟩)
 | bool b => cases hu
 | raw v => cases hu
theorem glob_none : Glob K W (Zall W) := fun _ => .inl rfl
theorem own : ownKnob Tryz.prog.godebug = none := by kernel_rfl
theorem below_of {W W' : World} (h : Frame0 W (ownOf (Zall W) φN) W') : RowKit.Below W.heap.size W W' :=
 ⟨h.os, h.tape, h.output, h.size, fun k hk => h.block k hk fun ⟨⟨_, _, h1⟩, _⟩ => (by cases h1)⟩
theorem law_end {f : Nat} {args : List PV} {W : World} {vs : List Value} (hc : CSpec K f args [] LawPost) (hl : args.length = vs.length)
  (hr : ∀ (i : Nat) u x, args[i]? = some u → vs[i]? = some x → Rep (RN W) u x) (hg : Glob K W (Zall W)) :
  Calls Tryz.prog f ⟨vs⟩ W fun e w' => e = .returned (.bool true) ∧ RowKit.Below W.heap.size W w' := by
 refine (hc W (Zall W) φN vs ⟨hl, hr, ?_, fun b hb => hb, hg⟩).mono fun e w' ⟨v, he, ha⟩ => ?_
 ·exact ⟨fun id b h => (by cases h), fun i j b m m' _ h => (by cases h), fun id x h => (by cases h)⟩
 ·obtain ⟨r, h', φ', Z', ⟨rfl, rfl⟩, h2, _, _, _, _, _, h8⟩ := ha
  cases h2
  exact ⟨he, below_of h8⟩
end Go.Vc
namespace Go.Vc
open Go Go.Proofs Go.Deep Go.ChangeShapes
set_option maxRecDepth 100000
open Go.Proofs.YtmbopgmllnijjaaGreat (Rows.uptoBulk Rows.uptoBulkAll)
variable {H : Type} {enc : TypeId × Value → H} {W : World} {sp : Nat → Bool} {hd : Bool}
theorem u8_wf {n : Int} (h : (Lit.int .u8 n : Lit).wf = true) : ∃ c : UInt8, n = c.toNat := by
 simp [Lit.wf, IntKind.min, IntKind.max, IntKind.signed, IntKind.bits] at h
 refine ⟨UInt8.ofNat n.toNat, ?_⟩
 have : (UInt8.ofNat n.toNat).toNat = n.toNat % 256 := rfl
 rw [this]
 omega
theorem bytes_read {fuel : Nat} {cs : List Value} {x : DataW H × List MemPlace} (h : DataW.trod enc Tryz.prog W 0 sp hd fuel 45 cs = some x) :
  ∃ (v : Value) (b : List UInt8), cs = [v] ∧ Rep0 W (Zall W) (.sl 1 (bs b) false true) v ∧ b.length ≤ Rows.uptoBulk x.1 := by
 have hc5 : Tryz.prog.cellsOf 5 = 1 := by kernel_rfl
 rcases open_sl Tryz.underlying45 h with ⟨rfl, rfl⟩ | ⟨a, len, cap, n, D, R, hn, rfl, hl, hx, hel⟩
 ·refine ⟨_, [], rfl, .sl 1 [] false true none 0 0 (fun _ _ => undef) rfl (Nat.le_refl _) (fun h => by cases h) (fun _ h => by cases h) (fun j hj => absurd hj (by simp)) (fun j i x u hx => by simp at hx), by simp⟩
 ·have hel2 : ∀ i, ∃ s : UInt8, i < len → W.cells? 0 (a.add (i * 1)) 1 = some [.int .u8 s.toNat] := by
   intro i
   by_cases hi : i < len
   ·obtain ⟨cs', pl, h1, h2⟩ := hel i hi
    obtain ⟨m, rfl, h3, hw⟩ := DataW.trod_int Tryz.underlying5 h2
    obtain ⟨c, rfl⟩ := u8_wf hw
    rw [hc5] at h1
    exact ⟨c, fun _ => h1⟩
   ·exact ⟨0, fun h => absurd h hi⟩
  obtain ⟨S, hS⟩ := Classical.axiomOfChoice hel2
  have hr := row_at (cs := fun i => [Value.int .u8 (S i).toNat]) (by omega) fun i hi => hS i hi
  refine ⟨_, (List.range len).map S, rfl, .sl 1 _ false true (some a) len cap (fun j _ => .int .u8 (S j).toNat) (by simp [bs]) (by simpa [bs] using hl) (fun h => by cases h) (fun u hu => ?_) (fun j hj => ?_) (fun j i u w hu hw => ?_), ?_⟩
  ·simp only [bs, List.map_map, List.mem_map] at hu
   obtain ⟨_, _, rfl⟩ := hu
   rfl
  ·have hj' : j < len := by simpa [bs] using hj
   obtain ⟨h1, h2, _, h4⟩ := hr j hj'
   refine ⟨a, rfl, h2, h1, fun i hi => ?_⟩
   have := h4 i hi
   obtain rfl : i = 0 := by omega
   simpa using this
  ·simp only [bs, List.map_map, List.getElem?_map] at hu
   obtain ⟨q, hq, rfl⟩ := Option.map_eq_some_iff.1 hu
   obtain rfl : j = q := by
    obtain ⟨h1, h2⟩ := List.getElem?_eq_some_iff.1 hq
    simpa using h2
   have : w = .int .u8 (S j).toNat := by
    rcases i with _ | i
    ·exact (Option.some.inj hw).symm
    ·cases hw
   subst this
   exact .int _ _
  ·have := bulkAll_len ((List.range len).map D)
   rw [hx, Rows.uptoBulk]
   simp at this ⊢
   omega
end Go.Vc
