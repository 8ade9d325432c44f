/- What is proved here: contracts of functions of the program: of each function what it hands back and what it leaves in memory. Conditions: those that each theorem names. -/
import Derived.Laws.CopyRow
import Derived.Laws.BytesArg
import Derived.Lib.ConvBytes
import Derived.Deep.AppendSrc
import Derived.Test.YthhokabbanhllaaGreatDoorTAa
set_option linter.unusedVariables false
set_option linter.unusedSimpArgs false
set_option linter.unusedSectionVars false
namespace Go.Vc
open Go
variable {C : Ctx} {E : Env} {Z : Nat → Prop} {φ : Phi} {s : St} {a : Act} {w : World}
variable (hT : TyOk C) (h : Rel C E Z φ s a w) {g : Prop} {K : PV → Prop} {o : Oper}
theorem sl_inv {R : RC} {z : Nat} {l : List PV} {t o : Bool} {y : Value} (h : Rep R (.sl z l t o) y) : ∃ p n c, y = .slice p n c ∧ n = l.length ∧ l.length ≤ c ∧ (t = true → c = l.length) ∧ (∀ x ∈ l, x.cells.length = z) ∧
  ∃ cs : Nat → Nat → Value, (∀ j, j < l.length → ∃ ad : Addr, p = some ad ∧ R.Zc o ad.block ∧ ad.spot = none ∧ ∀ i, i < z → R.w.cell? ⟨ad.block, ad.off + (j * z + i), none⟩ = some (cs j i)) ∧
   (∀ (j i : Nat) (x u : PV), l[j]? = some x → x.cells[i]? = some u → Rep0 R.w (R.Zc o) u (cs j i)) := by
 cases h with
 | sl _ _ _ _ _ h =>
  cases h with
  | sl _ _ _ _ p n c cs hn hc ht hz hm he => exact ⟨p, n, c, rfl, hn, hc, ht, hz, cs, hm, he⟩
theorem bound_inv (h : Rel C E Z φ s a w) {x : Option Operand} {d top : Nat} {K : Nat → Prop} (hq : bound C s g x d top K) :
  ∃ m, K m ∧ ((x = none ∧ m = d) ∨ ∃ y, x = some y ∧ (g → m ≤ top ∧ ∃ k, a.eval y = .int k (m : Int))) := by
 unfold bound at hq
 split at hq
 ·exact ⟨d, hq, .inl ⟨rfl, rfl⟩⟩
 ·rename_i y
  obtain ⟨v, hq, hv⟩ := h.opd hq
  split at hq
  ·rename_i k i
   refine ⟨i.toNat, hq.2, .inr ⟨y, rfl, fun hg => ?_⟩⟩
   have h1 := hq.1 hg
   exact ⟨by omega, k, by rw [(hv hg).int_inv, Int.toNat_of_nonneg h1.1]⟩
  ·exact hq.elim
theorem run_sliceBound {P : Program} {k : IntKind} {m y : Nat} (h : m ≤ y) (c : BoundsCode) (w : World) : (Instr.sliceBound (.int k (m : Int)) y c).run P w = .ok m w := by
 simp [Instr.sliceBound, asIntOf, h]
theorem run_bounds {P : Program} {f : Operand → Value} {lo hi mx : Option Operand} {b : Bool} {n c ll hh mm : Nat}
  (hm : (mx = none ∧ mm = c) ∨ ∃ y, mx = some y ∧ (mm ≤ c ∧ ∃ k, f y = .int k (mm : Int))) (hx : mx = none ∨ hi ≠ none)
  (hh1 : (hi = none ∧ hh = n) ∨ ∃ y, hi = some y ∧ (hh ≤ mm ∧ ∃ k, f y = .int k (hh : Int)))
  (hl : (lo = none ∧ ll = 0) ∨ ∃ y, lo = some y ∧ (ll ≤ hh ∧ ∃ k, f y = .int k (ll : Int))) (w : World) :
  (Instr.sliceBounds b n c (lo.map f) (hi.map f) (mx.map f)).run P w = .ok (ll, hh, mm) w := by
 rcases hm with ⟨rfl, rfl⟩ | ⟨y, rfl, h1, k, h2⟩
 ·rcases hh1 with ⟨rfl, rfl⟩ | ⟨z, rfl, h3, k', h4⟩
  ·rcases hl with ⟨rfl, rfl⟩ | ⟨u, rfl, h5, k'', h6⟩
   ·simp [Instr.sliceBounds]
   ·simp [Instr.sliceBounds, h6, run_sliceBound h5]
  ·rcases hl with ⟨rfl, rfl⟩ | ⟨u, rfl, h5, k'', h6⟩
   ·simp [Instr.sliceBounds, h4, run_sliceBound h3]
   ·simp [Instr.sliceBounds, h4, h6, run_sliceBound h3, run_sliceBound h5]
 ·rcases hh1 with ⟨rfl, rfl⟩ | ⟨z, rfl, h3, k', h4⟩
  ·simp at hx
  ·rcases hl with ⟨rfl, rfl⟩ | ⟨u, rfl, h5, k'', h6⟩
   ·simp [Instr.sliceBounds, h2, h4, run_sliceBound h1, run_sliceBound h3]
   ·simp [Instr.sliceBounds, h2, h4, h6, run_sliceBound h1, run_sliceBound h3, run_sliceBound h5]
section
include hT h
theorem q_indexAddr {t : TypeId} {x i : Operand} (ho : o.op = .indexAddr t x i) (hq : qWp C s g (.indexAddr t x i) K) :
  ∃ v, K v ∧ (g → ∃ y, Rep ⟨w, Z, E.w0.heap.size, φ⟩ v y ∧ GivesDry C.P (execOp a.eval o) w y true) := by
 simp only [qWp] at hq
 obtain ⟨va, hq, ha⟩ := h.opd hq
 obtain ⟨vb, hq, hb⟩ := h.opd hq
 have hu := hT.und t
 split at hq
 ·rename_i _ i'
  split at hq
  ·have he := ‹C.ty t = TD.slice _›
   rename_i e z l _ oo _ _
   rw [he] at hu
   obtain ⟨hz, hzz, hb2, hq⟩ := hq
   refine ⟨_, hq, fun hg => ?_⟩
   obtain ⟨h0, h1⟩ := hb2 hg
   have hi := (hb hg).int_inv
   obtain ⟨p, n, c, hy, hn, hc, ht, hcl, cs, hm, hel⟩ := sl_inv (ha hg)
   have hne : l ≠ [] := by rintro rfl; simp at h1; omega
   have hze : z = C.size e := hzz.resolve_right hne
   have hj : i'.toNat < l.length := by omega
   obtain ⟨ad, rfl, hZ, hsp, hcell⟩ := hm _ hj
   have hx : l[i'.toNat]? = some (nth l i'.toNat) := by simp [nth, List.getD, hj]
   have hln : (nth l i'.toNat).cells.length = z := hcl _ (List.mem_of_getElem? hx)
   have hR := Rep.ro (R := ⟨w, Z, E.w0.heap.size, φ⟩) (nth l i'.toNat).cells 0 oo ad.block (ad.off + i'.toNat * z) (fun q => cs i'.toNat q) hZ
    (fun q hq => by rw [hln] at hq; have := hcell q hq; simpa [Nat.add_assoc] using this) (fun q u hq => hel _ q _ u hx hq)
   refine ⟨_, hR, ?_⟩
   obtain ⟨blk, off, spot⟩ := ad
   simp only at hsp
   subst hsp
   have hlt : i' < (n : Int) := by omega
   simp [execOp, ho, GivesDry, hy, hi, Instr.indexAt, asIntOf, run_underlying hu, run_size hT hz, h0, hlt, Addr.add_lit, hze]
  ·have he := ‹C.ty t = TD.slice _›
   rename_i e z id lo n _ _
   rw [he] at hu
   obtain ⟨hz, rfl, hb2, hq⟩ := hq
   refine ⟨_, hq, fun hg => ?_⟩
   obtain ⟨h0, h1⟩ := hb2 hg
   have hi := (hb hg).int_inv
   have hv := ha hg
   obtain ⟨y, hy⟩ : ∃ y, a.eval x = y := ⟨_, rfl⟩
   rw [hy] at hv
   cases hv with
   | ref _ _ _ _ b c m hb hn hm hbb =>
    refine ⟨_, .eptr _ _ _ _ b m hb, ?_⟩
    have : (lo + i'.toNat) * C.size e + 0 = lo * C.size e + i'.toNat * C.size e := by rw [Nat.add_mul]; omega
    simp [execOp, ho, GivesDry, hy, hi, Instr.indexAt, asIntOf, run_underlying hu, run_size hT hz, h0, h1, Addr.add_lit, this]
   | ref0 => simp at h1; omega
  ·have he := ‹C.ty t = TD.arr _ _›
   rename_i n e id p _ _
   rw [he] at hu
   obtain ⟨hz, hb2, hq⟩ := hq
   refine ⟨_, hq, fun hg => ?_⟩
   obtain ⟨h0, h1⟩ := hb2 hg
   have hi := (hb hg).int_inv
   have hv := ha hg
   obtain ⟨y, hy⟩ : ∃ y, a.eval x = y := ⟨_, rfl⟩
   rw [hy] at hv
   cases hv with
   | ptr _ _ b m hb =>
    refine ⟨_, .ptr _ _ b m hb, ?_⟩
    simp [execOp, ho, GivesDry, hy, hi, Instr.indexAt, asIntOf, run_underlying hu, run_size hT hz, h0, h1, Addr.add_lit, Instr.sureAddr]
  ·have he := ‹C.ty t = TD.arr _ _›
   rename_i n e l p oo _ _
   rw [he] at hu
   obtain ⟨hz, hb2, hq⟩ := hq
   refine ⟨_, hq, fun hg => ?_⟩
   obtain ⟨h0, h1⟩ := hb2 hg
   have hi := (hb hg).int_inv
   have hv := ha hg
   obtain ⟨y, hy⟩ : ∃ y, a.eval x = y := ⟨_, rfl⟩
   rw [hy] at hv
   cases hv with
   | ro _ _ _ b q cs hb hm he =>
    refine ⟨_, .ro _ _ _ b q cs hb hm he, ?_⟩
    simp [execOp, ho, GivesDry, hy, hi, Instr.indexAt, asIntOf, run_underlying hu, run_size hT hz, h0, h1, Addr.add_lit, Instr.sureAddr, Nat.add_assoc]
  ·exact hq.elim
 ·exact hq.elim
theorem q_index {t : TypeId} {x i : Operand} (ho : o.op = .index t x i) (hq : qWp C s g (.index t x i) K) :
  ∃ v, K v ∧ (g → ∃ y, Rep ⟨w, Z, E.w0.heap.size, φ⟩ v y ∧ GivesDry C.P (execOp a.eval o) w y true) := by
 simp only [qWp] at hq
 obtain ⟨va, hq, ha⟩ := h.opd hq
 obtain ⟨vb, hq, hb⟩ := h.opd hq
 have hu := hT.und t
 split at hq
 ·rename_i _ i'
  split at hq
  ·have he := ‹C.ty t = TD.str›
   rename_i l _ _
   rw [he] at hu
   obtain ⟨hb2, hq⟩ := hq
   refine ⟨_, hq, fun hg => ?_⟩
   obtain ⟨h0, h1⟩ := hb2 hg
   have hi := (hb hg).int_inv
   obtain ⟨u, hy, hl⟩ := (ha hg).str_inv
   refine ⟨_, .int _ _, ?_⟩
   have hlt : i'.toNat < u.size := by
    have : u.size = u.data.toList.length := by simp
    rw [this, hl]; omega
   have hg1 : u[i'.toNat]? = some (u[i'.toNat]'hlt) := by simp [hlt]
   have hg2 : l.getD i'.toNat 0 = u[i'.toNat]'hlt := by
    rw [← hl]
    have hlt' : i'.toNat < u.data.size := hlt
    simp only [List.getD, Array.getElem?_toList, Array.getElem?_eq_getElem hlt', Option.getD_some]
    rfl
   rw [hg2]
   simp [execOp, ho, GivesDry, hy, hi, Instr.index, asIntOf, run_underlying hu, h0, hg1]
  ·have he := ‹C.ty t = TD.arr _ _›
   rename_i n e l _ _
   rw [he] at hu
   obtain ⟨hz, hb2, hlen, hq⟩ := hq
   refine ⟨_, hq, fun hg => ?_⟩
   obtain ⟨h0, h1⟩ := hb2 hg
   have hi := (hb hg).int_inv
   obtain ⟨cs, h2, h3, h4⟩ := (ha hg).agg_inv
   have hoff : i'.toNat * C.size e + C.size e ≤ l.length := by
    rw [hlen, ← Nat.succ_mul]
    exact Nat.mul_le_mul_right _ (by omega)
   obtain ⟨y, h5, h6⟩ := run_part hT hz h3 h4 hoff
   refine ⟨y, h5, ?_⟩
   simp [execOp, ho, GivesDry, h2, hi, Instr.index, asIntOf, run_underlying hu, run_size hT hz, h0, h1, h6]
  ·exact hq.elim
 ·exact hq.elim
theorem q_slice {t : TypeId} {x : Operand} {lo hi mx : Option Operand} (ho : o.op = .slice t x lo hi mx) (hq : qWp C s g (.slice t x lo hi mx) K) :
  ∃ v, K v ∧ (g → ∃ y, Rep ⟨w, Z, E.w0.heap.size, φ⟩ v y ∧ GivesDry C.P (execOp a.eval o) w y true) := by
 simp only [qWp] at hq
 obtain ⟨va, hq, ha⟩ := h.opd hq
 have hu := hT.und t
 split at hq
 ·have he := ‹C.ty t = TD.str›
  rename_i l _
  rw [he] at hu
  split at hq
  ·obtain ⟨hh, hq, hhi⟩ := bound_inv h hq
   obtain ⟨ll, hq, hlo⟩ := bound_inv h hq
   refine ⟨_, hq, fun hg => ?_⟩
   obtain ⟨u, hy, hl⟩ := (ha hg).str_inv
   have hsz : u.size = l.length := by rw [← hl]; simp
   refine ⟨.string (u.extract ll hh), .str _ _ (by rw [Lib.extract_data, hl, List.drop_take]), ?_⟩
   have up : ∀ {x : Option Operand} {d m top : Nat}, ((x = none ∧ m = d) ∨ ∃ y, x = some y ∧ (g → m ≤ top ∧ ∃ k, a.eval y = .int k (m : Int))) → ((x = none ∧ m = d) ∨ ∃ y, x = some y ∧ (m ≤ top ∧ ∃ k, a.eval y = .int k (m : Int))) :=
    fun h => h.imp id fun ⟨y, h1, h2⟩ => ⟨y, h1, h2 hg⟩
   have r3 : ∀ w, (Instr.sliceBounds false u.size u.size (lo.map a.eval) (hi.map a.eval) none).run C.P w = .ok (ll, hh, u.size) w :=
    run_bounds (mx := none) (.inl ⟨rfl, rfl⟩) (.inl rfl) (by rw [hsz]; exact up hhi) (up hlo)
   simp [execOp, ho, GivesDry, hy, Instr.sliceAt, Instr.slice, run_underlying hu, r3]
  ·exact hq.elim
 ·have he := ‹C.ty t = TD.slice _›
  rename_i e z l tt oo _
  rw [he] at hu
  obtain ⟨hz, hzz, hq⟩ := hq
  have fin : ∀ (ll hh mm : Nat) (tight : Bool), ll ≤ hh → hh ≤ l.length → (g → ∀ p n c, a.eval x = .slice p n c → hh ≤ mm ∧ mm ≤ c ∧ (tight = true → mm = hh) ∧ n = l.length ∧
    ∀ w, (Instr.sliceBounds true n c (lo.map a.eval) (hi.map a.eval) (mx.map a.eval)).run C.P w = .ok (ll, hh, mm) w) →
    (g → ∃ y, Rep ⟨w, Z, E.w0.heap.size, φ⟩ (.sl z ((l.take hh).drop ll) tight oo) y ∧ GivesDry C.P (execOp a.eval o) w y true) := by
   intro ll hh mm tight h1 h2 hrun hg
   obtain ⟨p, n, c, hy, hn, hc, ht, hcl, cs, hm, hel⟩ := sl_inv (ha hg)
   obtain ⟨h3, h4, h5, h6, h7⟩ := hrun hg p n c hy
   have hlen : ((l.take hh).drop ll).length = hh - ll := by simp; omega
   refine ⟨.slice (if mm = ll then p else p.map (·.add (ll * C.size e))) (hh - ll) (mm - ll), .sl _ _ _ _ _ (.sl _ _ _ _ _ _ _ (fun j i => cs (ll + j) i) hlen.symm (by rw [hlen]; omega) (fun h => by rw [hlen, h5 h]) (fun x hx => hcl x (List.mem_of_mem_take (List.mem_of_mem_drop hx))) (fun j hj => ?_) (fun j i x u hx hu' => ?_)), ?_⟩
   ·rw [hlen] at hj
    obtain ⟨ad, rfl, hZ, hsp, hcell⟩ := hm (ll + j) (by omega)
    have hne : l ≠ [] := by rintro rfl; simp at h2; omega
    have hze : z = C.size e := hzz.resolve_right hne
    obtain ⟨blk, off, spot⟩ := ad
    simp only at hsp
    subst hsp
    have hml : mm ≠ ll := by omega
    refine ⟨⟨blk, off + ll * C.size e, none⟩, by simp [hml, Addr.add_lit], hZ, rfl, fun i hi => ?_⟩
    rw [← hcell i hi, ← hze]
    have : (ll + j) * z = ll * z + j * z := Nat.add_mul ..
    have e : off + ll * z + (j * z + i) = off + ((ll + j) * z + i) := by omega
    simp only [e]
   ·rw [List.getElem?_drop, List.getElem?_take] at hx
    split at hx
    ·exact hel _ _ x u hx hu'
    ·cases hx
   ·simp [execOp, ho, GivesDry, hy, Instr.sliceAt, Instr.slice, run_underlying hu, h7, run_size hT hz]
  have up : g → ∀ {x : Option Operand} {d m top top' : Nat}, top ≤ top' → ((x = none ∧ m = d) ∨ ∃ y, x = some y ∧ (g → m ≤ top ∧ ∃ k, a.eval y = .int k (m : Int))) → ((x = none ∧ m = d) ∨ ∃ y, x = some y ∧ (m ≤ top' ∧ ∃ k, a.eval y = .int k (m : Int))) :=
   fun hg _ _ _ _ _ ht h => h.imp id fun ⟨y, h1, h2⟩ => ⟨y, h1, Nat.le_trans (h2 hg).1 ht, (h2 hg).2⟩
  have le : g → ∀ {x : Option Operand} {d m top : Nat}, d ≤ top → ((x = none ∧ m = d) ∨ ∃ y, x = some y ∧ (g → m ≤ top ∧ ∃ k, a.eval y = .int k (m : Int))) → m ≤ top :=
   fun hg _ _ _ _ hd h => h.elim (fun h => h.2 ▸ hd) (fun ⟨_, _, h⟩ => (h hg).1)
  split at hq
  ·obtain ⟨hh, hq, hhi⟩ := bound_inv h hq
   obtain ⟨ll, hq, hlo⟩ := bound_inv h hq
   refine ⟨_, hq, fun hg => ?_⟩
   obtain ⟨p, n, c, hy, hn, hc, ht, _⟩ := sl_inv (ha hg)
   refine fin ll hh c _ (le hg (Nat.zero_le _) hlo) (le hg (Nat.le_refl _) hhi) (fun hg p' n' c' hy' => ?_) hg
   rw [hy] at hy'
   simp only [Value.slice.injEq] at hy'
   obtain ⟨rfl, rfl, rfl⟩ := hy'
   refine ⟨Nat.le_trans (le hg (Nat.le_refl _) hhi) hc, Nat.le_refl _, fun h => ?_, hn, run_bounds (mx := none) (.inl ⟨rfl, rfl⟩) (.inl rfl) (by rw [hn]; exact up hg hc hhi) (up hg (Nat.le_refl _) hlo)⟩
   simp only [Bool.and_eq_true, beq_iff_eq] at h
   rw [ht h.1, h.2]
  ·rename_i mo
   obtain ⟨mm, hq, hmx⟩ := bound_inv h hq
   obtain ⟨hh, hq, hhi⟩ := bound_inv h hq
   obtain ⟨ll, hq, hlo⟩ := bound_inv h hq
   refine ⟨_, hq.2, fun hg => ?_⟩
   obtain ⟨p, n, c, hy, hn, hc, ht, _⟩ := sl_inv (ha hg)
   have e1 := le hg (Nat.zero_le _) hmx
   have e2 := le hg (Nat.zero_le _) hhi
   refine fin ll hh mm _ (le hg (Nat.zero_le _) hlo) (Nat.le_trans e2 e1) (fun hg p' n' c' hy' => ?_) hg
   rw [hy] at hy'
   simp only [Value.slice.injEq] at hy'
   obtain ⟨rfl, rfl, rfl⟩ := hy'
   refine ⟨e2, Nat.le_trans e1 hc, fun h => (beq_iff_eq.mp h).symm, hn, run_bounds ?_ (.inr hq.1) ?_ (up hg (Nat.le_refl _) hlo)⟩
   ·rcases up hg hc hmx with ⟨h, _⟩ | h
    ·cases h
    ·exact .inr h
   ·rcases up hg (Nat.le_refl _) hhi with ⟨h, _⟩ | h
    ·exact absurd h hq.1
    ·exact .inr h
 ·have he := ‹C.ty t = TD.slice _›
  rename_i e z id off n _
  rw [he] at hu
  obtain ⟨hz, rfl, hq⟩ := hq
  split at hq
  ·obtain ⟨hh, hq, hhi⟩ := bound_inv h hq
   obtain ⟨ll, hq, hlo⟩ := bound_inv h hq
   refine ⟨_, hq.2, fun hg => ?_⟩
   have up : ∀ {x : Option Operand} {d m top top' : Nat}, top ≤ top' → ((x = none ∧ m = d) ∨ ∃ y, x = some y ∧ (g → m ≤ top ∧ ∃ k, a.eval y = .int k (m : Int))) → ((x = none ∧ m = d) ∨ ∃ y, x = some y ∧ (m ≤ top' ∧ ∃ k, a.eval y = .int k (m : Int))) :=
    fun ht h => h.imp (fun h => h) fun ⟨y, h1, h2⟩ => ⟨y, h1, Nat.le_trans (h2 hg).1 ht, (h2 hg).2⟩
   have hhn : hh ≤ n := hhi.elim (fun h => h.2 ▸ Nat.le_refl _) (fun ⟨_, _, h⟩ => (h hg).1)
   have hlh : ll ≤ hh := hlo.elim (fun h => h.2 ▸ Nat.zero_le _) (fun ⟨_, _, h⟩ => (h hg).1)
   have hv := ha hg
   obtain ⟨y, hy⟩ : ∃ y, a.eval x = y := ⟨_, rfl⟩
   rw [hy] at hv
   cases hv with
   | ref _ _ _ _ b c m hb hn hm hbb =>
    obtain ⟨cs, T, hb1, hb2, hb3⟩ := hbb
    have hll := hq.1 hg
    refine ⟨.slice (if c = ll then some ⟨b, off * C.size e, none⟩ else some ⟨b, off * C.size e + ll * C.size e, none⟩) (hh - ll) (c - ll), ?_, ?_⟩
    ·have hadr : (if c = ll then some (⟨b, off * C.size e, none⟩ : Addr) else some ⟨b, off * C.size e + ll * C.size e, none⟩) = some ⟨b, (off + ll) * C.size e, none⟩ := by
      rw [Nat.add_mul]
      split
      ·have : ll = 0 := by omega
       subst this; simp
      ·rfl
     rw [hadr]
     exact .ref _ _ _ _ b _ m hb (by omega) (by omega) ⟨cs, T, hb1, by rw [hb2]; congr 1; omega, by omega⟩
    ·have r := fun w => run_bounds (P := C.P) (f := a.eval) (lo := lo) (hi := hi) (mx := none) (b := true) (n := n) (c := c) (.inl ⟨rfl, rfl⟩) (.inl rfl) (up hn hhi) (up (Nat.le_refl _) hlo) w
     simp only [Option.map_none] at r
     simp [execOp, ho, GivesDry, hy, Instr.sliceAt, Instr.slice, run_underlying hu, r, run_size hT hz, Addr.add_lit]
   | ref0 _ _ ad hb =>
    have e1 : hh = 0 := by omega
    have e2 : ll = 0 := by omega
    subst e1 e2
    refine ⟨.slice ad 0 0, .ref0 _ _ _ hb, ?_⟩
    have r := fun w => run_bounds (P := C.P) (f := a.eval) (lo := lo) (hi := hi) (mx := none) (b := true) (n := 0) (c := 0) (.inl ⟨rfl, rfl⟩) (.inl rfl) (up (Nat.le_refl _) hhi) (up (Nat.le_refl _) hlo) w
    simp only [Option.map_none] at r
    simp [execOp, ho, GivesDry, hy, Instr.sliceAt, Instr.slice, run_underlying hu, r, run_size hT hz]
  ·exact hq.elim
 ·exact hq.elim
theorem q_load {t : TypeId} {x : Operand} (ho : o.op = .load t x) (hq : qWp C s g (.load t x) K) :
  ∃ v, K v ∧ (g → ∃ y, Rep ⟨w, Z, E.w0.heap.size, φ⟩ v y ∧ GivesDry C.P (execOp a.eval o) w y false) := by
 simp only [qWp] at hq
 obtain ⟨hz, hq⟩ := hq
 obtain ⟨va, hq, ha⟩ := h.opd hq
 -- a row of cells that is loaded
 have run : ∀ (b p : Nat) (l : List PV) (off : Nat) (cs : Nat → Value), (∀ i, i < l.length → w.cell? ⟨b, p + i, none⟩ = some (cs i)) → (∀ (i : Nat) u, l[i]? = some u → Rep ⟨w, Z, E.w0.heap.size, φ⟩ u (cs i)) →
   off + C.size t ≤ l.length → a.eval x = .pointer (some ⟨b, p + off, none⟩) → ∃ y, Rep ⟨w, Z, E.w0.heap.size, φ⟩ (partP C t l off) y ∧ GivesDry C.P (execOp a.eval o) w y false := by
  intro b p l off cs hm he hoff hx
  unfold partP
  cases hag : (C.ty t).agg with
  | true =>
   refine ⟨.agg ⟨(List.range (C.size t)).map fun i => cs (off + i)⟩, .agg _ _ (by simp; omega) (fun i u y hu hy => ?_), ?_⟩
   ·rw [List.getElem?_take] at hu
    split at hu
    ·rename_i hi
     rw [List.getElem?_drop] at hu
     simp only [List.getElem?_map, List.getElem?_range hi, Option.map_some, Option.some.injEq] at hy
     subst hy
     exact he _ u hu
    ·cases hu
   ·have hr := run_loadCells (P := C.P) w ⟨b, p + off, none⟩ (C.size t) (fun i => cs (off + i)) (fun j hj => by rw [Addr.add_lit, Nat.add_assoc]; exact hm _ (by omega))
    simp [execOp, ho, GivesDry, hx, Instr.loadAt, Instr.sureAddr, loadVar, run_isAgg hT hz, hag, run_size hT hz, hr]
  | false =>
   refine ⟨cs off, he off _ (by simp [nth, List.getD, show off < l.length by omega]), ?_⟩
   have := hm off (by omega)
   simp [execOp, ho, GivesDry, hx, Instr.loadAt, Instr.sureAddr, loadVar, run_isAgg hT hz, hag, this]
 split at hq
 ·rename_i id off
  split at hq
  ·rename_i l hl
   refine ⟨_, hq.2, fun hg => ?_⟩
   have hv := ha hg
   obtain ⟨y, hy⟩ : ∃ y, a.eval x = y := ⟨_, rfl⟩
   rw [hy] at hv
   cases hv with
   | ptr _ _ b m hb =>
    obtain ⟨b', cs, T, ⟨m', h1⟩, h2, h3, h4, h5, h6⟩ := h.heap.blk id _ hl
    have hbb : b' = b := by have := h1.symm.trans hb; simp only [Option.some.injEq, Prod.mk.injEq] at this; exact this.1
    subst hbb
    have hcell : ∀ i, i < l.length → w.cell? ⟨b', 0 + i, none⟩ = some (cs.getD i undef) := fun i hi => by
     have hlt : i < cs.size := by omega
     simp only [World.cell?, h4]
     simp [hlt]
    refine run b' 0 l off (fun i => cs.getD i undef) hcell (fun i u hu => ?_) hq.1 (by rw [hy, Nat.zero_add])
    obtain ⟨y, e1, e2, _⟩ := h6 i u hu
    simpa [e1] using e2
  ·exact hq.elim
 ·rename_i z id j off
  have row : ∀ (e z' : Nat) (l : List PV) (oo : Bool), z = z' → off + C.size t ≤ z → (g → j < l.length) → (∀ x ∈ l, x.cells.length = z') →
    (g → ∃ (b : Nat) (cs : Array Value), (∃ m, φ id = some (some b, m)) ∧ w.heap[b]? = some (.cells cs e (0, 0)) ∧
     ∀ (j i : Nat) (x u : PV), l[j]? = some x → x.cells[i]? = some u → ∃ y, cs[j * z' + i]? = some y ∧ Rep0 w ((RC.mk w Z E.w0.heap.size φ).Zc oo) u y) →
    (g → ∃ y, Rep ⟨w, Z, E.w0.heap.size, φ⟩ (partP C t ((nth l j).cells.map (PV.retag oo)) off) y ∧ GivesDry C.P (execOp a.eval o) w y false) := by
   intro e z' l oo hzz hoff hj hcl hmem hg
   subst hzz
   have hv := ha hg
   obtain ⟨y, hy⟩ : ∃ y, a.eval x = y := ⟨_, rfl⟩
   rw [hy] at hv
   cases hv with
   | eptr _ _ _ _ b m hb =>
    obtain ⟨b', cs, ⟨m', h1⟩, h2, h3⟩ := hmem hg
    have hbb : b' = b := by have := h1.symm.trans hb; simp only [Option.some.injEq, Prod.mk.injEq] at this; exact this.1
    subst hbb
    have hx : l[j]? = some (nth l j) := by simp [nth, List.getD, hj hg]
    have hln := hcl _ (List.mem_of_getElem? hx)
    refine run b' (j * z) _ off (fun i => cs.getD (j * z + i) undef) (fun i hi => ?_) (fun i u hu => ?_) (by simpa [hln] using hoff) hy
    ·rw [List.length_map, hln] at hi
     obtain ⟨y, e1, _⟩ := h3 j i _ ((nth l j).cells[i]'(by omega)) hx (List.getElem?_eq_getElem _)
     simp only [World.cell?, h2]
     simp [e1]
    ·rw [List.getElem?_map, Option.map_eq_some_iff] at hu
     obtain ⟨u', hu', rfl⟩ := hu
     obtain ⟨y, e1, e2⟩ := h3 j i _ u' hx hu'
     have := e2.up (R := ⟨w, Z, E.w0.heap.size, φ⟩)
     simpa [e1] using this
  split at hq
  ·rename_i e z' l oo hl
   obtain ⟨q1, q2, q3, q4⟩ := hq
   refine ⟨_, q4, fun hg => ?_⟩
   rcases h.heap.blk id _ hl with ⟨_, rfl⟩ | ⟨b, cs, cap, h1, h2, h3, h4, h5, h6, h7, h8, h9, h10, h11⟩
   ·have := q3 hg; simp at this
   ·exact row e z' l oo q1 q2 q3 h10 (fun _ => ⟨b, cs, ⟨_, h1⟩, h5, fun j i x u hx hu => by obtain ⟨y, e1, e2, _⟩ := h11 j i x u hx hu; exact ⟨y, e1, e2⟩⟩) hg
  ·rename_i e z' l oo hl
   obtain ⟨q1, q2, q3, q4⟩ := hq
   refine ⟨_, q4, fun hg => ?_⟩
   rcases h.heap.blk id _ hl with ⟨_, rfl⟩ | ⟨b, cs, cap, h1, h2, h4, h5, h6, h7, h8, h9, h10, h11⟩
   ·have := q3 hg; simp at this
   ·exact row e z' l oo q1 q2 q3 h10 (fun _ => ⟨b, cs, ⟨_, h1⟩, h5, fun j i x u hx hu => by obtain ⟨y, e1, e2, _⟩ := h11 j i x u hx hu; exact ⟨y, e1, e2⟩⟩) hg
  ·exact hq.elim
 ·rename_i l off oo
  refine ⟨_, hq.2, fun hg => ?_⟩
  have hoff := hq.1 hg
  have hv := ha hg
  obtain ⟨y, hy⟩ : ∃ y, a.eval x = y := ⟨_, rfl⟩
  rw [hy] at hv
  cases hv with
  | ro _ _ _ b p cs hb hm he =>
   refine run b p _ off cs (fun i hi => hm i (by simpa using hi)) (fun i u hu => ?_) (by simpa using hoff) hy
   rw [List.getElem?_map, Option.map_eq_some_iff] at hu
   obtain ⟨u', hu', rfl⟩ := hu
   exact (he i u' hu').up
 ·exact hq.elim
end
theorem rep_cells {R : RC} {v : PV} {x : Value} (h : Rep R v x) (h1 : v.cells.all PV.one = true) : ∃ cs : List Value, x.cells = ⟨cs⟩ ∧ v.cells.length = cs.length ∧
  (∀ (i : Nat) u y, v.cells[i]? = some u → cs[i]? = some y → Rep R u y) ∧ ∀ y ∈ cs, y.oneCell' = true := by
 have one : v.one = true → v.cells = [v] → ∃ cs : List Value, x.cells = ⟨cs⟩ ∧ v.cells.length = cs.length ∧ (∀ (i : Nat) u y, v.cells[i]? = some u → cs[i]? = some y → Rep R u y) ∧ ∀ y ∈ cs, y.oneCell' = true := by
  intro hv hc
  have ho := h.oneCell hv
  have hx : x.cells = ⟨[x]⟩ := by cases x <;> first | rfl | simp [Value.oneCell'] at ho
  refine ⟨[x], hx, by rw [hc]; rfl, fun i u y hu hy => ?_, by simp [ho]⟩
  rw [hc] at hu
  cases i with
  | zero => simp at hu hy; subst hu; subst hy; exact h
  | succ i => simp at hu
 cases h with
 | agg l cs hl hr =>
  refine ⟨cs, rfl, hl, hr, fun y hy => ?_⟩
  obtain ⟨i, hi, rfl⟩ := List.getElem_of_mem hy
  have hil : i < l.length := by omega
  have := List.all_eq_true.1 h1 l[i] (List.getElem_mem _)
  exact (hr i _ _ (List.getElem?_eq_getElem hil) (List.getElem?_eq_getElem hi)).oneCell this
 | tup l cs hl hr => simp [PV.cells, PV.one] at h1
 | cond c v x h => simp [PV.cells, PV.one] at h1
 | undef x => simp [PV.cells, PV.one] at h1
 | int k n => exact one rfl rfl
 | bool b => exact one rfl rfl
 | str l s hs => exact one rfl rfl
 | raw v => exact one (by simpa [PV.cells] using h1) rfl
 | fn => exact one rfl rfl
 | ptr => exact one rfl rfl
 | eptr => exact one rfl rfl
 | ro => exact one rfl rfl
 | sl => exact one rfl rfl
 | ref => exact one rfl rfl
 | ref0 => exact one rfl rfl
section
include hT h
end
theorem foldl_set (cs : List Value) : ∀ (off : Nat) (acc : Array Value) (k : Nat), off + k + cs.length ≤ acc.size →
  (cs.zipIdx k).foldl (fun (a : Array Value) (p : Value × Nat) => a.setIfInBounds (off + p.2) p.1) acc = ⟨acc.toList.take (off + k) ++ cs ++ acc.toList.drop (off + k + cs.length)⟩ := by
 induction cs with
 | nil => intro off acc k h; simp
 | cons c r ih =>
  intro off acc k hlen
  simp only [List.length_cons] at hlen
  simp only [List.zipIdx_cons, List.foldl_cons]
  rw [ih off _ (k + 1) (by simp; omega)]
  apply Array.ext'
  simp only [Array.toList_setIfInBounds]
  have h1 : off + k < acc.toList.length := by simp; omega
  rw [show off + (k + 1) = off + k + 1 by omega, List.take_succ_eq_append_getElem (by simp; omega), List.take_set_of_le (Nat.le_refl _)]
  simp only [List.getElem_set_self, List.append_assoc, List.cons_append, List.nil_append, List.length_cons]
  rw [show off + k + 1 + r.length = off + k + (r.length + 1) by omega, List.drop_set_of_lt (by omega)]
section
include hT h
end
theorem setAt_rep {R : RC} {l : List PV} {cs : List Value} {off : Nat} {vs : List PV} {xs : List Value} (hl : l.length = cs.length) (hr : ∀ (i : Nat) u x, l[i]? = some u → cs[i]? = some x → Rep R u x)
  (hv : vs.length = xs.length) (hvr : ∀ (i : Nat) u x, vs[i]? = some u → xs[i]? = some x → Rep R u x) :
  ∀ (i : Nat) u x, (setAt l off vs)[i]? = some u → (cs.take off ++ xs ++ cs.drop (off + xs.length))[i]? = some x → Rep R u x := by
 intro i u x hu hx
 unfold setAt at hu
 rw [List.append_assoc] at hu hx
 rw [List.getElem?_append] at hu hx
 have e : (l.take off).length = (cs.take off).length := by simp [hl]
 rw [e] at hu
 split at hu
 ·rename_i h1
  rw [if_pos h1] at hx
  rw [List.getElem?_take] at hu hx
  split at hu
  ·rename_i h2
   rw [if_pos h2] at hx
   exact hr i u x hu hx
  ·cases hu
 ·rename_i h1
  rw [if_neg h1] at hx
  rw [List.getElem?_append] at hu hx
  rw [hv] at hu
  split at hu
  ·rename_i h2
   rw [if_pos h2] at hx
   exact hvr _ u x hu hx
  ·rename_i h2
   rw [if_neg h2] at hx
   rw [List.getElem?_drop] at hu hx
   exact hr _ u x hu hx
section
include hT h
end
theorem fill_rep {R : RC} {place : Nat → Option (Nat × Nat)} {n : Nat} {f : List PV → List (Nat × PV) → List PV} (hf0 : ∀ l, f l [] = l) (hf : ∀ l i v r off, place i = some (off, v.cells.length) → f l ((i, v) :: r) = f (setAt l off v.cells) r) :
  ∀ (ps : List (Nat × PV)) (xs : List (Nat × Value)) (l : List PV) (cs : List Value), ps.length = xs.length → (∀ (i : Nat) p x, ps[i]? = some p → xs[i]? = some x → p.1 = x.1 ∧ Rep R p.2 x.2) →
  l.length = n → l.length = cs.length → (∀ (i : Nat) u x, l[i]? = some u → cs[i]? = some x → Rep R u x) →
  (∀ p ∈ ps, ∃ off, place p.1 = some (off, p.2.cells.length) ∧ off + p.2.cells.length ≤ n ∧ p.2.cells.all PV.one = true) →
  ∃ cs' : List Value, Instr.fill place ⟨cs⟩ xs = some ⟨cs'⟩ ∧ (f l ps).length = cs'.length ∧ ∀ (i : Nat) u x, (f l ps)[i]? = some u → cs'[i]? = some x → Rep R u x
 | [], [], l, cs, _, _, hn, hl, hr, _ => ⟨cs, rfl, by rw [hf0]; exact hl, by rw [hf0]; exact hr⟩
 | [], _ :: _, _, _, h, _, _, _, _, _ => by simp at h
 | _ :: _, [], _, _, h, _, _, _, _, _ => by simp at h
 | (i, v) :: ps, (j, x) :: xs, l, cs, hlen, hpx, hn, hl, hr, hok => by
  obtain ⟨h1, h2⟩ := hpx 0 _ _ rfl rfl
  simp only at h1 h2
  subst h1
  obtain ⟨off, h3, h4, h5⟩ := hok _ (List.mem_cons_self ..)
  simp only at h3 h4 h5
  obtain ⟨ys, h6, h7, h8, h9⟩ := rep_cells h2 h5
  have hset := foldl_set ys off ⟨cs⟩ 0 (by simp; omega)
  have hlen2 : (setAt l off v.cells).length = n := by unfold setAt; simp; omega
  obtain ⟨cs', e1, e2, e3⟩ := fill_rep hf0 hf ps xs (setAt l off v.cells) (cs.take off ++ ys ++ cs.drop (off + ys.length)) (by simpa using hlen)
   (fun k p y hp hy => hpx (k + 1) p y (by simpa using hp) (by simpa using hy)) hlen2 (by rw [hlen2]; simp; omega) (setAt_rep hl hr h7 h8) (fun p hp => hok p (List.mem_cons_of_mem _ hp))
  refine ⟨cs', ?_, by rw [hf _ _ _ _ _ h3]; exact e2, by rw [hf _ _ _ _ _ h3]; exact e3⟩
  have h10 : ¬ (ys.length ≠ v.cells.length ∨ off + ys.length > cs.length) := by omega
  simp only [Nat.add_zero] at hset
  simp only [Instr.fill, h3, h6]
  rw [← e1, ← hset]
  simp [h10]
section
include hT h
end
theorem run_mapM {α β : Type} {P : Program} {f : α → Sem β} {v : α → β} (l : List α) (hf : ∀ x ∈ l, ∀ w, (f x).run P w = .ok (v x) w) (w : World) : (l.mapM f).run P w = .ok (l.map v) w := by
 induction l with
 | nil => simp
 | cons x r ih =>
  simp [hf x (List.mem_cons_self ..), ih (fun y hy => hf y (List.mem_cons_of_mem _ hy))]
section
include hT h
end
theorem rep_zero {R : RC} (C : Ctx) (hT : TyOk C) {t : TypeId} (hz : C.zero t ≠ []) : ∃ i z cs, C.P.info? t = some i ∧ i.zero = some z ∧ z.cells = ⟨cs⟩ ∧ cs.map cellOf = C.zero t ∧ (∀ (i : Nat) u x, (C.zero t)[i]? = some u → cs[i]? = some x → Rep R u x) := by
 obtain ⟨i, z, h1, h2, h3⟩ := hT.zero t hz
 refine ⟨i, z, z.cells.toList, h1, h2, rfl, h3, fun k u x hu hx => ?_⟩
 rw [← h3, List.getElem?_map, hx] at hu
 simp only [Option.map_some, Option.some.injEq] at hu
 subst hu
 exact rep_cellOf R x
section
include hT h
theorem q_build {t : TypeId} {parts : Array (Nat × Operand)} (ho : o.op = .build t parts) (hq : qWp C s g (.build t parts) K) :
  ∃ v, K v ∧ (g → ∃ y, Rep ⟨w, Z, E.w0.heap.size, φ⟩ v y ∧ GivesDry C.P (execOp a.eval o) w y true) := by
 obtain ⟨pl⟩ := parts
 simp only [qWp] at hq
 have hu := hT.und t
 have hpx : ∀ (vs : List PV), vs.length = (pl.map (·.2)).length → g → (g → ∀ (i : Nat) v x, vs[i]? = some v → (pl.map (·.2))[i]? = some x → Rep ⟨w, Z, E.w0.heap.size, φ⟩ v (a.eval x)) →
   ∀ (i : Nat) (p : Nat × PV) (x : Nat × Value), ((pl.map (·.1)).zip vs)[i]? = some p → (pl.map fun q => (q.1, a.eval q.2))[i]? = some x → p.1 = x.1 ∧ Rep ⟨w, Z, E.w0.heap.size, φ⟩ p.2 x.2 := by
  intro vs hl hg hv i p x hp hx
  rw [List.getElem?_map, Option.map_eq_some_iff] at hx
  obtain ⟨q, hq, rfl⟩ := hx
  rw [List.getElem?_zip_eq_some] at hp
  obtain ⟨e1, e2⟩ := hp
  rw [List.getElem?_map, hq] at e1
  simp only [Option.map_some, Option.some.injEq] at e1
  exact ⟨e1.symm, hv hg i _ _ e2 (by rw [List.getElem?_map, hq]; rfl)⟩
 split at hq
 ·have he := ‹C.ty t = TD.struct _›
  rename_i fs _
  rw [he] at hu
  obtain ⟨F, hF, hfs, hne⟩ := hu
  obtain ⟨vs, hq, hl, hv⟩ := h.opds hq
  obtain ⟨hz1, hz2, hok, hq⟩ := hq
  refine ⟨_, hq, fun hg => ?_⟩
  obtain ⟨i, z, cs, hi, hiz, hzc, hcs, hzr⟩ := rep_zero (R := ⟨w, Z, E.w0.heap.size, φ⟩) C hT hz2
  have hplace : ∀ (k off ty : Nat), fs[k]? = some (off, ty) → (F.map fun f => (f.offset, C.size f.type))[k]? = some (off, C.size ty) := by
   intro k off ty hk
   rw [← hfs, List.getElem?_map, Option.map_eq_some_iff] at hk
   obtain ⟨fd, h1, h2⟩ := hk
   simp only [Prod.mk.injEq] at h2
   rw [Array.getElem?_map, ← Array.getElem?_toList, h1, Option.map_some, h2.1, h2.2]
  have hok2 : ∀ ps : List (Nat × PV), buildOk C fs (C.size t) ps → ∀ p ∈ ps, ∃ off, (F.map fun f => (f.offset, C.size f.type))[p.1]? = some (off, p.2.cells.length) ∧ off + p.2.cells.length ≤ C.size t ∧ p.2.cells.all PV.one = true := by
   intro ps
   induction ps with
   | nil => intro _ p hp; cases hp
   | cons q r ih =>
    intro hb p hp
    obtain ⟨k, v⟩ := q
    simp only [buildOk] at hb
    rcases List.mem_cons.1 hp with rfl | hp
    ·have hb := hb.1
     split at hb
     ·rename_i off ty hk
      exact ⟨off, by rw [hb.1]; exact hplace _ _ _ hk, by rw [hb.1]; exact hb.2.1, hb.2.2⟩
     ·exact hb.elim
    ·exact ih hb.2 p hp
  obtain ⟨cs', e1, e2, e3⟩ := fill_rep (R := ⟨w, Z, E.w0.heap.size, φ⟩) (place := ((F.map fun f => (f.offset, C.size f.type))[·]?)) (n := C.size t) (f := buildP fs) (fun l => rfl)
   (fun l k v r off hk => by
    show buildP fs (setAt l (((fs[k]?).map (·.1)).getD 0) v.cells) r = _
    congr 2
    have hk : (F[k]?).map (fun f => (f.offset, C.size f.type)) = some (off, v.cells.length) := by rw [← Array.getElem?_map]; exact hk
    rw [Option.map_eq_some_iff] at hk
    obtain ⟨fd, h1, h2⟩ := hk
    simp only [Prod.mk.injEq] at h2
    rw [← hfs, List.getElem?_map, Array.getElem?_toList, h1]
    exact h2.1)
   ((pl.map (·.1)).zip vs) (pl.map fun q => (q.1, a.eval q.2)) (C.zero t) cs (by simp [hl]) (hpx vs (by simpa using hl) hg (by simpa using hv)) hz1 (by rw [← hcs]; simp) hzr (hok2 _ hok)
  refine ⟨_, .agg _ cs' e2 e3, ?_⟩
  have hmap : ∀ w, (F.mapM fun f => (Prod.mk f.offset <$> sizeOf f.type : Sem (Nat × Nat))).run C.P w = .ok (F.map fun f => (f.offset, C.size f.type)) w := by
   intro w
   have hr := run_mapM (P := C.P) (f := fun f : Field => (Prod.mk f.offset <$> sizeOf f.type : Sem (Nat × Nat))) (v := fun f : Field => (f.offset, C.size f.type)) F.toList (fun f hf w => by
    have : 0 < C.size f.type := Nat.pos_of_ne_zero (hne (f.offset, f.type) (by rw [← hfs]; exact List.mem_map.2 ⟨f, hf, rfl⟩))
    simp [run_size hT this]) w
   rw [Array.mapM_eq_mapM_toList]
   simp only [Sem.run_map, hr, Result.andThen_ok]
   congr 1
   exact Array.ext' (by simp)
  simp only [Array.getElem?_map] at e1
  simp [execOp, ho, GivesDry, Instr.build, zeroValue, typeInfo, hi, hiz, run_underlying hF, hmap, hzc, e1]
 ·have he := ‹C.ty t = TD.arr _ _›
  rename_i n e _
  rw [he] at hu
  obtain ⟨vs, hq, hl, hv⟩ := h.opds hq
  obtain ⟨hze, hz1, hz2, hok, hq⟩ := hq
  refine ⟨_, hq, fun hg => ?_⟩
  obtain ⟨i, z, cs, hi, hiz, hzc, hcs, hzr⟩ := rep_zero (R := ⟨w, Z, E.w0.heap.size, φ⟩) C hT hz2
  have hok2 : ∀ ps : List (Nat × PV), arrOk (C.size e) (C.size t) ps → ∀ p ∈ ps, ∃ off, some (p.1 * C.size e, C.size e) = some (off, p.2.cells.length) ∧ off + p.2.cells.length ≤ C.size t ∧ p.2.cells.all PV.one = true := by
   intro ps
   induction ps with
   | nil => intro _ p hp; cases hp
   | cons q r ih =>
    intro hb p hp
    obtain ⟨k, v⟩ := q
    simp only [arrOk] at hb
    rcases List.mem_cons.1 hp with rfl | hp
    ·exact ⟨k * C.size e, by rw [hb.1.1], by rw [hb.1.1]; exact hb.1.2.1, hb.1.2.2⟩
    ·exact ih hb.2 p hp
  obtain ⟨cs', e1, e2, e3⟩ := fill_rep (R := ⟨w, Z, E.w0.heap.size, φ⟩) (place := fun i => some (i * C.size e, C.size e)) (n := C.size t) (f := arrP (C.size e)) (fun l => rfl)
   (fun l k v r off hk => by
    show arrP (C.size e) (setAt l (k * C.size e) v.cells) r = _
    simp only [Option.some.injEq, Prod.mk.injEq] at hk
    rw [hk.1])
   ((pl.map (·.1)).zip vs) (pl.map fun q => (q.1, a.eval q.2)) (C.zero t) cs (by simp [hl]) (hpx vs (by simpa using hl) hg (by simpa using hv)) hz1 (by rw [← hcs]; simp) hzr (hok2 _ hok)
  refine ⟨_, .agg _ cs' e2 e3, ?_⟩
  simp [execOp, ho, GivesDry, Instr.build, zeroValue, typeInfo, hi, hiz, run_underlying hu, run_size hT hze, hzc, e1]
 ·exact hq.elim
end
end Go.Vc
namespace Go.Vc
open Go
variable {C : Ctx} {E : Env} {Z : Nat → Prop} {φ : Phi} {s : St} {a : Act} {w : World} {g : Prop} {K : PV → Prop} {o : Oper}
theorem q_sound (hT : TyOk C) (h : Rel C E Z φ s a w) {op : Op} (ho : o.op = op) (hp : isPlain C op = true) (hq : qWp C s g op K) :
  ∃ v, K v ∧ (g → ∃ y, Rep ⟨w, Z, E.w0.heap.size, φ⟩ v y ∧ GivesDry C.P (execOp a.eval o) w y (!isLoad op)) := by
 cases op
 case move x => exact q_move h (.inl ho) hq
 case assign x => exact q_move h (.inr ho) hq
 case pick c x y => exact q_pick h ho hq
 case nilCheck x => exact q_nil h ho hq
 case binOp op t x y t' => exact q_bin hT h ho hq
 case unOp op t x => exact q_un h ho hq
 case convert src dst x => exact q_conv hT h ho hq
 case makeFunc f x y => exact q_makeFunc h ho hq
 case extract x i => exact q_extract h ho hq
 case fieldAddr t x f => exact q_fieldAddr hT h ho hq
 case field t x f => exact q_field hT h ho hq
 case indexAddr t x i => exact q_indexAddr hT h ho hq
 case index t x i => exact q_index hT h ho hq
 case slice t x lo hi mx => exact q_slice hT h ho hq
 case build t ps => exact q_build hT h ho hq
 case load t x => exact q_load hT h ho hq
 case call c =>
  obtain ⟨cal, args, ts⟩ := c
  obtain ⟨args⟩ := args
  obtain ⟨ts⟩ := ts
  cases cal with
  | value f => exact hq.elim
  | invoke r m => exact hq.elim
  | builtin b =>
   cases b
   case len =>
    match args, ts, hq with
    | [x], [t], hq => exact q_len hT h ho hq
    | [], _, hq => exact hq.elim
    | _ :: _ :: _, _, hq => exact hq.elim
    | [_], [], hq => exact hq.elim
    | [_], _ :: _ :: _, hq => exact hq.elim
   case max =>
    match args, hq with
    | [x, y], hq => exact q_max h ho hq
    | [], hq => exact hq.elim
    | [_], hq => exact hq.elim
    | _ :: _ :: _ :: _, hq => exact hq.elim
   case min =>
    match args, hq with
    | [x, y], hq => exact q_min h ho hq
    | [], hq => exact hq.elim
    | [_], hq => exact hq.elim
    | _ :: _ :: _ :: _, hq => exact hq.elim
   all_goals exact hq.elim
 all_goals exact hq.elim
theorem Rel.put (h : Rel C E Z φ s a w) (d : Option Nat) {v : PV} {x : Value} (hv : ∀ t, d = some t → Rep ⟨w, Z, E.w0.heap.size, φ⟩ v x) : Rel C E Z φ (s.put d v) (a.put d x) w := by
 cases d with
 | none => exact h
 | some d =>
  refine ⟨by simp [Act.put, St.put, h.n], fun t => ?_, h.heap, h.zlt, h.zin, h.z0, h.frame, h.glob, h.defers, h.fix⟩
  show Rep _ (look t ((d, if d < s.n then v else .undef) :: s.slots)) ((a.tmps.setIfInBounds d x).getD t undef)
  simp only [look]
  split
  ·rename_i htd
   subst htd
   split
   ·rename_i hlt
    have : (a.tmps.setIfInBounds t x).getD t undef = x := by simp [h.n, hlt]
    rw [this]
    exact hv t rfl
   ·exact .undef _
  ·rename_i htd
   have : (a.tmps.setIfInBounds d x).getD t undef = a.tmps.getD t undef := by
    simp [Array.getElem?_setIfInBounds_ne (Ne.symm htd)]
   rw [this]
   exact h.slots t
theorem lookB_fresh : ∀ (h : List (Nat × Blk)) (i : Nat) b, lookB i h = some b → i < fresh h
 | [], i, b, h => by simp [lookB] at h
 | (u, v) :: r, i, b, h => by
  simp only [lookB] at h
  simp only [fresh]
  split at h
  ·omega
  ·have := lookB_fresh r i b h; omega
theorem lookB_upd {t : Nat} {b : Blk} : ∀ (h : List (Nat × Blk)) (i : Nat), lookB i (updB t b h) = if i = t then (lookB t h).map (fun _ => b) else lookB i h
 | [], i => by simp [updB, lookB]
 | (u, v) :: r, i => by
  simp only [updB]
  split
  ·rename_i htu
   subst htu
   simp only [lookB]
   by_cases hit : i = t
   ·subst hit; simp
   ·simp [hit]
  ·rename_i htu
   simp only [lookB, lookB_upd r i, if_neg htu]
   by_cases hit : i = t
   ·subst hit; simp [htu]
   ·simp [hit]
theorem RepB.step {R R' : RC} {own : Nat → Prop} (hl : Later R R') (hφ : ∀ id x, R.φ id = some x → R'.φ id = some x) {id : Nat} {b : Blk} (h : RepB R own id b)
  (hb : ∀ k m, R.φ id = some (some k, m) → R'.w.heap[k]? = R.w.heap[k]? ∧ (¬ R.Z k → ¬ R'.Z k)) : RepB R' own id b := by
 cases b with
 | box l =>
  obtain ⟨b, cs, T, ⟨m, h1⟩, h2, h3, h4, h5, h6⟩ := h
  obtain ⟨e1, e2⟩ := hb b m h1
  exact ⟨b, cs, T, ⟨m, hφ _ _ h1⟩, e2 h2, by rw [hl.B]; exact h3, e1.trans h4, h5, fun i u hu => by obtain ⟨x, g1, g2, g3⟩ := h6 i u hu; exact ⟨x, g1, g2.step hl hφ, g3⟩⟩
 | row e sz l o =>
  rcases h with ⟨h1, h2⟩ | ⟨b, cs, cap, h1, h2, h3, h4, h5, h6, h7, h8, h9, h10, h11⟩
  ·exact .inl ⟨hφ _ _ h1, h2⟩
  ·obtain ⟨e1, e2⟩ := hb b _ h1
   exact .inr ⟨b, cs, cap, hφ _ _ h1, e2 h2, by rw [hl.B]; exact h3, by rw [hl.B]; exact h4, e1.trans h5, h6, h7, h8, h9, h10, fun j i x u hx hu => by
    obtain ⟨y, g1, g2, g3⟩ := h11 j i x u hx hu; exact ⟨y, g1, g2.step (hl.Zc o), g3⟩⟩
 | fro e sz l o =>
  rcases h with ⟨h1, h2⟩ | ⟨b, cs, cap, h1, h2, h4, h5, h6, h7, h8, h9, h10, h11⟩
  ·exact .inl ⟨hφ _ _ h1, h2⟩
  ·obtain ⟨e1, e2⟩ := hb b _ h1
   exact .inr ⟨b, cs, cap, hφ _ _ h1, (hl.Z b h2).1, by rw [hl.B]; exact h4, e1.trans h5, h6, h7, h8, h9, h10, fun j i x u hx hu => by
    obtain ⟨y, g1, g2, g3⟩ := h11 j i x u hx hu; exact ⟨y, g1, g2.step (hl.Zc o), g3⟩⟩
theorem heap_push_lt {w : World} {ob : Obj} {b : Nat} (h : b < w.heap.size) : (w.alloc ob).heap[b]? = w.heap[b]? := by
 show (w.heap.push ob)[b]? = _
 rw [Array.getElem?_push, if_neg (by omega)]
theorem lt_of_heap {w : World} {b : Nat} {x : Obj} (h : w.heap[b]? = some x) : b < w.heap.size := (Array.getElem?_eq_some_iff.1 h).1
theorem RepB.lt {R : RC} {own : Nat → Prop} {id : Nat} {b : Blk} (h : RepB R own id b) : ∀ k m, R.φ id = some (some k, m) → k < R.w.heap.size := by
 intro k m hk
 cases b with
 | box l =>
  obtain ⟨b, cs, T, ⟨m', h1⟩, h2, h3, h4, h5, h6⟩ := h
  rw [h1] at hk; simp only [Option.some.injEq, Prod.mk.injEq] at hk
  rw [← hk.1]; exact lt_of_heap h4
 | row e sz l o =>
  rcases h with ⟨h1, h2⟩ | ⟨b, cs, cap, h1, h2, h3, h4, h5, _⟩
  ·rw [h1] at hk; simp at hk
  ·rw [h1] at hk; simp only [Option.some.injEq, Prod.mk.injEq] at hk
   rw [← hk.1]; exact lt_of_heap h5
 | fro e sz l o =>
  rcases h with ⟨h1, h2⟩ | ⟨b, cs, cap, h1, h2, h4, h5, _⟩
  ·rw [h1] at hk; simp at hk
  ·rw [h1] at hk; simp only [Option.some.injEq, Prod.mk.injEq] at hk
   rw [← hk.1]; exact lt_of_heap h5
theorem Rel.label (h : Rel C E Z φ s a w) {id : Nat} {x : Option Nat × Nat} (hx : φ id = some x) : ∃ b, lookB id s.heap = some b ∧ RepB ⟨w, Z, E.w0.heap.size, φ⟩ E.own id b := by
 have := h.heap.keys id x hx
 obtain ⟨b, hb⟩ := Option.isSome_iff_exists.1 this
 exact ⟨b, hb, h.heap.blk id b hb⟩
theorem Rel.fix_new (h : Rel C E Z φ s a w) {φ' : Phi} {x : Option Nat × Nat} (_hx : φ' (fresh s.heap) = some x) (hφ : ∀ i, i ≠ fresh s.heap → φ' i = φ i) {bl : Blk} :
  ∀ i ∈ s.kb, φ' i = E.φ0 i ∧ ∃ l, lookB i ((fresh s.heap, bl) :: s.heap) = some (.box l) := fun i hi => by
 obtain ⟨h1, l, h2⟩ := h.fix i hi
 have hne : i ≠ fresh s.heap := by have := lookB_fresh _ _ _ h2; omega
 exact ⟨(hφ i hne).trans h1, l, by simp only [lookB, if_neg hne]; exact h2⟩
theorem Rel.alloc (h : Rel C E Z φ s a w) (ob : Obj) (bl : Blk) (m : Nat)
  (hb : ∀ φ' : Phi, φ' (fresh s.heap) = some (some w.heap.size, m) → (∀ id x, φ id = some x → φ' id = some x) → Later ⟨w, Z, E.w0.heap.size, φ⟩ ⟨w.alloc ob, Z, E.w0.heap.size, φ'⟩ →
   RepB ⟨w.alloc ob, Z, E.w0.heap.size, φ'⟩ E.own (fresh s.heap) bl) :
  ∃ φ', φ' (fresh s.heap) = some (some w.heap.size, m) ∧ Later ⟨w, Z, E.w0.heap.size, φ⟩ ⟨w.alloc ob, Z, E.w0.heap.size, φ'⟩ ∧ (∀ id x, φ id = some x → φ' id = some x) ∧
   Rel C E Z φ' { s with heap := (fresh s.heap, bl) :: s.heap } a (w.alloc ob) := by
 have hnew : φ (fresh s.heap) = none := by
  cases hx : φ (fresh s.heap) with
  | none => rfl
  | some x =>
   obtain ⟨b, hb, _⟩ := h.label hx
   exact absurd (lookB_fresh _ _ _ hb) (Nat.lt_irrefl _)
 let φ' : Phi := fun i => if i = fresh s.heap then some (some w.heap.size, m) else φ i
 have h1 : φ' (fresh s.heap) = some (some w.heap.size, m) := by simp [φ']
 have h2 : ∀ id x, φ id = some x → φ' id = some x := fun id x hx => by
  have : id ≠ fresh s.heap := by rintro rfl; rw [hnew] at hx; cases hx
  simp [φ', this, hx]
 have h3 : Later ⟨w, Z, E.w0.heap.size, φ⟩ ⟨w.alloc ob, Z, E.w0.heap.size, φ'⟩ :=
  ⟨rfl, fun b hb => ⟨hb, heap_push_lt (h.zlt b hb)⟩, fun b cs T hb => ⟨cs, (heap_push_lt (lt_of_heap hb)).trans hb, rfl⟩⟩
 refine ⟨φ', h1, h3, h2, h.n, fun t => (h.slots t).step h3 h2, ⟨fun id b hl => ?_, fun i j b m1 m2 hzb hi hj => ?_, fun id x hx => ?_⟩, fun b hb => Nat.lt_of_lt_of_le (h.zlt b hb) (by simp), h.zin, h.z0, ?_, h.glob, h.defers, h.fix_new h1 fun i hi => by simp [φ', hi]⟩
 ·simp only [lookB] at hl
  split at hl
  ·rename_i he
   subst he
   simp only [Option.some.injEq] at hl
   subst hl
   exact hb φ' h1 h2 h3
  ·have hr := h.heap.blk id b hl
   exact hr.step h3 h2 fun k m hk => ⟨heap_push_lt (hr.lt k m hk), fun hn => hn⟩
 ·simp only [φ'] at hi hj
  split at hi
  ·split at hj
   ·omega
   ·simp only [Option.some.injEq, Prod.mk.injEq] at hi
    obtain ⟨bb, _, hr⟩ := h.label hj
    have := hr.lt _ _ hj
    simp only at this; omega
  ·split at hj
   ·simp only [Option.some.injEq, Prod.mk.injEq] at hj
    obtain ⟨bb, _, hr⟩ := h.label hi
    have := hr.lt _ _ hi
    simp only at this; omega
   ·exact h.heap.inj i j b m1 m2 hzb hi hj
 ·simp only [lookB]
  split
  ·rfl
  ·rename_i hne
   simp only [φ', if_neg hne] at hx
   exact h.heap.keys id x hx
 ·exact ⟨h.frame.os, h.frame.tape, h.frame.output, Nat.le_trans h.frame.size (by simp), fun b hb hn => by rw [heap_push_lt (Nat.lt_of_lt_of_le hb h.frame.size)]; exact h.frame.block b hb hn, h.frame.shaped rfl h3⟩
end Go.Vc
namespace Go.Vc
open Go
variable {C : Ctx} {E : Env} {Z : Nat → Prop} {φ : Phi} {s : St} {a : Act} {w : World} {o : Oper} {k : St → Prop} {next : Act → World → Prop} {Q : Exit → Act → World → Prop}
theorem wp_value {P : Program} {x : Value} {w' : World} (h : (execOp a.eval o).run P w = .ok (.value x) w') (hn : next (a.put o.dst x) w') : o.wp P a w next Q := by
 unfold Oper.wp
 rw [h]
 exact hn
theorem wp_skipped {P : Program} {w' : World} (h : (execOp a.eval o).run P w = .ok .skip w') (hn : next (a.put o.dst undef) w') : o.wp P a w next Q := by
 unfold Oper.wp
 rw [h]
 exact hn
theorem get_alloc_new {w : World} {ob : Obj} : (w.alloc ob).heap[w.heap.size]? = some ob := by
 show (w.heap.push ob)[w.heap.size]? = _
 simp
theorem Rel.notZ_new (h : Rel C E Z φ s a w) : ¬ Z w.heap.size := fun hz => Nat.lt_irrefl _ (h.zlt _ hz)
theorem Rel.newBox (h : Rel C E Z φ s a w) {l : List PV} {cs : List Value} (t : TypeId) (hl : l.length = cs.length) (hr : ∀ (i : Nat) u y, l[i]? = some u → cs[i]? = some y → Rep ⟨w, Z, E.w0.heap.size, φ⟩ u y)
  (h1 : ∀ y ∈ cs, y.oneCell' = true) (d : Option Nat) :
  Holds C E ({ s with heap := (fresh s.heap, .box l) :: s.heap }.put d (.ptr (fresh s.heap) 0)) (a.put d (.pointer (some ⟨w.heap.size, 0, none⟩))) (w.alloc (.cells ⟨cs⟩ t)) := by
 obtain ⟨φ', e1, e2, e3, e4⟩ := h.alloc (.cells ⟨cs⟩ t) (.box l) 0 (fun φ' e1 e3 e2 => ⟨w.heap.size, ⟨cs⟩, t, ⟨0, e1⟩, h.notZ_new, .inr h.frame.size, get_alloc_new, by simp [hl], fun i u hu => by
  have hi : i < cs.length := by rw [← hl]; exact (List.getElem?_eq_some_iff.1 hu).1
  exact ⟨cs[i], by simp [hi], (hr i u _ hu (List.getElem?_eq_getElem hi)).step e2 e3, h1 _ (List.getElem_mem _)⟩⟩)
 exact ⟨Z, φ', e4.put d fun t ht => .ptr _ _ _ _ e1⟩
theorem h_alloc (hT : TyOk C) (h : Rel C E Z φ s a w) {t : TypeId} {S : Callee} (ho : o.op = .alloc t) (hq : hWp C S s (.alloc t) o.dst k) (hn : ∀ s' a' w', k s' → Holds C E s' a' w' → next a' w') : o.wp C.P a w next Q := by
 obtain ⟨h1, h2, hk⟩ := hq
 obtain ⟨i, z, cs, hi, hiz, hzc, hcs, hzr⟩ := rep_zero (R := ⟨w, Z, E.w0.heap.size, φ⟩) C hT h2
 have one : ∀ y ∈ cs, y.oneCell' = true := fun y hy => by
  obtain ⟨j, hj, rfl⟩ := List.getElem_of_mem hy
  have hjl : j < (C.zero t).length := by rw [← hcs]; simpa using hj
  exact (hzr j _ _ (List.getElem?_eq_getElem hjl) (List.getElem?_eq_getElem hj)).oneCell (List.all_eq_true.1 h1 _ (List.getElem_mem _))
 refine wp_value (x := .pointer (some ⟨w.heap.size, 0, none⟩)) (w' := w.alloc (.cells ⟨cs⟩ t)) ?_ (hn _ _ _ hk (h.newBox t (by rw [← hcs]; simp) hzr one o.dst))
 simp [execOp, ho, Instr.alloc, zeroValue, typeInfo, hi, hiz, newVar, Go.newRow, hzc]
theorem h_box (h : Rel C E Z φ s a w) {t : TypeId} {x : Operand} {S : Callee} (ho : o.op = .box t x) (hq : hWp C S s (.box t x) o.dst k) (hn : ∀ s' a' w', k s' → Holds C E s' a' w' → next a' w') : o.wp C.P a w next Q := by
 simp only [hWp] at hq
 obtain ⟨v, hq, hv⟩ := h.opd hq
 obtain ⟨h1, hk⟩ := hq
 obtain ⟨cs, e1, e2, e3, e4⟩ := rep_cells (hv trivial) h1
 refine wp_value (x := .pointer (some ⟨w.heap.size, 0, none⟩)) (w' := w.alloc (.cells ⟨cs⟩ t)) ?_ (hn _ _ _ hk (h.newBox t e2 e3 e4 o.dst))
 simp [execOp, ho, Instr.box, newVar, Go.newRow, e1]
theorem heap_setRow_ne {w : World} {b : Nat} {cs : Array Value} {i : Nat} (h : i ≠ b) : (w.setRow b cs).heap[i]? = w.heap[i]? := by
 unfold World.setRow
 simp only [Array.getElem?_modify]
 rw [if_neg (fun e => h e.symm)]
theorem size_setRow {w : World} {b : Nat} {cs : Array Value} : (w.setRow b cs).heap.size = w.heap.size := by simp [World.setRow]
theorem later_setRow (h : Rel C E Z φ s a w) {b : Nat} {cs cs' : Array Value} {T : TypeId} (hb : w.heap[b]? = some (.cells cs T (0, 0))) (hs : cs'.size = cs.size) (hz : ¬ Z b) (φ' : Phi) :
  Later ⟨w, Z, E.w0.heap.size, φ⟩ ⟨w.setRow b cs', Z, E.w0.heap.size, φ'⟩ := by
 refine ⟨rfl, fun i hi => ⟨hi, heap_setRow_ne (fun e => hz (e ▸ hi))⟩, fun i ds U hi => ?_⟩
 by_cases hib : i = b
 ·subst hib
  rw [hb] at hi
  simp only [Option.some.injEq, Obj.cells.injEq] at hi
  obtain ⟨rfl, rfl, _⟩ := hi
  exact ⟨cs', setRow_heap w i cs cs' T (0, 0) hb, hs⟩
 ·exact ⟨ds, (heap_setRow_ne hib).trans hi, rfl⟩
theorem Rel.fix_upd (h : Rel C E Z φ s a w) {id : Nat} {bl : Blk} (hbx : ∀ l, lookB id s.heap = some (.box l) → ∃ l', bl = .box l') : ∀ i ∈ s.kb, φ i = E.φ0 i ∧ ∃ l, lookB i (updB id bl s.heap) = some (.box l) := fun i hi => by
 obtain ⟨h1, l, h2⟩ := h.fix i hi
 refine ⟨h1, ?_⟩
 rw [lookB_upd]
 split
 ·rename_i he
  subst he
  obtain ⟨l', hl'⟩ := hbx l h2
  exact ⟨l', by rw [h2, hl']; rfl⟩
 ·exact ⟨l, h2⟩
theorem Rel.write (h : Rel C E Z φ s a w) {id b m : Nat} {cs cs' : Array Value} {T : TypeId} (hid : φ id = some (some b, m)) (hb : w.heap[b]? = some (.cells cs T (0, 0))) (hs : cs'.size = cs.size) (hz : ¬ Z b)
  (hown : E.own b ∨ E.w0.heap.size ≤ b) {bl : Blk} (hbx : ∀ l, lookB id s.heap = some (.box l) → ∃ l', bl = .box l') (hbl : Later ⟨w, Z, E.w0.heap.size, φ⟩ ⟨w.setRow b cs', Z, E.w0.heap.size, φ⟩ → RepB ⟨w.setRow b cs', Z, E.w0.heap.size, φ⟩ E.own id bl) :
  Rel C E Z φ { s with heap := updB id bl s.heap } a (w.setRow b cs') := by
 have hl := later_setRow h hb hs hz φ
 refine ⟨h.n, fun t => (h.slots t).step hl fun _ _ hx => hx, ⟨fun i bk hi => ?_, h.heap.inj, fun i x hx => ?_⟩, fun i hi => by rw [size_setRow]; exact h.zlt i hi, h.zin, h.z0, ?_, h.glob, h.defers, h.fix_upd hbx⟩
 ·rw [lookB_upd] at hi
  split at hi
  ·rename_i he
   subst he
   rw [Option.map_eq_some_iff] at hi
   obtain ⟨_, _, rfl⟩ := hi
   exact hbl hl
  ·rename_i he
   have hr := h.heap.blk i bk hi
   refine hr.step hl (fun _ _ hx => hx) fun k m' hk => ⟨heap_setRow_ne (fun e => he ?_), fun hn => hn⟩
   subst e
   exact h.heap.inj i id k m' m hz hk hid
 ·rw [lookB_upd]
  have := h.heap.keys i x hx
  split
  ·rename_i he; subst he; simpa using this
  ·exact this
 ·refine ⟨h.frame.os, h.frame.tape, h.frame.output, by rw [size_setRow]; exact h.frame.size, fun i hi hn => ?_, h.frame.shaped rfl hl⟩
  have : i ≠ b := by
   rintro rfl
   rcases hown with ho | ho
   ·exact hn ho
   ·omega
  rw [heap_setRow_ne this]
  exact h.frame.block i hi hn
theorem setAt_cells {cs : Array Value} {off : Nat} {xs : List Value} (h : off + xs.length ≤ cs.size) : (cs.toList.take off ++ xs ++ cs.toList.drop (off + xs.length)).toArray.size = cs.size := by
 simp; omega
theorem mem_setAt {l : List Value} {off : Nat} {xs : List Value} {y : Value} (h : y ∈ l.take off ++ xs ++ l.drop (off + xs.length)) : y ∈ l ∨ y ∈ xs := by
 simp only [List.mem_append] at h
 rcases h with (h | h) | h
 ·exact .inl (List.mem_of_mem_take h)
 ·exact .inr h
 ·exact .inl (List.mem_of_mem_drop h)
theorem h_store_ptr (hT : TyOk C) (h : Rel C E Z φ s a w) {t : TypeId} {p x : Operand} (ho : o.op = .store t p x) {id off : Nat} {v : PV} {l : List PV} (hz : 0 < C.size t)
  (hp : Rep ⟨w, Z, E.w0.heap.size, φ⟩ (.ptr id off) (a.eval p)) (hv : Rep ⟨w, Z, E.w0.heap.size, φ⟩ v (a.eval x)) (h1 : v.cells.length = C.size t) (h2 : v.cells.all PV.one = true) (hl : lookB id s.heap = some (.box l))
  (hoff : off + C.size t ≤ l.length) (hk : k ({ s with heap := updB id (.box (setAt l off v.cells)) s.heap }.put o.dst .undef)) (hn : ∀ s' a' w', k s' → Holds C E s' a' w' → next a' w') : o.wp C.P a w next Q := by
 obtain ⟨ys, e1, e2, e3, e4⟩ := rep_cells hv h2
 obtain ⟨y, hy⟩ : ∃ y, a.eval p = y := ⟨_, rfl⟩
 rw [hy] at hp
 cases hp with
 | ptr _ _ b m hb =>
  obtain ⟨b', cs, T, ⟨m', g1⟩, g2, g3, g4, g5, g6⟩ := h.heap.blk id _ hl
  have hbb : b' = b := by have := g1.symm.trans hb; simp only [Option.some.injEq, Prod.mk.injEq] at this; exact this.1
  subst hbb
  simp only at g2 g3 g4
  have hfit : off + ys.length ≤ cs.size := by omega
  have hst := run_storeCells_at C.P b' off T ys 0 cs w g4 (by simpa using hfit) e4
  simp only [Nat.add_zero] at hst
  have hcs' := setAt_cells hfit
  have hrel := h.write (cs' := (cs.toList.take off ++ ys ++ cs.toList.drop (off + ys.length)).toArray) (bl := .box (setAt l off v.cells)) g1 g4 hcs' g2 g3 (fun _ _ => ⟨_, rfl⟩) (fun hlat => by
   refine ⟨b', _, T, ⟨m', g1⟩, g2, g3, setRow_heap w b' cs _ T (0, 0) g4, by rw [hcs']; unfold setAt; simp; omega, fun i u hu => ?_⟩
   have hi : i < (cs.toList.take off ++ ys ++ cs.toList.drop (off + ys.length)).length := by
    have := (List.getElem?_eq_some_iff.1 hu).1
    unfold setAt at this
    simp at this ⊢
    omega
   refine ⟨_, List.getElem?_toArray .. ▸ List.getElem?_eq_getElem hi, ?_, ?_⟩
   ·refine setAt_rep (R := ⟨w.setRow b' _, Z, E.w0.heap.size, φ⟩) (l := l) (cs := cs.toList) (by simp [g5]) (fun i u x hu hx => ?_) e2 (fun i u x hu hx => (e3 i u x hu hx).step hlat fun _ _ hx => hx) i u _ hu (List.getElem?_eq_getElem hi)
    obtain ⟨x', q1, q2, q3⟩ := g6 i u hu
    rw [Array.getElem?_toList, q1] at hx
    simp only [Option.some.injEq] at hx
    subst hx
    exact q2.step hlat fun _ _ hx => hx
   ·rcases mem_setAt (List.getElem_mem hi) with hm | hm
    ·obtain ⟨j, hj, hjx⟩ := List.getElem_of_mem hm
     have hjl : j < l.length := by simp at hj; omega
     obtain ⟨x', q1, q2, q3⟩ := g6 j l[j] (List.getElem?_eq_getElem hjl)
     rw [← hjx]
     rw [← Array.getElem?_toList, List.getElem?_eq_getElem hj] at q1
     simp only [Option.some.injEq] at q1
     rw [q1]
     exact q3
    ·exact e4 _ hm)
  refine wp_skipped ?_ (hn _ _ _ hk ⟨Z, φ, hrel.put o.dst fun _ _ => .undef _⟩)
  have e5 : ys.length = C.size t := by omega
  simp [execOp, ho, hy, Instr.storeAt, Instr.sureAddr, storeVar, run_size hT hz, e1, e5, hst]
end Go.Vc
namespace Go.Vc
open Go
variable {C : Ctx} {E : Env} {Z : Nat → Prop} {φ : Phi} {s : St} {a : Act} {w : World} {o : Oper} {k : St → Prop} {next : Act → World → Prop} {Q : Exit → Act → World → Prop}
theorem Rel.freeze (h : Rel C E Z φ s a w) (id : Nat) : ∃ Z' : Nat → Prop, (∀ b, Z b → Z' b) ∧ Rel C E Z' φ { s with heap := freeze id s.heap } a w := by
 unfold Vc.freeze
 split
 ·rename_i e z l oo hl
  have hr := h.heap.blk id _ hl
  rcases hr with ⟨h1, h2⟩ | ⟨b, cs, cap, h1, h2, h3, h4, h5, h6, h7, h8, h9, h10, h11⟩
  ·refine ⟨Z, fun _ hb => hb, h.n, h.slots, ⟨fun i bk hi => ?_, h.heap.inj, fun i x hx => ?_⟩, h.zlt, h.zin, h.z0, h.frame, h.glob, h.defers, h.fix_upd fun l' hl' => by rw [hl] at hl'; cases hl'⟩
   ·rw [lookB_upd] at hi
    split at hi
    ·rename_i he
     subst he
     rw [hl] at hi
     simp only [Option.map_some, Option.some.injEq] at hi
     subst hi
     exact .inl ⟨h1, h2⟩
    ·exact h.heap.blk i bk hi
   ·rw [lookB_upd]
    have := h.heap.keys i x hx
    split
    ·rename_i he; subst he; simpa using this
    ·exact this
  ·simp only at h1 h2 h3 h5
   have hlat : Later ⟨w, Z, E.w0.heap.size, φ⟩ ⟨w, fun x => Z x ∨ x = b, E.w0.heap.size, φ⟩ := ⟨rfl, fun x hx => ⟨.inl hx, rfl⟩, fun x cs T hx => ⟨cs, hx, rfl⟩⟩
   refine ⟨fun x => Z x ∨ x = b, fun _ hb => .inl hb, h.n, fun t => (h.slots t).step hlat fun _ _ hx => hx, ⟨fun i bk hi => ?_, fun i j b m m' hzb hi hj => h.heap.inj i j b m m' (fun hz => hzb (.inl hz)) hi hj, fun i x hx => ?_⟩, fun x hx => ?_, fun x hx => ?_, fun x hx => .inl (h.z0 x hx), h.frame, h.glob, h.defers, h.fix_upd fun l' hl' => by rw [hl] at hl'; cases hl'⟩
   ·rw [lookB_upd] at hi
    split at hi
    ·rename_i he
     subst he
     rw [hl] at hi
     simp only [Option.map_some, Option.some.injEq] at hi
     subst hi
     exact .inr ⟨b, cs, cap, h1, .inr rfl, h4, h5, h6, h7, h8, h9, h10, fun j i x u hx hu => by obtain ⟨y, g1, g2, g3⟩ := h11 j i x u hx hu; exact ⟨y, g1, g2.step (hlat.Zc oo), g3⟩⟩
    ·rename_i he
     refine (h.heap.blk i bk hi).step hlat (fun _ _ hx => hx) fun k m hk => ⟨rfl, fun hn => ?_⟩
     rintro (hz | rfl)
     ·exact hn hz
     ·exact he (h.heap.inj _ _ _ _ _ h2 hk h1)
   ·rw [lookB_upd]
    have := h.heap.keys i x hx
    split
    ·rename_i he; subst he; simpa using this
    ·exact this
   ·rcases hx with hx | rfl
    ·exact h.zlt x hx
    ·exact lt_of_heap h5
   ·rcases hx with hx | rfl
    ·exact h.zin x hx
    ·exact .inr h3
 ·exact ⟨Z, fun _ hb => hb, h⟩
def FroLe (h h' : List (Nat × Blk)) : Prop := ∀ i, lookB i h' = lookB i h ∨ ∃ e z l o, lookB i h = some (.row e z l o) ∧ lookB i h' = some (.fro e z l o)
theorem FroLe.refl (h : List (Nat × Blk)) : FroLe h h := fun _ => .inl rfl
theorem FroLe.trans {h h' h'' : List (Nat × Blk)} (a : FroLe h h') (b : FroLe h' h'') : FroLe h h'' := fun i => by
 rcases a i with e | ⟨e, z, l, o, e1, e2⟩
 ·rcases b i with e' | ⟨e', z, l, o, e1, e2⟩
  ·exact .inl (e'.trans e)
  ·exact .inr ⟨e', z, l, o, by rw [← e]; exact e1, e2⟩
 ·rcases b i with e' | ⟨e', z', l', o', e1', e2'⟩
  ·exact .inr ⟨e, z, l, o, e1, by rw [e']; exact e2⟩
  ·rw [e2] at e1'; cases e1'
theorem freeze_le (id : Nat) (h : List (Nat × Blk)) : FroLe h (freeze id h) := fun i => by
 unfold freeze
 split
 ·rename_i e z l oo hl
  rw [lookB_upd]
  split
  ·rename_i he
   subst he
   exact .inr ⟨e, z, l, oo, hl, by rw [hl]; rfl⟩
  ·exact .inl rfl
 ·exact .inl rfl
theorem freezeAll_le : ∀ (us : List PV) (h : List (Nat × Blk)), FroLe h (freezeAll us h)
 | [], h => FroLe.refl h
 | u :: r, h => by
  cases u <;> simp only [freezeAll] <;> first | exact freezeAll_le r h | exact (freeze_le _ h).trans (freezeAll_le r _)
theorem freeze_at {id : Nat} {h : List (Nat × Blk)} {e z : Nat} {l : List PV} {o : Bool} (hl : lookB id h = some (.row e z l o)) : lookB id (freeze id h) = some (.fro e z l o) := by
 unfold freeze
 rw [hl]
 simp only
 rw [lookB_upd, if_pos rfl, hl]
 rfl
theorem FroLe.fro {h h' : List (Nat × Blk)} (hh : FroLe h h') {id e z : Nat} {l : List PV} {o : Bool} (hl : lookB id h = some (.fro e z l o)) : lookB id h' = some (.fro e z l o) := by
 rcases hh id with e' | ⟨_, _, _, _, e1, _⟩
 ·rw [e', hl]
 ·rw [hl] at e1; cases e1
theorem freezeAll_at : ∀ (us : List PV) (h : List (Nat × Blk)) {z' id lo n e z : Nat} {l : List PV} {o : Bool}, .ref z' id lo n ∈ us → lookB id h = some (.row e z l o) → lookB id (freezeAll us h) = some (.fro e z l o)
 | [], h, _, _, _, _, _, _, _, _, hm, _ => by cases hm
 | u :: r, h, z', id, lo, n, e, z, l, o, hm, hl => by
  rcases List.mem_cons.1 hm with rfl | hm
  ·simp only [freezeAll]
   exact (freezeAll_le r _).fro (freeze_at hl)
  ·rename_i hm0
   clear hm0
   cases u <;> simp only [freezeAll] <;> first | exact freezeAll_at r h hm hl | skip
   rename_i i' _ _
   by_cases hi : i' = id
   ·subst hi
    exact (freezeAll_le r _).fro (freeze_at hl)
   ·refine freezeAll_at r _ hm ?_
    rcases freeze_le i' h id with e' | ⟨e1, z1, l1, o1, e2, e3⟩
    ·rw [e', hl]
    ·unfold freeze at e3
     split at e3
     ·rw [lookB_upd, if_neg (Ne.symm hi), hl] at e3; cases e3
     ·rw [hl] at e3; cases e3
theorem Rel.freezeAll : ∀ (us : List PV) {Z : Nat → Prop} {s : St}, Rel C E Z φ s a w → ∃ Z' : Nat → Prop, (∀ b, Z b → Z' b) ∧ Rel C E Z' φ { s with heap := freezeAll us s.heap } a w
 | [], Z, s, h => ⟨Z, fun _ hb => hb, h⟩
 | u :: r, Z, s, h => by
  cases u <;> simp only [Vc.freezeAll] <;> first | exact Rel.freezeAll r h | skip
  rename_i id _ _
  obtain ⟨Z1, h1, h2⟩ := h.freeze id
  obtain ⟨Z2, h3, h4⟩ := Rel.freezeAll r h2
  exact ⟨Z2, fun b hb => h3 b (h1 b hb), h4⟩
theorem Rel.read (h : Rel C E Z φ s a w) {z id lo n e : Nat} {l : List PV} {oo : Bool} {x : Value} (hx : Rep ⟨w, Z, E.w0.heap.size, φ⟩ (.ref z id lo n) x) (hl : lookB id s.heap = some (.fro e z l oo)) :
  Rep0 w ((RC.mk w Z E.w0.heap.size φ).Zc oo) (.sl z ((l.drop lo).take n) false oo) x := by
 have hr := h.heap.blk id _ hl
 cases hx with
 | ref _ _ _ _ b c m hb hn hm hbb =>
  rcases hr with ⟨h1, h2⟩ | ⟨b', cs, cap, h1, h2, h4, h5, h6, h7, h8, h9, h10, h11⟩
  ·have := h1.symm.trans hb; simp at this
  ·have hbe := h1.symm.trans hb
   simp only [Option.some.injEq, Prod.mk.injEq] at hbe
   obtain ⟨rfl, rfl⟩ := hbe
   have hlen : ((l.drop lo).take n).length = n := by simp; omega
   refine .sl _ _ _ _ _ _ _ (fun j i => cs.getD ((lo + j) * z + i) undef) hlen.symm (by omega) (fun h => by cases h) (fun x hx => h10 x (List.mem_of_mem_drop (List.mem_of_mem_take hx))) (fun j hj => ?_) (fun j i x u hx hu => ?_)
   ·rw [hlen] at hj
    refine ⟨_, rfl, ⟨h2, h4⟩, rfl, fun i hi => ?_⟩
    have hj2 : lo + j < l.length := by omega
    obtain ⟨y, g1, _⟩ := h11 (lo + j) i l[lo + j] ((l[lo + j]).cells[i]'(by rw [h10 _ (List.getElem_mem _)]; exact hi)) (List.getElem?_eq_getElem hj2) (List.getElem?_eq_getElem _)
    have e3 : lo * z + (j * z + i) = (lo + j) * z + i := by rw [Nat.add_mul]; omega
    simp only at h5
    simp only [World.cell?, h5, e3]
    simp [g1]
   ·rw [List.getElem?_take] at hx
    split at hx
    ·rw [List.getElem?_drop] at hx
     obtain ⟨y, g1, g2, _⟩ := h11 (lo + j) i x u hx hu
     simpa [g1] using g2
    ·cases hx
 | ref0 _ _ ad hb =>
  rcases hr with ⟨h1, h2⟩ | ⟨b', cs, cap, h1, _⟩
  ·subst h2
   simp only [List.drop_nil, List.take_nil]
   exact .sl _ _ _ _ _ _ _ (fun _ _ => default) rfl (Nat.le_refl _) (fun h => by cases h) (fun x hx => by cases hx) (fun j hj => by cases hj) (fun j i x u hx => by simp at hx)
  ·have := h1.symm.trans hb; simp at this
theorem Rel.readFlat {us : List PV} {Z' : Nat → Prop} (h : Rel C E Z φ s a w) (h' : Rel C E Z' φ { s with heap := Vc.freezeAll us s.heap } a w) (hZ : ∀ b, Z b → Z' b) {u : PV} {y : Value} (hu : u ∈ us)
  (hy : Rep ⟨w, Z, E.w0.heap.size, φ⟩ u y) (hf : (readCell s.heap u).flat = true) : Rep0 w ((RC.mk w Z' E.w0.heap.size φ).Zc (readCell s.heap u).old) (readCell s.heap u) y ∧ y.oneCell' = true := by
 have hlat : Later ⟨w, Z, E.w0.heap.size, φ⟩ ⟨w, Z', E.w0.heap.size, φ⟩ := ⟨rfl, fun x hx => ⟨hZ x hx, rfl⟩, fun x cs T hx => ⟨cs, hx, rfl⟩⟩
 have hy' := hy.step hlat fun _ _ hx => hx
 cases u with
 | ref z id lo n =>
  have one : y.oneCell' = true := by cases hy <;> rfl
  simp only [readCell] at hf ⊢
  split at hf
  ·rename_i e z' l oo hl
   split at hf
   ·rename_i hzz
    subst hzz
    simp only [↓reduceIte, PV.old]
    exact ⟨h'.read hy' (freezeAll_at us s.heap hu hl), one⟩
   ·simp [PV.flat] at hf
  ·rename_i e z' l oo hl
   split at hf
   ·rename_i hzz
    subst hzz
    simp only [↓reduceIte, PV.old]
    exact ⟨h'.read hy' ((freezeAll_le us s.heap).fro hl), one⟩
   ·simp [PV.flat] at hf
  ·simp [PV.flat] at hf
 | int k n => exact ⟨hy'.down rfl, by cases hy; rfl⟩
 | bool b => exact ⟨hy'.down rfl, by cases hy; rfl⟩
 | str l => exact ⟨hy'.down rfl, by cases hy; rfl⟩
 | sl z l t oo =>
  refine ⟨hy'.down rfl, ?_⟩
  cases hy with
  | sl _ _ _ _ _ hh => cases hh; rfl
 | raw v => simp [readCell, PV.flat] at hf
 | fn => simp [readCell, PV.flat] at hf
 | ptr => simp [readCell, PV.flat] at hf
 | eptr => simp [readCell, PV.flat] at hf
 | ro => simp [readCell, PV.flat] at hf
 | agg => simp [readCell, PV.flat] at hf
 | tup => simp [readCell, PV.flat] at hf
 | cond => simp [readCell, PV.flat] at hf
 | undef => simp [readCell, PV.flat] at hf
theorem Rel.newRow (h : Rel C E Z φ s a w) {e sz cap : Nat} {l : List PV} {oo : Bool} {cs : Array Value} (hcs : cs.size = cap * sz) (hcap : cap ≤ maxLen) (hl : l.length ≤ cap) (hsz : 0 < sz) (hcl : ∀ x ∈ l, x.cells.length = sz)
  (hr : ∀ (j i : Nat) (x u : PV), l[j]? = some x → x.cells[i]? = some u → ∃ y, cs[j * sz + i]? = some y ∧ Rep0 w ((RC.mk w Z E.w0.heap.size φ).Zc oo) u y ∧ y.oneCell' = true) (d : Option Nat) {n : Nat} (hn : n = l.length) :
  Holds C E (Vc.newRow s d e sz l oo n) (a.put d (.slice (some ⟨w.heap.size, 0, none⟩) n cap)) (w.alloc (.cells cs e)) := by
 obtain ⟨φ', e1, e2, e3, e4⟩ := h.alloc (.cells cs e) (.row e sz l oo) l.length (fun φ' e1 e3 e2 => .inr ⟨w.heap.size, cs, cap, e1, h.notZ_new, .inr h.frame.size, .inr h.frame.size, get_alloc_new, hcs, hcap, hl, hsz, hcl, fun j i x u hx hu => by
  obtain ⟨y, g1, g2, g3⟩ := hr j i x u hx hu
  exact ⟨y, g1, g2.step (e2.Zc oo), g3⟩⟩)
 refine ⟨Z, φ', e4.put d fun t ht => ?_⟩
 have hz : (⟨w.heap.size, 0, none⟩ : Addr) = ⟨w.heap.size, 0 * sz, none⟩ := by simp
 rw [hz]
 exact .ref _ _ _ _ _ _ _ e1 (by omega) (by omega) ⟨cs, e, get_alloc_new, by rw [hcs]; simp, by omega⟩
theorem flat_get {sz : Nat} : ∀ (xs : List (List Value)), (∀ x ∈ xs, x.length = sz) → ∀ (j i : Nat), i < sz → (xs.flatMap id)[j * sz + i]? = (xs[j]?).bind (·[i]?)
 | [], _, j, i, _ => by simp
 | x :: r, h, 0, i, hi => by
  have hx := h x (List.mem_cons_self ..)
  simp only [List.flatMap_cons, id_eq, Nat.zero_mul, Nat.zero_add, List.getElem?_cons_zero, Option.bind_some]
  rw [List.getElem?_append_left (by omega)]
 | x :: r, h, j + 1, i, hi => by
  have hx := h x (List.mem_cons_self ..)
  simp only [List.flatMap_cons, id_eq, List.getElem?_cons_succ]
  rw [List.getElem?_append_right (by rw [hx, Nat.add_mul]; omega), hx]
  have : (j + 1) * sz + i - sz = j * sz + i := by rw [Nat.add_mul]; omega
  rw [this]
  exact flat_get r (fun y hy => h y (List.mem_cons_of_mem _ hy)) j i hi
theorem flat_len {sz : Nat} : ∀ (xs : List (List Value)), (∀ x ∈ xs, x.length = sz) → (xs.flatMap id).length = xs.length * sz
 | [], _ => by simp
 | x :: r, h => by
  simp only [List.flatMap_cons, id_eq, List.length_append, List.length_cons, h x (List.mem_cons_self ..), flat_len r (fun y hy => h y (List.mem_cons_of_mem _ hy)), Nat.add_mul]
  omega
theorem fill_row {sz : Nat} : ∀ (xs : List Value) (k : Nat) (cs : List Value), (∀ x ∈ xs, x.cells.size = sz) → (k + xs.length) * sz ≤ cs.length →
  Instr.fill (fun i => some (i * sz, sz)) ⟨cs⟩ ((List.range' k xs.length).zip xs) = some ⟨cs.take (k * sz) ++ (xs.flatMap fun x => x.cells.toList) ++ cs.drop ((k + xs.length) * sz)⟩
 | [], k, cs, _, _ => by simp [Instr.fill]
 | x :: r, k, cs, h, hl => by
  have hx := h x (List.mem_cons_self ..)
  simp only [List.length_cons] at hl
  have e1 : (k + (r.length + 1)) * sz = (k + 1 + r.length) * sz := by congr 1; omega
  have e2 : (k + 1) * sz = k * sz + sz := Nat.succ_mul k sz
  have e3 : (k + 1 + r.length) * sz = (k + 1) * sz + r.length * sz := Nat.add_mul ..
  have hset := foldl_set x.cells.toList (k * sz) ⟨cs⟩ 0 (by simp; omega)
  simp only [Nat.add_zero, Array.length_toList, hx] at hset
  have hz : x.cells.zipIdx.foldl (fun (a : Array Value) (p : Value × Nat) => a.setIfInBounds (k * sz + p.2) p.1) ⟨cs⟩ = ⟨cs.take (k * sz) ++ x.cells.toList ++ cs.drop (k * sz + sz)⟩ := by
   rw [← hset, ← Array.foldl_toList]
   simp
  have ih := fill_row r (k + 1) (cs.take (k * sz) ++ x.cells.toList ++ cs.drop (k * sz + sz)) (fun y hy => h y (List.mem_cons_of_mem _ hy)) (by simp [hx]; omega)
  simp only [List.length_cons, List.range'_succ, List.zip_cons_cons, Instr.fill, hx]
  have h10 : ¬ (sz ≠ sz ∨ k * sz + sz > cs.length) := by omega
  simp only [ne_eq, not_true_eq_false, decide_false, Bool.false_or, decide_eq_true_eq, List.size_toArray]
  rw [if_neg (by omega)]
  refine Eq.trans (congrArg (fun z => Instr.fill _ z _) hz) (ih.trans ?_)
  congr 2
  rw [e1, e3, e2]
  have hA : (cs.take (k * sz) ++ x.cells.toList).length = k * sz + sz := by simp [hx]; omega
  rw [List.take_left' hA, ← List.drop_drop, List.drop_left' hA, List.drop_drop]
  simp only [List.flatMap_cons, List.append_assoc]
end Go.Vc
namespace Go.Vc
open Go
variable {C : Ctx} {E : Env} {Z : Nat → Prop} {φ : Phi} {s : St} {a : Act} {w : World} {o : Oper} {k : St → Prop} {next : Act → World → Prop} {Q : Exit → Act → World → Prop}
theorem readCell_ref (h : List (Nat × Blk)) (z id lo n : Nat) : (∃ l o, readCell h (.ref z id lo n) = .sl z l false o) ∨ readCell h (.ref z id lo n) = .undef := by
 simp only [readCell]
 split
 ·split
  ·exact .inl ⟨_, _, rfl⟩
  ·exact .inr rfl
 ·split
  ·exact .inl ⟨_, _, rfl⟩
  ·exact .inr rfl
 ·exact .inr rfl
theorem rowElem_cells (h : List (Nat × Blk)) (v : PV) : (rowElem h v).cells = v.cells.map (readCell h) := by
 cases v <;> first | rfl | skip
 case ref z id lo n =>
  show (readCell h (.ref z id lo n)).cells = [readCell h (.ref z id lo n)]
  rcases readCell_ref h z id lo n with ⟨l, o, e⟩ | e <;> rw [e] <;> rfl
theorem one_of_flat {h : List (Nat × Blk)} {v : PV} (hf : (readCell h v).flat = true) : v.one = true := by
 cases v <;> simp_all [readCell, PV.flat, PV.one]
theorem old_any {R : RC} {u : PV} {b : Bool} (h : u.old = true → b = true) {x : Value} (hx : Rep0 R.w (R.Zc u.old) u x) : Rep0 R.w (R.Zc b) u x :=
 hx.step fun c hc => ⟨Zc_mono h c hc, rfl⟩
theorem h_buildSlice (hT : TyOk C) (h : Rel C E Z φ s a w) {t len : Nat} {parts : Array (Nat × Operand)} {S : Callee} (ho : o.op = .buildSlice t len parts) (hq : hWp C S s (.buildSlice t len parts) o.dst k)
  (hn : ∀ s' a' w', k s' → Holds C E s' a' w' → next a' w') : o.wp C.P a w next Q := by
 obtain ⟨pl⟩ := parts
 simp only [hWp] at hq
 have hu := hT.und t
 split at hq
 ·have he := ‹C.ty t = TD.slice _›
  rename_i e _
  rw [he] at hu
  obtain ⟨vs, hq, hl, hv⟩ := h.opds hq
  obtain ⟨h1, h2, h3, h4, h5, hk⟩ := hq
  have hv := hv trivial
  -- each part's cells
  have hcells : ∀ (i : Nat) v x, vs[i]? = some v → (pl.map (·.2))[i]? = some x → ∃ cs : List Value, (a.eval x).cells = ⟨cs⟩ ∧ cs.length = C.size e ∧ ∀ (i : Nat) u y, v.cells[i]? = some u → cs[i]? = some y → Rep ⟨w, Z, E.w0.heap.size, φ⟩ u y := by
   intro i v x hvi hxi
   obtain ⟨g1, g2⟩ := h2 v (List.mem_of_getElem? hvi)
   obtain ⟨cs, e1, e2, e3, e4⟩ := rep_cells (hv i v x hvi hxi) (by
    rw [List.all_eq_true] at g2 ⊢
    intro u hu
    exact one_of_flat (g2 _ (List.mem_map.2 ⟨u, hu, rfl⟩)))
   exact ⟨cs, e1, by omega, e3⟩
  have hlen : (pl.map (·.2)).length = len := by
   have := congrArg List.length h1
   simpa using this
  have hsz : ∀ y ∈ (pl.map (·.2)).map a.eval, y.cells.size = C.size e := by
   intro y hy
   obtain ⟨x, hx, rfl⟩ := List.mem_map.1 hy
   obtain ⟨i, hi, rfl⟩ := List.getElem_of_mem hx
   have hvi : i < vs.length := by omega
   obtain ⟨cs, e1, e2, _⟩ := hcells i _ _ (List.getElem?_eq_getElem hvi) (List.getElem?_eq_getElem hi)
   rw [e1]; exact e2
  obtain ⟨Z', hZ, hrel⟩ := h.freezeAll (vs.flatMap PV.cells)
  have hflat := flat_get (sz := C.size e) (((pl.map (·.2)).map a.eval).map fun y => y.cells.toList) (by
   intro x hx
   obtain ⟨y, hy, rfl⟩ := List.mem_map.1 hx
   simpa using hsz y hy)
  have hfl := flat_len (sz := C.size e) (((pl.map (·.2)).map a.eval).map fun y => y.cells.toList) (by
   intro x hx
   obtain ⟨y, hy, rfl⟩ := List.mem_map.1 hx
   simpa using hsz y hy)
  have hfm : (((pl.map (·.2)).map a.eval).map fun y => y.cells.toList).flatMap id = ((pl.map (·.2)).map a.eval).flatMap fun y => y.cells.toList := by
   rw [List.flatMap_map]; rfl
  rw [hfm] at hflat hfl
  simp only [List.length_map] at hfl
  have hnew := hrel.newRow (e := e) (sz := C.size e) (cap := len) (l := vs.map (rowElem s.heap)) (oo := (vs.flatMap PV.cells).any fun v => (readCell s.heap v).old)
   (cs := ⟨((pl.map (·.2)).map a.eval).flatMap fun y => y.cells.toList⟩) (by simp only [List.size_toArray]; rw [hfl]; congr 1; simpa using hlen) (by have : len ≤ 16777216 := Nat.le_trans (Nat.le_mul_of_pos_right _ h4) h3; unfold maxLen; omega)
   (by simp; omega) h4 (by
    intro x hx
    obtain ⟨v, hv', rfl⟩ := List.mem_map.1 hx
    rw [rowElem_cells, List.length_map]
    exact (h2 v hv').1) (by
    intro j i x u hx hu
    rw [List.getElem?_map, Option.map_eq_some_iff] at hx
    obtain ⟨v, hvj, rfl⟩ := hx
    rw [rowElem_cells, List.getElem?_map, Option.map_eq_some_iff] at hu
    obtain ⟨u0, hu0, rfl⟩ := hu
    have hjl : j < (pl.map (·.2)).length := by rw [← hl]; exact (List.getElem?_eq_some_iff.1 hvj).1
    obtain ⟨cs, e1, e2, e3⟩ := hcells j v _ hvj (List.getElem?_eq_getElem hjl)
    obtain ⟨g1, g2⟩ := h2 v (List.mem_of_getElem? hvj)
    have hil : i < cs.length := by rw [e2, ← g1]; exact (List.getElem?_eq_some_iff.1 hu0).1
    have hmem : u0 ∈ vs.flatMap PV.cells := List.mem_flatMap.2 ⟨v, List.mem_of_getElem? hvj, List.mem_of_getElem? hu0⟩
    obtain ⟨r1, r2⟩ := h.readFlat hrel hZ hmem (e3 i u0 _ hu0 (List.getElem?_eq_getElem hil)) (List.all_eq_true.1 g2 _ (List.mem_map.2 ⟨u0, List.mem_of_getElem? hu0, rfl⟩))
    refine ⟨cs[i], ?_, old_any (R := ⟨w, Z', E.w0.heap.size, φ⟩) (u := readCell s.heap u0) (fun ht => List.any_eq_true.2 ⟨u0, hmem, ht⟩) r1, r2⟩
    have hg := hflat j i (by omega)
    rw [List.getElem?_toArray, hg, List.getElem?_map, List.getElem?_map, List.getElem?_eq_getElem hjl]
    simp only [Option.map_some, Option.bind_some, e1]
    exact List.getElem?_eq_getElem hil) o.dst (n := len) (by simp; omega)
  refine wp_value (x := .slice (some ⟨w.heap.size, 0, none⟩) len len) (w' := w.alloc (.cells ⟨((pl.map (·.2)).map a.eval).flatMap fun y => y.cells.toList⟩ e)) ?_ (hn _ _ _ hk hnew)
  -- the machine's own
  obtain ⟨i, z, zs, hi, hiz, hzc, hcs, _⟩ := rep_zero (R := ⟨w, Z, E.w0.heap.size, φ⟩) C hT (t := e) (by intro h0; rw [h0] at h5; simp at h5; omega)
  have hzs : zs.length = C.size e := by rw [← h5, ← hcs]; simp
  have hparts : (pl.map fun q => (q.1, a.eval q.2)) = (List.range' 0 ((pl.map (·.2)).map a.eval).length).zip ((pl.map (·.2)).map a.eval) := by
   have hr : List.range' 0 ((pl.map (·.2)).map a.eval).length = pl.map (·.1) := by
    rw [h1, List.range_eq_range', List.length_map, hlen]
   rw [hr, List.map_map, List.zip_map']
   rfl
  have hlen' : pl.length = len := by simpa using hlen
  have hfill : ∀ c0 : Array Value, c0.size = len * C.size e → Instr.fill (fun i => some (i * C.size e, C.size e)) c0 (pl.map fun q => (q.1, a.eval q.2)) = some ⟨((pl.map (·.2)).map a.eval).flatMap fun y => y.cells.toList⟩ := by
   intro c0 hc0
   obtain ⟨c0⟩ := c0
   simp only [List.size_toArray] at hc0
   have hf := fill_row (sz := C.size e) ((pl.map (·.2)).map a.eval) 0 c0 hsz (by simp only [List.length_map, Nat.zero_add, hlen', hc0]; exact Nat.le_refl _)
   rw [hparts, hf]
   simp only [Nat.zero_mul, List.take_zero, List.nil_append, Nat.zero_add, List.length_map, hlen']
   rw [List.drop_of_length_le (by omega), List.append_nil]
  have hrun : (Instr.buildSlice t len ⟨pl.map fun q => (q.1, a.eval q.2)⟩).run C.P w = .ok (.slice (some ⟨w.heap.size, 0, none⟩) len len) (w.alloc (.cells ⟨((pl.map (·.2)).map a.eval).flatMap fun y => y.cells.toList⟩ e)) := by
   unfold Instr.buildSlice
   simp only [Sem.run_bind, run_underlying hu, Result.andThen_ok, run_size hT h4]
   rw [if_neg (by omega)]
   have hzv : (zeroValue e).run C.P w = .ok z w := by simp [zeroValue, typeInfo, hi, hiz]
   split
   ·simp only [Sem.run_bind, Sem.run_pure, Result.andThen_ok]
    rw [hfill _ (by simp)]
    rfl
   ·simp only [Sem.run_bind, hzv, Sem.run_pure, Result.andThen_ok]
    rw [hfill _ (by simp)]
    rfl
  simp only [execOp, ho, Sem.run_bind]
  have hm : (⟨pl⟩ : Array (Nat × Operand)).map (fun x => match x with | (i, x) => (i, a.eval x)) = ⟨pl.map fun q => (q.1, a.eval q.2)⟩ := by simp
  rw [hm, hrun]
  rfl
 ·exact hq.elim
theorem wrap_small {n : Int} (h0 : 0 ≤ n) (h1 : n ≤ 9223372036854775807) : IntKind.i64.wrap n = n := by
 simp only [IntKind.wrap, IntKind.bits, IntKind.signed]
 have : n % 2 ^ 64 = n := Int.emod_eq_of_lt h0 (by omega)
 simp only [this, Bool.true_and, decide_eq_true_eq]
 rw [if_neg (by omega)]
theorem h_makeSlice (hT : TyOk C) (h : Rel C E Z φ s a w) {t : TypeId} {len cap : Operand} {S : Callee} (ho : o.op = .makeSlice t len cap) (hq : hWp C S s (.makeSlice t len cap) o.dst k)
  (hn : ∀ s' a' w', k s' → Holds C E s' a' w' → next a' w') : o.wp C.P a w next Q := by
 simp only [hWp] at hq
 have hu := hT.und t
 split at hq
 ·have he := ‹C.ty t = TD.slice _›
  rename_i e _
  rw [he] at hu
  obtain ⟨vl, hq, hvl⟩ := h.opd hq
  obtain ⟨vc, hq, hvc⟩ := h.opd hq
  split at hq
  ·rename_i n c _
   obtain ⟨h0, h1, h2, h3, h4, h5, h6, h7, hk⟩ := hq
   have el := (hvl trivial).int_inv
   have ec := (hvc trivial).int_inv
   obtain ⟨i, z, zs, hi, hiz, hzc, hcs, hzr⟩ := rep_zero (R := ⟨w, Z, E.w0.heap.size, φ⟩) C hT (t := e) (by intro h0; rw [h0] at h5; simp at h5; omega)
   have hzs : zs.length = C.size e := by rw [← h5, ← hcs]; simp
   obtain ⟨i', hi', hsz, hby, _⟩ := hT.info e (by omega)
   rw [hi] at hi'
   simp only [Option.some.injEq] at hi'
   subst hi'
   have hcap : c.toNat ≤ maxLen := by unfold maxLen; omega
   -- the cells
   have hcell : ∀ (j i : Nat), j < c.toNat → i < C.size e → ((Array.range (c.toNat * C.size e)).map (fun x => (⟨zs⟩ : Array Value)[x % zs.length]!))[j * C.size e + i]? = zs[i]? := by
    intro j i hj hi
    have hlt : j * C.size e + i < c.toNat * C.size e := by
     have : (j + 1) * C.size e ≤ c.toNat * C.size e := Nat.mul_le_mul_right _ hj
     rw [Nat.add_mul] at this; omega
    have hm : (j * C.size e + i) % zs.length = i := by rw [hzs, Nat.mul_comm, Nat.mul_add_mod, Nat.mod_eq_of_lt hi]
    have hiz : i < zs.length := by omega
    simp [hlt, hm, hiz]
   have hnew := h.newRow (e := e) (sz := C.size e) (cap := c.toNat) (l := List.replicate n.toNat (zeroElem C e)) (oo := false)
    (cs := (Array.range (c.toNat * C.size e)).map (fun x => (⟨zs⟩ : Array Value)[x % zs.length]!)) (by simp) hcap (by simp; omega) h4 (fun x hx => by rw [List.eq_of_mem_replicate hx, h7]; exact h5) (fun j i x u hx hu => by
     have hjn : j < n.toNat := by have := (List.getElem?_eq_some_iff.1 hx).1; simpa using this
     have hxe : x = _ := List.eq_of_mem_replicate (List.mem_of_getElem? hx)
     rw [hxe, h7] at hu
     have hu' := hu
     have hil : i < zs.length := by have := (List.getElem?_eq_some_iff.1 hu').1; omega
     have hf := List.all_eq_true.1 h6 u (List.mem_of_getElem? hu')
     have hr := hzr i u _ hu' (List.getElem?_eq_getElem hil)
     refine ⟨zs[i], by rw [hcell j i (by omega) (by omega)]; exact List.getElem?_eq_getElem hil, ?_, hr.oneCell (by cases u <;> simp_all [PV.flat, PV.one])⟩
     have hd := hr.down hf
     have hold : u.old = false := by
      rw [← hcs, List.getElem?_map, Option.map_eq_some_iff] at hu'
      obtain ⟨v, _, rfl⟩ := hu'
      unfold cellOf
      split <;> rfl
     rw [hold] at hd
     exact hd) o.dst (n := n.toNat) (by simp)
   refine wp_value (x := .slice (some ⟨w.heap.size, 0, none⟩) n.toNat c.toNat) (w' := w.alloc (.cells ((Array.range (c.toNat * C.size e)).map (fun x => (⟨zs⟩ : Array Value)[x % zs.length]!)) e)) ?_ (hn _ _ _ hk hnew)
   have hwn := wrap_small h0 (by omega : n ≤ 9223372036854775807)
   have hwc := wrap_small (by omega : 0 ≤ c) h3
   have hzv : ∀ w, (if c.toNat * C.size e = 0 then pure #[] else (do pure (← zeroValue e).cells : Sem (Array Value))).run C.P w = .ok (if c.toNat * C.size e = 0 then #[] else ⟨zs⟩) w := by
    intro w
    split <;> simp [zeroValue, typeInfo, hi, hiz, hzc]
   have t1 : ¬ (c < 0 ∨ (C.bytes e : Int) * c > 281474976710656) := by omega
   have hrun : (Instr.makeSlice t (.int .i64 n) (.int .i64 c)).run C.P w = .ok (.slice (some ⟨w.heap.size, 0, none⟩) n.toNat c.toNat) (w.alloc (.cells ((Array.range (c.toNat * C.size e)).map (fun x => (⟨zs⟩ : Array Value)[x % zs.length]!)) e)) := by
    unfold Instr.makeSlice
    simp only [Sem.run_bind, run_underlying hu, Result.andThen_ok, asInt, asIntOf, Sem.run_pure, typeInfo, run_program, hi, hwn, hwc, hby]
    have d1 : decide (c < 0) = false := decide_eq_false (by omega)
    have d2 : decide (↑(C.bytes e) * c > (2 : Int) ^ 48) = false := decide_eq_false (by omega)
    have d3 : decide (n < 0) = false := decide_eq_false (by omega)
    have d4 : decide (n > c) = false := decide_eq_false (by omega)
    rw [d1, d2, d3, d4]
    simp only [Bool.or_self, Bool.false_eq_true, if_false, Sem.run_bind, run_askRoom, Result.andThen_ok, run_size hT h4]
    have hzv : (zeroValue e).run C.P w = .ok z w := by simp [zeroValue, typeInfo, hi, hiz]
    split
    ·rename_i h8
     have hr : Array.range (c.toNat * C.size e) = #[] := by rw [h8]; rfl
     simp only [Sem.run_bind, Sem.run_pure, Result.andThen_ok, hr, Array.map_empty]
     rfl
    ·simp only [Sem.run_bind, hzv, Sem.run_pure, Result.andThen_ok, hzc]
     rfl
   simp [execOp, ho, el, ec, hrun]
  ·exact hq.elim
 ·exact hq.elim
end Go.Vc
namespace Go.Vc
open Go
variable {C : Ctx} {E : Env} {Z : Nat → Prop} {φ : Phi} {s : St} {a : Act} {w : World} {o : Oper} {k : St → Prop} {next : Act → World → Prop} {Q : Exit → Act → World → Prop}
structure Grown (w w' : World) : Prop where
 os : w'.os = w.os
 tape : w'.tape = w.tape
 output : w'.output = w.output
 size : w.heap.size ≤ w'.heap.size
 block : ∀ b, b < w.heap.size → w'.heap[b]? = w.heap[b]?
theorem Rel.extend (h : Rel C E Z φ s a w) {w' : World} (g : Grown w w') {Z' : Nat → Prop} (h1 : ∀ b, Z b → Z' b) (h2 : ∀ b, Z' b → Z b ∨ (w.heap.size ≤ b ∧ b < w'.heap.size)) :
  Later ⟨w, Z, E.w0.heap.size, φ⟩ ⟨w', Z', E.w0.heap.size, φ⟩ ∧ Rel C E Z' φ s a w' := by
 have hl : Later ⟨w, Z, E.w0.heap.size, φ⟩ ⟨w', Z', E.w0.heap.size, φ⟩ := ⟨rfl, fun b hb => ⟨h1 b hb, g.block b (h.zlt b hb)⟩, fun b cs T hb => ⟨cs, (g.block b (lt_of_heap hb)).trans hb, rfl⟩⟩
 refine ⟨hl, h.n, fun t => (h.slots t).step hl fun _ _ hx => hx, ⟨fun id b hb => ?_, fun i j b m m' hzb hi hj => h.heap.inj i j b m m' (fun hz => hzb (h1 b hz)) hi hj, h.heap.keys⟩, fun b hb => ?_, fun b hb => ?_, fun b hb => h1 b (h.z0 b hb), ?_, h.glob, h.defers, h.fix⟩
 ·have hr := h.heap.blk id b hb
  refine hr.step hl (fun _ _ hx => hx) fun k m hk => ⟨g.block k (hr.lt k m hk), fun hn hz => ?_⟩
  rcases h2 k hz with h3 | ⟨h3, _⟩
  ·exact hn h3
  ·have := hr.lt k m hk; simp only at this; omega
 ·rcases h2 b hb with h3 | ⟨_, h3⟩
  ·exact Nat.lt_of_lt_of_le (h.zlt b h3) g.size
  ·exact h3
 ·rcases h2 b hb with h3 | ⟨h3, _⟩
  ·exact h.zin b h3
  ·exact .inr (.inr (Nat.le_trans h.frame.size h3))
 ·exact ⟨g.os.trans h.frame.os, g.tape.trans h.frame.tape, g.output.trans h.frame.output, Nat.le_trans h.frame.size g.size, fun b hb hn => (g.block b (Nat.lt_of_lt_of_le hb h.frame.size)).trans (h.frame.block b hb hn), h.frame.shaped rfl hl⟩
theorem Rel.drewLater (h : Rel C E Z φ s a w) : Later ⟨w, Z, E.w0.heap.size, φ⟩ ⟨w.drew, Z, E.w0.heap.size, φ⟩ := (h.extend (w' := w.drew) ⟨rfl, rfl, rfl, Nat.le_refl _, fun _ _ => rfl⟩ (fun _ hb => hb) fun _ hb => .inl hb).1
theorem Rel.drew (h : Rel C E Z φ s a w) : Rel C E Z φ s a w.drew := (h.extend (w' := w.drew) ⟨rfl, rfl, rfl, Nat.le_refl _, fun _ _ => rfl⟩ (fun _ hb => hb) fun _ hb => .inl hb).2
structure Cont (R : RC) (sz : Nat) (l : List PV) (o : Bool) (cs : List Value) : Prop where
 len : cs.length = l.length * sz
 each : ∀ x ∈ l, x.cells.length = sz
 one : ∀ y ∈ cs, y.oneCell' = true
 rep : ∀ (j i : Nat) (x u : PV), l[j]? = some x → x.cells[i]? = some u → ∃ y, cs[j * sz + i]? = some y ∧ Rep0 R.w (R.Zc o) u y
theorem lt_mul {j i n sz : Nat} (hj : j < n) (hi : i < sz) : j * sz + i < n * sz := by
 have : (j + 1) * sz ≤ n * sz := Nat.mul_le_mul_right _ hj
 rw [Nat.add_mul] at this; omega
theorem Cont.append {R : RC} {sz : Nat} {l l' : List PV} {o o' : Bool} {cs cs' : List Value} (h : Cont R sz l o cs) (h' : Cont R sz l' o' cs') : Cont R sz (l ++ l') (o || o') (cs ++ cs') := by
 refine ⟨by rw [List.length_append, List.length_append, h.len, h'.len, Nat.add_mul], fun x hx => ?_, fun y hy => ?_, fun j i x u hx hu => ?_⟩
 ·rcases List.mem_append.1 hx with hx | hx
  ·exact h.each x hx
  ·exact h'.each x hx
 ·rcases List.mem_append.1 hy with hy | hy
  ·exact h.one y hy
  ·exact h'.one y hy
 ·have hil : i < sz := by
   have hm := List.mem_of_getElem? hx
   have := (List.getElem?_eq_some_iff.1 hu).1
   rcases List.mem_append.1 hm with hx | hx
   ·rw [h.each x hx] at this; exact this
   ·rw [h'.each x hx] at this; exact this
  by_cases hj : j < l.length
  ·rw [List.getElem?_append_left hj] at hx
   obtain ⟨y, g1, g2⟩ := h.rep j i x u hx hu
   refine ⟨y, ?_, g2.step fun b hb => ⟨Zc_mono (by intro e; simp [e]) b hb, rfl⟩⟩
   rw [List.getElem?_append_left (by rw [h.len]; exact lt_mul hj hil)]
   exact g1
  ·rw [List.getElem?_append_right (by omega)] at hx
   obtain ⟨y, g1, g2⟩ := h'.rep (j - l.length) i x u hx hu
   refine ⟨y, ?_, g2.step fun b hb => ⟨Zc_mono (by intro e; simp [e]) b hb, rfl⟩⟩
   have e1 : j * sz = l.length * sz + (j - l.length) * sz := by rw [← Nat.add_mul]; congr 1; omega
   rw [List.getElem?_append_right (by rw [h.len]; omega), h.len]
   have e2 : j * sz + i - l.length * sz = (j - l.length) * sz + i := by omega
   rw [e2]; exact g1
theorem Cont.step {R R' : RC} (hl : Later R R') {sz : Nat} {l : List PV} {o : Bool} {cs : List Value} (h : Cont R sz l o cs) : Cont R' sz l o cs :=
 ⟨h.len, h.each, h.one, fun j i x u hx hu => by obtain ⟨y, g1, g2⟩ := h.rep j i x u hx hu; exact ⟨y, g1, g2.step (hl.Zc o)⟩⟩
theorem Cont.nil {R : RC} {sz : Nat} {o : Bool} : Cont R sz [] o [] := ⟨by simp, fun x hx => by simp at hx, fun y hy => by simp at hy, fun j i x u hx => by simp at hx⟩
def rowCells (f : Nat → Nat → Value) (n sz : Nat) : List Value := (List.range (n * sz)).map fun k => f (k / sz) (k % sz)
theorem rowCells_len (f : Nat → Nat → Value) (n sz : Nat) : (rowCells f n sz).length = n * sz := by simp [rowCells]
theorem rowCells_get {f : Nat → Nat → Value} {n sz j i : Nat} (hj : j < n) (hi : i < sz) : (rowCells f n sz)[j * sz + i]? = some (f j i) := by
 have h0 : 0 < sz := by omega
 have h1 : (j * sz + i) / sz = j := by rw [Nat.mul_comm, Nat.mul_add_div h0, Nat.div_eq_of_lt hi, Nat.add_zero]
 have h2 : (j * sz + i) % sz = i := by rw [Nat.mul_comm, Nat.mul_add_mod, Nat.mod_eq_of_lt hi]
 simp [rowCells, lt_mul hj hi, h1, h2]
theorem rowCells_cell {f : Nat → Nat → Value} {n sz k : Nat} {v : Value} (h0 : 0 < sz) (h : (rowCells f n sz)[k]? = some v) : k / sz < n ∧ k % sz < sz ∧ v = f (k / sz) (k % sz) ∧ k / sz * sz + k % sz = k := by
 have hk : k < n * sz := by have := (List.getElem?_eq_some_iff.1 h).1; rwa [rowCells_len] at this
 have h1 : k / sz < n := (Nat.div_lt_iff_lt_mul h0).2 hk
 have h2 : k % sz < sz := Nat.mod_lt _ h0
 have h3 : k / sz * sz + k % sz = k := by rw [Nat.mul_comm]; exact Nat.div_add_mod k sz
 refine ⟨h1, h2, ?_, h3⟩
 have := rowCells_get (f := f) h1 h2
 rw [h3, h] at this
 exact Option.some.inj this
theorem src_slice {P : Program} {sz : Nat} (h0 : 0 < sz) {tx : TypeId} (hk : (∃ e', P.underlying tx = some (.slice e')) ∨ P.underlying tx = some .string) {p : Option Addr} {n c : Nat} {f : Nat → Nat → Value}
  (hm : ∀ j, j < n → ∃ ad : Addr, p = some ad ∧ ad.spot = none ∧ ∀ i, i < sz → w.cell? ⟨ad.block, ad.off + (j * sz + i), none⟩ = some (f j i)) (h1 : ∀ y ∈ rowCells f n sz, y.oneCell' = true) :
  Src P sz tx (.slice p n c) n (rowCells f n sz) w := by
 cases p with
 | some ad =>
  have hnews : ∀ j u, (rowCells f n sz)[j]? = some u → w.cell? (ad.add j) = some u := fun k v hv => by
   obtain ⟨g1, g2, g3, g4⟩ := rowCells_cell h0 hv
   obtain ⟨ad', e1, e2, e3⟩ := hm (k / sz) g1
   cases e1
   have := e3 (k % sz) g2
   rw [g4] at this
   obtain ⟨b, off, sp⟩ := ad
   simp only at e2
   subst e2
   rw [Addr.add_lit, this, g3]
  exact ⟨hk, fun _ => rfl, run_firstCells_some w sz n ad n c _ (rowCells_len ..) hnews, run_firstCells_some w.drew sz n ad n c _ (rowCells_len ..) (by simpa using hnews), rowCells_len .., h1⟩
 | none =>
  cases n with
  | zero =>
   have : rowCells f 0 sz = [] := by simp [rowCells]
   rw [this]
   exact ⟨hk, fun _ => rfl, run_firstCells_none w sz 0 0 c, run_firstCells_none w.drew sz 0 0 c, by simp, fun _ h => by cases h⟩
  | succ n =>
   obtain ⟨ad, e, _⟩ := hm 0 (Nat.succ_pos n)
   cases e
theorem src_str {P : Program} {sz : Nat} {tx : TypeId} (hk : (∃ e', P.underlying tx = some (.slice e')) ∨ P.underlying tx = some .string) {b : ByteArray} (hb : sz = 1 ∨ b.size = 0) :
  Src P sz tx (.string b) b.size (byteCells b) w := by
 have hl : (byteCells b).length = b.size * sz := by
  rw [byteCells_length]
  rcases hb with rfl | hb
  ·omega
  ·rw [hb, Nat.zero_mul]
 refine ⟨hk, fun _ => rfl, ?_, ?_, hl, fun u hu => by obtain ⟨_, _, rfl⟩ := List.mem_map.1 hu; rfl⟩ <;> exact firstCells_string b _
theorem row_cont {R : RC} {own : Nat → Prop} {id e sz : Nat} {l : List PV} {oo : Bool} (hr : RepB R own id (.row e sz l oo) ∨ RepB R own id (.fro e sz l oo)) :
  (R.φ id = some (none, 0) ∧ l = []) ∨ ∃ (b : Nat) (cs : Array Value) (cap : Nat), R.φ id = some (some b, l.length) ∧ R.w.heap[b]? = some (.cells cs e (0, 0)) ∧ cs.size = cap * sz ∧ cap ≤ maxLen ∧ l.length ≤ cap ∧ 0 < sz ∧ (∀ x ∈ l, x.cells.length = sz) ∧
   ∀ (j i : Nat) (x u : PV), l[j]? = some x → x.cells[i]? = some u → ∃ y, cs[j * sz + i]? = some y ∧ Rep0 R.w (R.Zc oo) u y ∧ y.oneCell' = true := by
 rcases hr with hr | hr
 ·rcases hr with h | ⟨b, cs, cap, h1, h2, h3, h4, h5, h6, h7, h8, h9, h10, h11⟩
  ·exact .inl h
  ·exact .inr ⟨b, cs, cap, h1, h5, h6, h7, h8, h9, h10, h11⟩
 ·rcases hr with h | ⟨b, cs, cap, h1, h2, h4, h5, h6, h7, h8, h9, h10, h11⟩
  ·exact .inl h
  ·exact .inr ⟨b, cs, cap, h1, h5, h6, h7, h8, h9, h10, h11⟩
theorem getElem_of_rowCells {f : Nat → Nat → Value} {n sz : Nat} (h0 : 0 < sz) {P : Value → Prop} (h : ∀ j i, j < n → i < sz → P (f j i)) : ∀ y ∈ rowCells f n sz, P y := fun y hy => by
 obtain ⟨k, hk, rfl⟩ := List.getElem_of_mem hy
 obtain ⟨g1, g2, g3, _⟩ := rowCells_cell h0 (List.getElem?_eq_getElem hk)
 rw [g3]
 exact h _ _ g1 g2
theorem ref_src {C : Ctx} {R : RC} {own : Nat → Prop} {id z e lo n : Nat} {l : List PV} {oo : Bool} (hr : RepB R own id (.row e z l oo) ∨ RepB R own id (.fro e z l oo)) {y : Value} (hy : Rep R (.ref z id lo n) y) {tx : TypeId} (hz : 0 < z)
  (hk : (∃ e', C.P.underlying tx = some (.slice e')) ∨ C.P.underlying tx = some .string) : ∃ cs, Src C.P z tx y ((l.drop lo).take n).length cs R.w ∧ Cont R z ((l.drop lo).take n) oo cs := by
 have hc := row_cont hr
 cases hy with
 | ref _ _ _ _ b c m hb hn hm hbb =>
  rcases hc with ⟨h1, h2⟩ | ⟨b', cs, cap, h1, h5, h6, h7, h8, h9, h10, h11⟩
  ·have := h1.symm.trans hb; simp at this
  ·have hbe := h1.symm.trans hb
   simp only [Option.some.injEq, Prod.mk.injEq] at hbe
   obtain ⟨rfl, rfl⟩ := hbe
   have hlen : ((l.drop lo).take n).length = n := by simp; omega
   have hcell : ∀ j i, j < n → i < z → ∃ y, cs[(lo + j) * z + i]? = some y ∧ y.oneCell' = true := fun j i hj hi => by
    have hj2 : lo + j < l.length := by omega
    obtain ⟨y, g1, _, g3⟩ := h11 (lo + j) i l[lo + j] ((l[lo + j]).cells[i]'(by rw [h10 _ (List.getElem_mem _)]; exact hi)) (List.getElem?_eq_getElem hj2) (List.getElem?_eq_getElem _)
    exact ⟨y, g1, g3⟩
   have hone : ∀ y ∈ rowCells (fun j i => cs.getD ((lo + j) * z + i) undef) n z, y.oneCell' = true := getElem_of_rowCells hz fun j i hj hi => by
    obtain ⟨y, g1, g2⟩ := hcell j i hj hi
    simpa [g1] using g2
   refine ⟨rowCells (fun j i => cs.getD ((lo + j) * z + i) undef) n z, ?_, ?_⟩
   ·rw [hlen]
    refine src_slice hz hk (fun j hj => ⟨_, rfl, rfl, fun i hi => ?_⟩) hone
    obtain ⟨y, g1, _⟩ := hcell j i hj hi
    have e3 : lo * z + (j * z + i) = (lo + j) * z + i := by rw [Nat.add_mul]; omega
    simp only [World.cell?, h5, e3]
    simp [g1]
   ·refine ⟨by rw [rowCells_len, hlen], fun x hx => h10 x (List.mem_of_mem_drop (List.mem_of_mem_take hx)), hone, fun j i x u hx hu => ?_⟩
    have hjn : j < n := by have := (List.getElem?_eq_some_iff.1 hx).1; omega
    have hxe := h10 x (List.mem_of_mem_drop (List.mem_of_mem_take (List.mem_of_getElem? hx)))
    have hil : i < z := by have := (List.getElem?_eq_some_iff.1 hu).1; omega
    rw [List.getElem?_take, if_pos hjn, List.getElem?_drop] at hx
    obtain ⟨y, g1, g2, _⟩ := h11 (lo + j) i x u hx hu
    exact ⟨y, by rw [rowCells_get hjn hil]; simp [g1], g2⟩
 | ref0 _ _ ad hb =>
  rcases hc with ⟨h1, h2⟩ | ⟨b', cs, cap, h1, _⟩
  ·subst h2
   refine ⟨[], ?_, by simpa using Cont.nil⟩
   have := src_slice (w := R.w) (P := C.P) hz hk (p := ad) (n := 0) (c := 0) (f := fun _ _ => undef) (fun j hj => by cases hj) (by simp [rowCells])
   simpa [rowCells] using this
  ·have := h1.symm.trans hb; simp at this
theorem srcTy_kind (hT : TyOk C) {tx : Nat} (ht : (C.ty tx).srcTy = true) : (∃ e', C.P.underlying tx = some (.slice e')) ∨ C.P.underlying tx = some .string := by
 have hu := hT.und tx
 cases hc : C.ty tx <;> rw [hc] at ht hu <;> simp [TD.srcTy] at ht
 ·exact .inr hu
 ·exact .inl ⟨_, hu⟩
theorem sl_src {R : RC} {P : Program} {z : Nat} {l : List PV} {t o : Bool} {y : Value} (h : Rep R (.sl z l t o) y) {sz tx : Nat} (h0 : 0 < sz) (hc : ∀ u ∈ l, u.cells.length = sz ∧ u.cells.all PV.flat = true)
  (hk : (∃ e', P.underlying tx = some (.slice e')) ∨ P.underlying tx = some .string) : ∃ cs, Src P sz tx y l.length cs R.w ∧ Cont R sz l o cs := by
 obtain ⟨p, n, c, rfl, rfl, h2, h3, h4, cs, h5, h6⟩ := sl_inv h
 have hz : ∀ x ∈ l, z = sz := fun x hx => by rw [← h4 x hx]; exact (hc x hx).1
 have hone : ∀ y ∈ rowCells cs l.length sz, y.oneCell' = true := getElem_of_rowCells h0 fun j i hj hi => by
  have hm := List.getElem_mem hj
  have hil : i < l[j].cells.length := by rw [(hc _ hm).1]; exact hi
  exact (h6 j i l[j] l[j].cells[i] (List.getElem?_eq_getElem hj) (List.getElem?_eq_getElem hil)).one (List.all_eq_true.1 (hc _ hm).2 _ (List.getElem_mem _))
 refine ⟨rowCells cs l.length sz, src_slice h0 hk (fun j hj => ?_) hone, ⟨rowCells_len .., fun x hx => (hc x hx).1, hone, fun j i x u hx hu => ?_⟩⟩
 ·obtain ⟨ad, e1, e2, e3, e4⟩ := h5 j hj
  have := hz _ (List.getElem_mem hj)
  subst this
  exact ⟨ad, e1, e3, e4⟩
 ·have hj : j < l.length := (List.getElem?_eq_some_iff.1 hx).1
  have hi : i < sz := by rw [← (hc x (List.mem_of_getElem? hx)).1]; exact (List.getElem?_eq_some_iff.1 hu).1
  exact ⟨cs j i, rowCells_get hj hi, h6 j i x u hx hu⟩
theorem src_inv (h : Rel C E Z φ s a w) {v : PV} {y : Value} (hv : Rep ⟨w, Z, E.w0.heap.size, φ⟩ v y) {new : List PV} {no : Bool} (hs : srcOf s.heap v = some (new, no)) {sz tx : Nat} (h0 : 0 < sz)
  (hc : ∀ u ∈ new, u.cells.length = sz ∧ u.cells.all PV.flat = true) (hk : (∃ e', C.P.underlying tx = some (.slice e')) ∨ C.P.underlying tx = some .string) :
  ∃ cs, Src C.P sz tx y new.length cs w ∧ Cont ⟨w, Z, E.w0.heap.size, φ⟩ sz new no cs := by
 unfold srcOf at hs
 split at hs
 ·simp only [Option.some.injEq, Prod.mk.injEq] at hs
  obtain ⟨rfl, rfl⟩ := hs
  exact sl_src hv h0 hc hk
 ·rename_i z id lo n
  have key : ∀ e z' l oo, z = z' → (l.drop lo).take n = new → oo = no → (lookB id s.heap = some (.row e z' l oo) ∨ lookB id s.heap = some (.fro e z' l oo)) → ∃ cs, Src C.P sz tx y new.length cs w ∧ Cont ⟨w, Z, E.w0.heap.size, φ⟩ sz new no cs := by
   intro e z' l oo hz hn ho hl
   subst hz; subst hn; subst ho
   have hr : RepB ⟨w, Z, E.w0.heap.size, φ⟩ E.own id (.row e z l oo) ∨ RepB ⟨w, Z, E.w0.heap.size, φ⟩ E.own id (.fro e z l oo) := hl.imp (h.heap.blk id _) (h.heap.blk id _)
   by_cases hne : (l.drop lo).take n = []
   ·-- nothing is read
    rw [hne]
    have hn0 : ∃ p c, y = .slice p 0 c := by
     have hcc := row_cont hr
     cases hv with
     | ref _ _ _ _ b c m hb hn hm hbb =>
      rcases hcc with ⟨h1, h2⟩ | ⟨b', cs, cap, h1, _⟩
      ·have := h1.symm.trans hb; simp at this
      ·have hbe := h1.symm.trans hb
       simp only [Option.some.injEq, Prod.mk.injEq] at hbe
       have hle : ((l.drop lo).take n).length = 0 := by rw [hne]; rfl
       rw [List.length_take, List.length_drop] at hle
       have : n = 0 := by omega
       subst this
       exact ⟨_, _, rfl⟩
     | ref0 => exact ⟨_, _, rfl⟩
    obtain ⟨p, c, rfl⟩ := hn0
    have := src_slice (w := w) (P := C.P) h0 hk (p := p) (n := 0) (c := c) (f := fun _ _ => undef) (fun j hj => by cases hj) (by simp [rowCells])
    exact ⟨[], by simpa [rowCells] using this, Cont.nil⟩
   ·have hz : z = sz := by
     obtain ⟨x, hx⟩ := List.exists_mem_of_ne_nil _ hne
     rcases row_cont hr with ⟨_, h2⟩ | ⟨_, _, _, _, _, _, _, _, _, h10, _⟩
     ·subst h2; simp at hx
     ·rw [← h10 x (List.mem_of_mem_drop (List.mem_of_mem_take hx)), (hc x hx).1]
    subst hz
    exact ref_src hr hv h0 hk
  split at hs
  ·rename_i e z' l oo hl
   split at hs
   ·rename_i hz
    simp only [Option.some.injEq, Prod.mk.injEq] at hs
    exact key e z' l oo hz hs.1 hs.2 (.inl hl)
   ·cases hs
  ·rename_i e z' l oo hl
   split at hs
   ·rename_i hz
    simp only [Option.some.injEq, Prod.mk.injEq] at hs
    exact key e z' l oo hz hs.1 hs.2 (.inr hl)
   ·cases hs
  ·cases hs
 ·rename_i l
  simp only [Option.some.injEq, Prod.mk.injEq] at hs
  obtain ⟨rfl, rfl⟩ := hs
  obtain ⟨b, rfl, rfl⟩ := hv.str_inv
  have hsz : b.data.toList.length = b.size := by rw [Array.length_toList]; rfl
  refine ⟨byteCells b, ?_, ⟨?_, fun x hx => (hc x hx).1, fun u hu => by obtain ⟨_, _, rfl⟩ := List.mem_map.1 hu; rfl, fun j i x u hx hu => ?_⟩⟩
  ·rw [List.length_map, hsz]
   refine src_str hk ?_
   cases hl : b.data.toList with
   | nil => rw [hl] at hsz; exact .inr hsz.symm
   | cons c r =>
    have := (hc (.int .u8 c.toNat) (by rw [hl]; exact List.mem_cons_self ..)).1
    exact .inl this.symm
  ·rw [byteCells_length, List.length_map, hsz]
   cases hl : b.data.toList with
   | nil => rw [hl] at hsz; simp only [List.length_nil] at hsz; rw [← hsz]; simp
   | cons c r =>
    have := (hc (.int .u8 c.toNat) (by rw [hl]; exact List.mem_cons_self ..)).1
    rw [← this]; simp [PV.cells]
  ·have hxm := List.mem_of_getElem? hx
   have hsz1 := (hc x hxm).1
   rw [List.getElem?_map, Option.map_eq_some_iff] at hx
   obtain ⟨c, hcj, rfl⟩ := hx
   simp only [PV.cells] at hu hsz1
   cases i with
   | zero =>
    simp only [List.getElem?_cons_zero, Option.some.injEq] at hu
    subst hu
    refine ⟨.int .u8 c.toNat, ?_, .int _ _⟩
    simp only [List.length_cons, List.length_nil] at hsz1
    rw [← hsz1]
    simp only [Nat.zero_add, Nat.mul_one, Nat.add_zero, byteCells, List.getElem?_map, hcj, Option.map_some]
   | succ i => simp at hu
 ·cases hs
end Go.Vc
