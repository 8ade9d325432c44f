/- What is proved here: contracts of functions of the program: of each function what it hands back and what it leaves in memory. Conditions: those that each theorem names. -/
import Derived.OrdersHeld
import Derived.Test.YthhokabbanhllaaGreatDoorTAt
set_option linter.unusedVariables false
set_option linter.unusedSimpArgs false
set_option linter.unusedSectionVars false
namespace Go.Vc
open Go
variable {C : Ctx} {E : Env} {Z : Nat → Prop} {φ : Phi} {s : St} {a : Act} {w : World}
theorem Rep.older {w : World} {Z : Nat → Prop} {B B' : Nat} {φ : Phi} (hB : B ≤ B') {v : PV} {x : Value} (h : Rep ⟨w, Z, B', φ⟩ v x) : Rep ⟨w, Z, B, φ⟩ v x := by
 have hz : ∀ (o : Bool) b, RC.Zc ⟨w, Z, B', φ⟩ o b → RC.Zc ⟨w, Z, B, φ⟩ o b ∧ w.heap[b]? = w.heap[b]? := fun o b hb => ⟨⟨hb.1, hb.2.imp id fun h => Nat.le_trans hB h⟩, rfl⟩
 induction h with
 | int k n => exact .int k n
 | bool b => exact .bool b
 | str l s h => exact .str l s h
 | raw v => exact .raw v
 | fn f first caps fv cv h1 h2 h3 h4 ih3 ih4 => exact .fn f first caps fv cv h1 h2 ih3 ih4
 | ptr id off b m h => exact .ptr id off b m h
 | eptr sz id j off b m h => exact .eptr sz id j off b m h
 | ro l off o b p cs hb hm he => exact .ro l off o b p cs (hz o b hb).1 hm (fun i u hu => (he i u hu).step (hz o))
 | sl sz l t o x h => exact .sl sz l t o x (h.step (hz o))
 | ref sz id lo n b c m h hn hm hb => exact .ref sz id lo n b c m h hn hm hb
 | ref0 sz id a h => exact .ref0 sz id a h
 | agg l cs h h1 ih => exact .agg l cs h ih
 | tup l cs h h1 ih => exact .tup l cs h ih
 | cond c v x h h2 ih => exact .cond c v x ih h2
 | undef x => exact .undef x
theorem RepB.older {w : World} {Z : Nat → Prop} {B B' : Nat} {φ : Phi} (hB : B ≤ B') {own own' : Nat → Prop} (ho : ∀ b, own' b → own b ∨ B ≤ b) {id : Nat} {b : Blk} (h : RepB ⟨w, Z, B', φ⟩ own' id b) : RepB ⟨w, Z, B, φ⟩ own id b := by
 have hz : ∀ (o : Bool) b, RC.Zc ⟨w, Z, B', φ⟩ o b → RC.Zc ⟨w, Z, B, φ⟩ o b ∧ w.heap[b]? = w.heap[b]? := fun o b hb => ⟨⟨hb.1, hb.2.imp (fun h => h) fun h => Nat.le_trans hB h⟩, rfl⟩
 cases b with
 | box l =>
  obtain ⟨b, cs, T, h1, h2, h3, h4, h5, h6⟩ := h
  refine ⟨b, cs, T, h1, h2, ?_, h4, h5, fun i u hu => ?_⟩
  ·rcases h3 with h3 | h3
   ·exact ho b h3
   ·exact .inr (Nat.le_trans hB h3)
  ·obtain ⟨x, g1, g2, g3⟩ := h6 i u hu
   exact ⟨x, g1, g2.older hB, g3⟩
 | row e sz l o =>
  rcases h with h | ⟨b, cs, cap, g1, g2, g3, g4, g5, g6, g7, g8, g9, g10, g11⟩
  ·exact .inl h
  ·refine .inr ⟨b, cs, cap, g1, g2, ?_, g4.imp (fun h => h) fun h => Nat.le_trans hB h, g5, g6, g7, g8, g9, g10, fun j i x u hx hu => ?_⟩
   ·rcases g3 with g3 | g3
    ·exact ho b g3
    ·exact .inr (Nat.le_trans hB g3)
   ·obtain ⟨y, q1, q2, q3⟩ := g11 j i x u hx hu
    exact ⟨y, q1, q2.step (hz o), q3⟩
 | fro e sz l o =>
  rcases h with h | ⟨b, cs, cap, g1, g2, g4, g5, g6, g7, g8, g9, g10, g11⟩
  ·exact .inl h
  ·refine .inr ⟨b, cs, cap, g1, g2, g4.imp (fun h => h) fun h => Nat.le_trans hB h, g5, g6, g7, g8, g9, g10, fun j i x u hx hu => ?_⟩
   obtain ⟨y, q1, q2, q3⟩ := g11 j i x u hx hu
   exact ⟨y, q1, q2.step (hz o), q3⟩
def calmV (h : List (Nat × Blk)) : PV → PV
 | .int k n => .int k n
 | .bool b => .bool b
 | .str s => .str s
 | .sl z l t _ => .sl z l t true
 | .ptr id off => match lookB id h with
  | some (.box l) => if l.all PV.flat = true then .ro l off true else .undef
  | _ => .undef
 | _ => .undef
def calmL (h : List (Nat × Blk)) : List (Nat × PV) → List (Nat × PV)
 | [] => []
 | (t, v) :: r => (t, calmV h v) :: calmL h r
def calmSt (s : St) : St := { n := s.n, slots := calmL s.heap s.slots, heap := [], kb := [] }
theorem look_calm (h : List (Nat × Blk)) (t : Nat) : ∀ l, look t (calmL h l) = calmV h (look t l)
 | [] => rfl
 | (u, v) :: r => by
  simp only [calmL, look]
  split
  ·rfl
  ·exact look_calm h t r
def ZC (Z : Nat → Prop) (φ : Phi) (b : Nat) : Prop := Z b ∨ ∃ id m, φ id = some (some b, m)
theorem Rel.zc_lt (h : Rel C E Z φ s a w) : ∀ b, ZC Z φ b → b < w.heap.size := fun b hb => by
 rcases hb with hb | ⟨id, m, hb⟩
 ·exact h.zlt b hb
 ·obtain ⟨bb, _, hr⟩ := h.label hb
  exact hr.lt b m hb
def EC (w : World) (Z : Nat → Prop) (hz : ∀ b, Z b → b < w.heap.size) : Env := ⟨w, fun _ => False, Z, fun _ => none, fun _ h => h.elim, fun b h => ⟨hz b h, fun h => h⟩⟩
theorem calm_rep (h : Rel C E Z φ s a w) {v : PV} {x : Value} (hv : Rep ⟨w, Z, E.w0.heap.size, φ⟩ v x) : Rep ⟨w, ZC Z φ, w.heap.size, fun _ => none⟩ (calmV s.heap v) x := by
 have hz : ∀ (o : Bool) b, RC.Zc ⟨w, Z, E.w0.heap.size, φ⟩ o b → RC.Zc ⟨w, ZC Z φ, w.heap.size, fun _ => none⟩ true b ∧ w.heap[b]? = w.heap[b]? := fun o b hb => ⟨⟨.inl hb.1, .inl rfl⟩, rfl⟩
 cases hv with
 | int k n => exact .int k n
 | bool b => exact .bool b
 | str l s h => exact .str l s h
 | sl sz l t o x h0 =>
  have h1 := h0.step (hz o)
  cases h1 with
  | sl _ _ _ _ a n c cs hn hc ht hz hm he => exact .sl sz l t true _ (.sl sz l t true a n c cs hn hc ht hz hm he)
 | ptr id off b m hid =>
  simp only [calmV]
  split
  ·rename_i l hl
   split
   ·rename_i hf
    obtain ⟨b', cs, T, ⟨m', h1⟩, h2, h3, h4, h5, h6⟩ := h.heap.blk id _ hl
    have hbb : b' = b := by
     have e : φ id = some (some b', m') := h1
     have hid' : φ id = some (some b, m) := hid
     rw [hid'] at e
     exact (Option.some.inj (Prod.mk.inj (Option.some.inj e)).1).symm
    subst hbb
    have := Rep.ro (R := ⟨w, ZC Z φ, w.heap.size, fun _ => none⟩) l off true b' 0 (fun i => cs.getD i undef) ⟨.inr ⟨id, m, hid⟩, .inl rfl⟩ (fun i hi => ?_) (fun i u hu => ?_)
    ·rw [Nat.zero_add] at this; exact this
    ·have e : w.heap[b']? = some (.cells cs T (0, 0)) := h4
     unfold World.cell?
     rw [e]
     have : i < cs.size := by have := h5; omega
     simp [this]
    ·obtain ⟨x, g1, g2, g3⟩ := h6 i u hu
     have hfu : u.flat = true := List.all_eq_true.1 hf u (List.mem_of_getElem? hu)
     have hx : cs.getD i undef = x := by simp [Array.getD_eq_getD_getElem?, g1]
     rw [hx]
     exact (g2.down hfu).step (hz _)
   ·exact .undef _
  ·exact .undef _
 | _ => exact .undef _
theorem calm_enter (h : Rel C E Z φ s a w) : Rel C (EC w (ZC Z φ) h.zc_lt) (ZC Z φ) (fun _ => none) (calmSt s) a w := by
 refine ⟨h.n, fun t => ?_, ⟨fun id b hb => (by cases hb), fun i j b m m' _ hi => (by cases hi), fun id x hx => (by cases hx)⟩, h.zc_lt, fun b hb => .inl hb, fun b hb => hb,
  ⟨rfl, rfl, rfl, Nat.le_refl _, fun _ _ _ => rfl, fun b cs T hb => ⟨cs, hb, rfl⟩⟩, h.globNow.step fun b hb => ⟨.inl hb, rfl⟩, h.defers, fun i hi => (by cases hi)⟩
 show Rep _ (look t (calmL s.heap s.slots)) _
 rw [look_calm]
 exact calm_rep h (h.slots t)
theorem calm_leave (h : Rel C E Z φ s a w) {Z2 : Nat → Prop} {φ2 : Phi} {s2 : St} {a2 : Act} {w2 : World} (h2 : Rel C (EC w (ZC Z φ) h.zc_lt) Z2 φ2 s2 a2 w2) (hk : s2.kb = []) : Rel C E Z2 φ2 s2 a2 w2 := by
 have hB : E.w0.heap.size ≤ w.heap.size := h.frame.size
 have f2 : Frame0 w (fun _ => False) w2 := h2.frame
 refine ⟨h2.n, fun t => (h2.slots t).older hB, ⟨fun id b hb => (h2.heap.blk id b hb).older hB (fun _ h => h.elim), h2.heap.inj, h2.heap.keys⟩, h2.zlt, fun b hb => ?_, fun b hb => h2.z0 b (.inl (h.z0 b hb)), ?_, h.glob, h2.defers, fun i hi => ?_⟩
 ·rcases h2.zin b hb with g | g | g
  ·rcases g with g | ⟨id, m, g⟩
   ·exact h.zin b g
   ·obtain ⟨bb, hl, hr⟩ := h.label g
    cases bb with
    | box l =>
     obtain ⟨b', cs, T, ⟨m', g1⟩, g2, g3, _⟩ := hr
     have e : φ id = some (some b', m') := g1
     rw [g] at e
     have : b = b' := Option.some.inj (Prod.mk.inj (Option.some.inj e)).1
     subst this
     exact .inr g3
    | row e sz l o =>
     rcases hr with ⟨g1, _⟩ | ⟨b', cs, cap, g1, g2, g3, _⟩
     ·have e : φ id = some (none, 0) := g1
      rw [g] at e
      cases e
     ·have e : φ id = some (some b', l.length) := g1
      rw [g] at e
      have : b = b' := Option.some.inj (Prod.mk.inj (Option.some.inj e)).1
      subst this
      exact .inr g3
    | fro e sz l o =>
     rcases hr with ⟨g1, _⟩ | ⟨b', cs, cap, g1, g2, _⟩
     ·have e : φ id = some (none, 0) := g1
      rw [g] at e
      cases e
     ·have e : φ id = some (some b', l.length) := g1
      rw [g] at e
      have : b = b' := Option.some.inj (Prod.mk.inj (Option.some.inj e)).1
      subst this
      exact h.zin b g2
  ·exact g.elim
  ·exact .inr (.inr (Nat.le_trans hB g))
 ·refine ⟨f2.os.trans h.frame.os, f2.tape.trans h.frame.tape, f2.output.trans h.frame.output, Nat.le_trans h.frame.size f2.size, fun b hb hn => ?_, fun b cs T hb => ?_⟩
  ·rw [f2.block b (Nat.lt_of_lt_of_le hb hB) (fun h => h)]; exact h.frame.block b hb hn
  ·obtain ⟨cs', g1, g2⟩ := h.frame.shape b cs T hb
   obtain ⟨cs2, g3, g4⟩ := f2.shape b cs' T g1
   exact ⟨cs2, g3, g4.trans g2⟩
 ·rw [hk] at hi; cases hi
def SE (E : Env) (w : World) : Prop := ∀ b, b < E.w0.heap.size → ¬ E.own b → w.heap[b]? = E.w0.heap[b]?
theorem Holds.se (h : Holds C E s a w) : SE E w := by
 obtain ⟨Z, φ, h⟩ := h
 exact h.frame.block
def takeWp (C : Ctx) (ops : Array Oper) : List Nat → St → (St → Prop) → Prop
 | [], s, k => k s
 | i :: r, s, k => qWp C s True (ops.getD i default).op fun v => takeWp C ops r (s.put (ops.getD i default).dst v) k
def linWp (C : Ctx) (S : Callee) (ops : Array Oper) : List Nat → St → (St → Prop) → Prop
 | [], s, k => k s
 | i :: r, s, k => opWp C S ops (ops.getD i default) s fun s' => linWp C S ops r s' k
def noGuard (o : Oper) : Bool := match o.guard with | none => true | some _ => false
def linOk (all : Array Oper) : List Nat → Nat → Array Bool → Bool
 | [], _, l => (Region.ready .any all l).isEmpty
 | i :: r, n, l => match n with
  | n + 1 => (Region.ready .any all l == [i]) && decide (i < all.size) && linOk all r n (l.setIfInBounds i true)
  | 0 => false
def takeOk (C : Ctx) (all : Array Oper) (js : List Nat) : List Nat → Nat → Array Bool → Bool
 | [], n, l => linOk all js n l
 | i :: r, n, l => match n with
  | n + 1 => (Region.ready .any all l).contains i && Region.free .any all l i && (match all[i]? with | some o => noGuard o && isPlain C o.op | none => false) && takeOk C all js r n (l.setIfInBounds i true)
  | 0 => false
section
variable {k : St → Prop} {Q : Exit → Act → World → Prop}
theorem lin_sound (hT : TyOk C) {ops : Array Oper} (hn : ∀ s a w, k s → Holds C E s a w → Q .normal a w) :
  ∀ (js : List Nat) (n : Nat) (l : Array Bool) (s : St) (a : Act) (w : World), linOk ops js n l = true → linWp C (Spec C) ops js s k → Holds C E s a w → wpAnyH C.P .any ops Q (SE E) n l a w
 | [], n, l, s, a, w, hl, hq, h => wpAnyH_done (by simpa [linOk] using hl) (hn s a w hq h) n
 | i :: r, 0, l, s, a, w, hl, hq, h => by simp [linOk] at hl
 | i :: r, n + 1, l, s, a, w, hl, hq, h => by
  simp only [linOk, Bool.and_eq_true, beq_iff_eq, decide_eq_true_eq] at hl
  obtain ⟨⟨h1, his⟩, h2⟩ := hl
  refine wpAnyH_all h1 (by simp) fun j hj => ?_
  obtain rfl := List.mem_singleton.1 hj
  have hget : ops[j]? = some (ops.getD j default) := by simp [his]
  unfold wpOp
  rw [hget]
  simp only
  obtain ⟨Z, φ, hr⟩ := h
  exact op_sound hT hr hq fun s' a' w' hk hh => ⟨hh.se, lin_sound hT hn r n _ s' a' w' h2 hk hh⟩
theorem load_yields (hT : TyOk C) {Z : Nat → Prop} (hZ : ∀ b, Z b → b < w.heap.size) {φ : Phi} (h : Rel C (EC w Z hZ) Z φ s a w) (hh : s.heap = []) {o : Oper} {t : TypeId} {x : Operand} (ho : o.op = .load t x) {K : PV → Prop} (hq : qWp C s True (.load t x) K) :
  ∃ v y, K v ∧ Rep ⟨w, Z, w.heap.size, φ⟩ v y ∧ ∀ w2, SE (EC w Z hZ) w2 → (execOp a.eval o).run C.P w2 = .ok (.value y) w2 := by
 simp only [qWp] at hq
 obtain ⟨hz, hq⟩ := hq
 obtain ⟨va, hq, ha⟩ := h.opd hq
 have ha := ha trivial
 cases va with
 | ptr id off => rw [hh] at hq; exact hq.elim
 | eptr z id j off => rw [hh] at hq; exact hq.elim
 | ro l off o' =>
  obtain ⟨hoff, hk⟩ := hq
  have hoff := hoff trivial
  obtain ⟨y, hy⟩ : ∃ y, a.eval x = y := ⟨_, rfl⟩
  rw [hy] at ha
  cases ha with
  | ro _ _ _ b p cs hb hm he =>
   have hm2 : ∀ w2, SE (EC w Z hZ) w2 → ∀ i, i < l.length → w2.cell? ⟨b, p + i, none⟩ = some (cs i) := fun w2 hS i hi => by
    rw [← hm i hi]
    exact World.cell?_of_block (a := ⟨b, p + i, none⟩) (hS b (hZ b hb.1) fun h => h)
   have he2 : ∀ (i : Nat) u, (l.map (PV.retag o'))[i]? = some u → Rep ⟨w, Z, w.heap.size, φ⟩ u (cs i) := fun i u hu => by
    rw [List.getElem?_map, Option.map_eq_some_iff] at hu
    obtain ⟨u', hu', rfl⟩ := hu
    exact (he i u' hu').up (R := ⟨w, Z, w.heap.size, φ⟩)
   unfold partP at hk
   cases hag : (C.ty t).agg with
   | true =>
    rw [hag] at hk
    refine ⟨_, .agg ⟨(List.range (C.size t)).map fun i => cs (off + i)⟩, hk, .agg _ _ (by simp; omega) (fun i u y hu hy => ?_), fun w2 hS => ?_⟩
    ·rw [List.getElem?_take] at hu
     split at hu
     ·rename_i hi
      rw [List.getElem?_drop] at hu
      simp only [List.getElem?_map, List.getElem?_range hi, Option.map_some, Option.some.injEq] at hy
      subst hy
      exact he2 _ u hu
     ·cases hu
    ·have hr := run_loadCells (P := C.P) w2 ⟨b, p + off, none⟩ (C.size t) (fun i => cs (off + i)) (fun j hj => by rw [Addr.add_lit, Nat.add_assoc]; exact hm2 w2 hS _ (by omega))
     simp [execOp, ho, hy, Instr.loadAt, Instr.sureAddr, loadVar, run_isAgg hT hz, hag, run_size hT hz, hr]
   | false =>
    rw [hag] at hk
    refine ⟨_, cs off, hk, he2 off _ (by simp [nth, List.getD, show off < l.length by omega]), fun w2 hS => ?_⟩
    have := hm2 w2 hS off (by omega)
    simp [execOp, ho, hy, Instr.loadAt, Instr.sureAddr, loadVar, run_isAgg hT hz, hag, this]
 | _ => exact hq.elim
theorem take_sound (hT : TyOk C) {ops : Array Oper} (hsel : Region.noSelect ops = true) (hpan : ∀ c a w, Q (.panic c) a w → False) {Z : Nat → Prop} (hZ : ∀ b, Z b → b < w.heap.size) (js : List Nat)
  (hn : ∀ s a w', k s → Holds C (EC w Z hZ) s a w' → Q .normal a w') :
  ∀ (is : List Nat) (n : Nat) (l : Array Bool) (s : St) (a : Act), takeOk C ops js is n l = true → takeWp C ops is s (fun s' => linWp C (Spec C) ops js s' k) → s.heap = [] → ∀ φ, Rel C (EC w Z hZ) Z φ s a w → wpAnyH C.P .any ops Q (SE (EC w Z hZ)) n l a w
 | [], n, l, s, a, hl, hq, hh, φ, h => lin_sound hT hn js n l s a w hl hq ⟨Z, φ, h⟩
 | i :: r, 0, l, s, a, hl, hq, hh, φ, h => by simp [takeOk] at hl
 | i :: r, n + 1, l, s, a, hl, hq, hh, φ, h => by
  simp only [takeOk, Bool.and_eq_true] at hl
  obtain ⟨⟨⟨h1, h2⟩, h3⟩, h4⟩ := hl
  split at h3
  ·rename_i oi hoi
   simp only [Bool.and_eq_true] at h3
   have hget : ops.getD i default = oi := by
    obtain ⟨hlt, he⟩ := Array.getElem?_eq_some_iff.1 hoi
    simp [hoi]
   simp only [takeWp, hget] at hq
   have hg : oi.guard = none := by
    have := h3.1
    unfold noGuard at this
    split at this
    ·assumption
    ·cases this
   have key : ∃ v y, (takeWp C ops r (s.put oi.dst v) fun s' => linWp C (Spec C) ops js s' k) ∧ Rep ⟨w, Z, w.heap.size, φ⟩ v y ∧ YieldsIf C.P ops (SE (EC w Z hZ)) oi y a := by
    by_cases hld : isLoad oi.op = true
    ·obtain ⟨t, x, hop⟩ : ∃ t x, oi.op = .load t x := by
      unfold isLoad at hld
      split at hld
      ·rename_i t x e; exact ⟨t, x, e⟩
      ·cases hld
     rw [hop] at hq
     obtain ⟨v, y, g1, g2, g3⟩ := load_yields hT hZ h hh hop hq
     exact ⟨v, y, g1, g2, .inl ⟨wanted_none hg a, g3⟩⟩
    ·have hld : isLoad oi.op = false := by simpa using hld
     obtain ⟨v, hk, hv⟩ := q_sound hT h rfl h3.2 hq
     obtain ⟨y, g1, g2, g3⟩ := hv trivial
     exact ⟨v, y, hk, g1, .inl ⟨wanted_none hg a, fun w2 _ => g3 (by simp [hld]) w2⟩⟩
   obtain ⟨v, y, g1, g2, g3⟩ := key
   have hp := h.put oi.dst (v := v) (x := y) fun _ _ => g2
   refine wpAnyH_take hoi hsel h2 h1 (fun c a w hc => (hpan c _ w hc).elim) g3 (Holds.se ⟨Z, φ, h⟩) (take_sound hT hsel hpan hZ js hn r n _ (s.put oi.dst v) _ h4 g1 ?_ φ hp)
   cases oi.dst <;> exact hh
  ·cases h3
end
theorem calm_region (hT : TyOk C) (hmix : C.P.follows .mixedOrders = true) {id : Nat} {ops : Array Oper} (is js : List Nat) (hsel : Region.noSelect ops = true) (hok : takeOk C ops js is ops.size (Array.replicate ops.size false) = true) {k : St → Prop} {Q : Exit → Act → World → Prop}
  (hpan : ∀ c a w, Q (.panic c) a w → False) (hn : ∀ s a w, k s → Holds C E s a w → Q .normal a w) (h : Holds C E s a w) (hq : takeWp C ops is (calmSt s) fun s' => linWp C (Spec C) ops js s' fun s2 => s2.kb = [] ∧ k s2) : (Code.region id ops true).wp C.P Q a w := by
 obtain ⟨Z, φ, hr⟩ := h.drawn
 refine wp_region_held hmix (S := SE (EC { w with drawn := w.drawn + 1 } (ZC Z φ) hr.zc_lt)) ?_
 refine take_sound hT hsel hpan hr.zc_lt js (fun s2 a2 w2 hk hh => ?_) is ops.size _ (calmSt s) a hok hq rfl (fun _ => none) (calm_enter hr)
 obtain ⟨Z2, φ2, h2⟩ := hh
 exact hn s2 a2 w2 hk.2 ⟨Z2, φ2, calm_leave hr h2 hk.1⟩
theorem calm_cspec (hT : TyOk C) (hmix : C.P.follows .mixedOrders = true) {f : Nat} {fn : Func} {i0 i1 : Nat} {ops0 ops : Array Oper} (is js : List Nat) (hf : C.P.funcs[f]? = some fn) (hb : fn.body = some (.seq (.region i0 ops0 false) (.seq (.region i1 ops true) .ret)))
  (hsel : Region.noSelect ops = true) (hok : takeOk C ops js is ops.size (Array.replicate ops.size false) = true) (gv : Bool) {args : List PV} {Post : PV → List (Nat × Blk) → Prop} (hlen : args.length ≤ fn.ntmps)
  (hwp : opsWp C (Spec C) ops0 ops0.toList (St.entry fn.ntmps args []) fun s => takeWp C ops is (calmSt s) fun s' => linWp C (Spec C) ops js s' fun s2 => s2.kb = [] ∧ bodyQ C gv 0 [] fn.results.toList Post .ret s2) : CSpec C f args [] Post := by
 refine cspec_core hT hf hb gv hlen List.nodup_nil fun E Q' a w hQ hP hh => ?_
 refine wp_seq (code_sound hT hmix (.region i0 ops0 false) (fun e s => match e with | .normal => takeWp C ops is (calmSt s) fun s' => linWp C (Spec C) ops js s' fun s2 => s2.kb = [] ∧ bodyQ C gv 0 [] fn.results.toList Post .ret s2 | _ => False) _ _ a w (fun e s a w hq hh => ?_) (fun ch a w hp => hP ch a w hp) hwp hh)
 cases e with
 | normal =>
  refine wp_seq (calm_region hT hmix is js hsel hok (fun ch a w hp => hP ch a w hp) (fun s a w hk hh => ?_) hh hq)
  exact wp_ret (hQ .ret s a w hk hh)
 | exit i => exact hq.elim
 | ret => exact hq.elim
theorem lin_ops {S : Callee} {ops : Array Oper} : ∀ (js : List Nat) (s : St) (k : St → Prop), linWp C S ops js s k = opsWp C S ops (js.map fun i => ops.getD i default) s k
 | [], s, k => rfl
 | i :: r, s, k => by
  simp only [linWp, List.map_cons, opsWp]
  exact congrArg _ (funext fun s' => lin_ops r s' k)
theorem take_ops {S : Callee} {ops : Array Oper} : ∀ (is : List Nat) (s : St) (k : St → Prop), (is.all fun i => noGuard (ops.getD i default) && isPlain C (ops.getD i default).op) = true → takeWp C ops is s k = opsWp C S ops (is.map fun i => ops.getD i default) s k
 | [], s, k, _ => rfl
 | i :: r, s, k, h => by
  simp only [List.all_cons, Bool.and_eq_true] at h
  obtain ⟨⟨h1, h2⟩, h3⟩ := h
  simp only [takeWp, List.map_cons, opsWp]
  have hg : (ops.getD i default).guard = none := by
   unfold noGuard at h1
   split at h1
   ·assumption
   ·cases h1
  unfold opWp
  rw [hg, h2]
  exact congrArg _ (funext fun v => take_ops r _ k h3)
theorem calm_spec (hT : TyOk C) (hmix : C.P.follows .mixedOrders = true) {f : Nat} {fn : Func} {i0 i1 : Nat} {ops0 ops : Array Oper} (is js : List Nat) {x0 xt xl : List Fop} {n : Nat} {rs : List ResultVar} (hf : C.P.funcs[f]? = some fn) (hname : (fn.name == "runtime.NumGoroutine") = false) (hb : fn.body = some (.seq (.region i0 ops0 false) (.seq (.region i1 ops true) .ret)))
  (hsel : Region.noSelect ops = true) (hok : takeOk C ops js is ops.size (Array.replicate ops.size false) = true) (hpl : (is.all fun i => noGuard (ops.getD i default) && isPlain C (ops.getD i default).op) = true) (hn : fn.ntmps = n) (hr : fn.results.toList = rs)
  (e0 : fopsOf C ops0 ops0.toList = some x0) (et : fopsOf C ops (is.map fun i => ops.getD i default) = some xt) (el : fopsOf C ops (js.map fun i => ops.getD i default) = some xl) (gv : Bool) {args : List PV} {Post : PV → List (Nat × Blk) → Prop} (hlen : args.length ≤ n)
  (hwp : forceSt (St.entry n args []) fun s => fopsWp C (Spec C) x0 s fun s => forceSt (calmSt s) fun s => fopsWp C (Spec C) xt s fun s => fopsWp C (Spec C) xl s fun s2 => s2.kb = [] ∧ bodyF C gv 0 [] rs (fun r h' => force2 r.weak fun r => Post r h') .ret s2) : Spec C f args [] Post := by
 subst hn hr
 rw [forceSt_eq, bodyF_eq] at hwp
 refine Spec.weak (spec_of_cspec hf hname hb (calm_cspec hT hmix is js hf hb hsel hok gv hlen ?_))
 rw [fops_eq _ _ e0]
 refine (congrArg (fopsWp C (Spec C) x0 _) (funext fun s => ?_)).mpr hwp
 rw [forceSt_eq, take_ops (S := Spec C) is _ _ hpl, fops_eq _ _ et]
 refine congrArg (fopsWp C (Spec C) xt _) (funext fun s => ?_)
 rw [lin_ops, fops_eq _ _ el]
end Go.Vc
