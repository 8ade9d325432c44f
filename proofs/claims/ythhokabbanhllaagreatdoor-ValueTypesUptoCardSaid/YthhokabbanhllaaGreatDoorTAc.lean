/- What is proved here: contracts of functions of the program: of each function what it hands back and what it leaves in memory. Conditions: those that each theorem names. -/
import Derived.LoopN
import Derived.Test.YthhokabbanhllaaGreatDoorTAb
set_option linter.unusedVariables false
set_option linter.unusedSimpArgs false
set_option linter.unusedSectionVars false
namespace Go.Vc
open Go
variable {C : Ctx} {E : Env} {Z : Nat → Prop} {φ : Phi} {s : St} {a : Act} {w : World} {o : Oper} {k : St → Prop} {next : Act → World → Prop} {Q : Exit → Act → World → Prop}
def Blk.kill (i : Nat) : Blk → Blk
 | .box l => .box (killL i l)
 | .row e z l o => .row e z l o
 | .fro e z l o => .fro e z l o
theorem lookB_killH (i : Nat) : ∀ (h : List (Nat × Blk)) (t : Nat), lookB t (killH i h) = (lookB t h).map (Blk.kill i)
 | [], t => rfl
 | (u, .box l) :: r, t => by
  simp only [killH, lookB]
  split
  ·rfl
  ·exact lookB_killH i r t
 | (u, .row ..) :: r, t => by
  simp only [killH, lookB]
  split
  ·rfl
  ·exact lookB_killH i r t
 | (u, .fro ..) :: r, t => by
  simp only [killH, lookB]
  split
  ·rfl
  ·exact lookB_killH i r t
theorem look_killS (i : Nat) : ∀ (h : List (Nat × PV)) (t : Nat), look t (killS i h) = (look t h).kill i
 | [], t => rfl
 | (u, v) :: r, t => by
  simp only [killS, look]
  split
  ·rfl
  ·exact look_killS i r t
theorem RepB.step_kill {R R' : RC} {own : Nat → Prop} (hl : Later R R') (i : Nat) (hφ : ∀ id x, id ≠ i → R.φ id = some x → R'.φ id = some x) {id : Nat} (hid : id ≠ i) {b : Blk} (h : RepB R own id b)
  (hb : ∀ k m, R.φ id = some (some k, m) → R'.w.heap[k]? = R.w.heap[k]? ∧ (¬ R.Z k → ¬ R'.Z k)) : RepB R' own id (b.kill i) := by
 cases b with
 | box l =>
  obtain ⟨b, cs, T, ⟨m, h1⟩, h2, h3, h4, h5, h6⟩ := h
  obtain ⟨e1, e2⟩ := hb b m h1
  refine ⟨b, cs, T, ⟨m, hφ _ _ hid h1⟩, e2 h2, by rw [hl.B]; exact h3, e1.trans h4, by rw [killL_len]; exact h5, fun j u hu => ?_⟩
  rw [killL_get, Option.map_eq_some_iff] at hu
  obtain ⟨u', hu', rfl⟩ := hu
  obtain ⟨x, g1, g2, g3⟩ := h6 j u' hu'
  exact ⟨x, g1, g2.step_kill hl i hφ, g3⟩
 | row e sz l o =>
  rcases h with ⟨h1, h2⟩ | ⟨b, cs, cap, h1, h2, h3, h4, h5, h6, h7, h8, h9, h10, h11⟩
  ·exact .inl ⟨hφ _ _ hid h1, h2⟩
  ·obtain ⟨e1, e2⟩ := hb b _ h1
   exact .inr ⟨b, cs, cap, hφ _ _ hid h1, e2 h2, by rw [hl.B]; exact h3, by rw [hl.B]; exact h4, e1.trans h5, h6, h7, h8, h9, h10, fun j i x u hx hu => by
    obtain ⟨y, g1, g2, g3⟩ := h11 j i x u hx hu; exact ⟨y, g1, g2.step (hl.Zc o), g3⟩⟩
 | fro e sz l o =>
  rcases h with ⟨h1, h2⟩ | ⟨b, cs, cap, h1, h2, h4, h5, h6, h7, h8, h9, h10, h11⟩
  ·exact .inl ⟨hφ _ _ hid h1, h2⟩
  ·obtain ⟨e1, e2⟩ := hb b _ h1
   exact .inr ⟨b, cs, cap, hφ _ _ hid h1, (hl.Z b h2).1, by rw [hl.B]; exact h4, e1.trans h5, h6, h7, h8, h9, h10, fun j i x u hx hu => by
    obtain ⟨y, g1, g2, g3⟩ := h11 j i x u hx hu; exact ⟨y, g1, g2.step (hl.Zc o), g3⟩⟩
theorem Rel.rerow (h : Rel C E Z φ s a w) {id : Nat} {w' : World} {x : Option Nat × Nat} {bl b0 : Blk} (hid : lookB id s.heap = some b0)
  (hl : Later ⟨w, Z, E.w0.heap.size, φ⟩ ⟨w', Z, E.w0.heap.size, fun i => if i = id then some x else φ i⟩)
  (hblk : ∀ i k m, i ≠ id → φ i = some (some k, m) → w'.heap[k]? = w.heap[k]?) (hinj : ∀ b, x.1 = some b → ¬ Z b → ∀ j m, j ≠ id → φ j ≠ some (some b, m))
  (hbl : RepB ⟨w', Z, E.w0.heap.size, fun i => if i = id then some x else φ i⟩ E.own id bl) (hz : w.heap.size ≤ w'.heap.size) (hfr : Frame0 E.w0 E.own w') (hb0 : ∀ l, b0 ≠ .box l) :
  Rel C E Z (fun i => if i = id then some x else φ i) { s.kill id with heap := updB id bl (killH id s.heap) } a w' := by
 have hφ : ∀ i y, i ≠ id → φ i = some y → (fun i => if i = id then some x else φ i) i = some y := fun i y hi hy => by simp [hi, hy]
 refine ⟨h.n, fun t => ?_, ⟨fun i b hb => ?_, fun i j b m m' hzb hi hj => ?_, fun i y hy => ?_⟩, fun b hb => Nat.lt_of_lt_of_le (h.zlt b hb) hz, h.zin, h.z0, hfr, h.glob, h.defers, fun i hi => ?_⟩
 ·show Rep _ (look t (killS id s.slots)) _
  rw [look_killS]
  exact (h.slots t).step_kill hl id hφ
 ·rw [lookB_upd] at hb
  split at hb
  ·rename_i he
   subst he
   rw [lookB_killH, hid] at hb
   simp only [Option.map_some, Option.some.injEq] at hb
   subst hb
   exact hbl
  ·rename_i he
   rw [lookB_killH, Option.map_eq_some_iff] at hb
   obtain ⟨b', hb', rfl⟩ := hb
   exact (h.heap.blk i b' hb').step_kill hl id hφ he fun k m hk => ⟨hblk i k m he hk, fun hn => hn⟩
 ·simp only at hi hj
  split at hi
  ·split at hj
   ·omega
   ·rename_i h1 h2
    simp only [Option.some.injEq] at hi
    subst hi
    exact absurd hj (hinj b rfl hzb j m' h2)
  ·split at hj
   ·rename_i h1 h2
    simp only [Option.some.injEq] at hj
    subst hj
    exact absurd hi (hinj b rfl hzb i m h1)
   ·exact h.heap.inj i j b m m' hzb hi hj
 ·rw [lookB_upd]
  split
  ·rw [lookB_killH, hid]; rfl
  ·rename_i he
   simp only [if_neg he] at hy
   rw [lookB_killH]
   simpa using h.heap.keys i y hy
 ·obtain ⟨h1, l, h2⟩ := h.fix i hi
  have hne : i ≠ id := by rintro rfl; rw [hid] at h2; simp only [Option.some.injEq] at h2; exact hb0 l h2
  refine ⟨by simp only [if_neg hne]; exact h1, killL id l, ?_⟩
  rw [lookB_upd, if_neg hne, lookB_killH, h2]; rfl
theorem Rel.emptyRow (h : Rel C E Z φ s a w) (e sz : Nat) (oo : Bool) (d : Option Nat) (p : Option Addr) : Holds C E (Vc.newRow s d e sz [] oo 0) (a.put d (.slice p 0 0)) w := by
 have hnew : φ (fresh s.heap) = none := by
  cases hx : φ (fresh s.heap) with
  | none => rfl
  | some x =>
   obtain ⟨b, hb, _⟩ := h.label hx
   exact absurd (lookB_fresh _ _ _ hb) (Nat.lt_irrefl _)
 let φ' : Phi := fun i => if i = fresh s.heap then some (none, 0) else φ i
 have h1 : φ' (fresh s.heap) = some (none, 0) := by simp [φ']
 have h2 : ∀ id x, φ id = some x → φ' id = some x := fun id x hx => by
  have : id ≠ fresh s.heap := by rintro rfl; rw [hnew] at hx; cases hx
  simp [φ', this, hx]
 have h3 : Later ⟨w, Z, E.w0.heap.size, φ⟩ ⟨w, Z, E.w0.heap.size, φ'⟩ := ⟨rfl, fun b hb => ⟨hb, rfl⟩, fun b cs T hb => ⟨cs, hb, rfl⟩⟩
 have hr : Rel C E Z φ' { s with heap := (fresh s.heap, .row e sz [] oo) :: s.heap } a w := by
  refine ⟨h.n, fun t => (h.slots t).step h3 h2, ⟨fun id b hl => ?_, fun i j b m1 m2 hzb hi hj => ?_, fun id x hx => ?_⟩, h.zlt, h.zin, h.z0, h.frame, h.glob, h.defers, h.fix_new h1 fun i hi => by simp [φ', hi]⟩
  ·simp only [lookB] at hl
   split at hl
   ·rename_i he
    subst he
    simp only [Option.some.injEq] at hl
    subst hl
    exact .inl ⟨h1, rfl⟩
   ·exact (h.heap.blk id b hl).step h3 h2 fun k m hk => ⟨rfl, fun hn => hn⟩
  ·simp only [φ'] at hi hj
   split at hi
   ·simp at hi
   ·split at hj
    ·simp at hj
    ·exact h.heap.inj i j b m1 m2 hzb hi hj
  ·simp only [lookB]
   split
   ·rfl
   ·rename_i hne
    simp only [φ', if_neg hne] at hx
    exact h.heap.keys id x hx
 exact ⟨Z, φ', hr.put d fun t ht => .ref0 _ _ _ h1⟩
theorem run_append_none {P : Program} (t tx ty e : TypeId) (i : TypeInfo) (ht : P.underlying t = some (.slice e)) (hi : P.info? e = some i) (p : Option Addr) (c : Nat) (x : Value) (hs : Src P i.size tx x 0 [] w) :
  (Builtin.append_ #[t, tx] ty #[.slice p 0 c, x]).run P w = .ok (.slice p 0 c) w := by
 have h1 := hs.cells
 rcases hs.kind with ⟨e', hk⟩ | hk <;> cases p <;> simp [Builtin.append_, run_underlying ht, run_underlying hk, sizeOf, typeInfo, hi, hs.len, h1, storeCells]
theorem run_append_in {P : Program} (t tx ty e : TypeId) (i : TypeInfo) (ht : P.underlying t = some (.slice e)) (hi : P.info? e = some i) (b n c : Nat) (x : Value) (m : Nat) (news : List Value) (hs : Src P i.size tx x m news w)
  (hroom : n + m ≤ c) {cs : Array Value} {T : TypeId} (hb : w.heap[b]? = some (.cells cs T (0, 0))) (hc : c * i.size ≤ cs.size) :
  (Builtin.append_ #[t, tx] ty #[.slice (some ⟨b, 0, none⟩) n c, x]).run P w = .ok (.slice (some ⟨b, 0, none⟩) (n + m) c) (w.setRow b (cs.toList.take (n * i.size) ++ news ++ cs.toList.drop (n * i.size + news.length)).toArray) := by
 have hfit : n * i.size + 0 + news.length ≤ cs.size := by
  have : (n + m) * i.size ≤ c * i.size := Nat.mul_le_mul_right _ hroom
  rw [Nat.add_mul] at this
  rw [hs.newsLen]; omega
 have hst := run_storeCells_at P b (n * i.size) T news 0 cs w hb hfit hs.one
 simp only [Nat.add_zero] at hst
 rcases hs.kind with ⟨e', hk⟩ | hk <;> simp [Builtin.append_, run_underlying ht, run_underlying hk, sizeOf, typeInfo, hi, hs.len, hroom, hs.cells, Addr.add_lit, hst]
theorem run_append_new (hT : TyOk C) {t tx e : Nat} (ty : TypeId) (ht : C.P.underlying t = some (.slice e)) (he : 0 < C.size e) (hze : (C.zero e).length = C.size e) (p : Option Addr) (n c : Nat) (olds : List Value)
  (hold : Src C.P (C.size e) tx (.slice p n c) n olds w) (x : Value) (m : Nat) (news : List Value) (hs : Src C.P (C.size e) tx x m news w) (hg : c < n + m) (hb : (n + m) * (C.bytes e + 1) ≤ 70368744177664) :
  ∃ (cap : Nat) (cs : Array Value), (Builtin.append_ #[t, tx] ty #[.slice p n c, x]).run C.P w = .ok (.slice (some ⟨w.heap.size, 0, none⟩) (n + m) cap) (w.drew.alloc (.cells cs e)) ∧ cs.size = cap * C.size e ∧ cap ≤ maxLen ∧ n + m ≤ cap ∧
   ∀ j, j < (olds ++ news).length → cs[j]? = (olds ++ news)[j]? := by
 obtain ⟨i, z, zs, hi, hiz, hzc, hcs, _⟩ := rep_zero (R := ⟨w, fun _ => False, 0, fun _ => none⟩) C hT (t := e) (by intro h0; rw [h0] at hze; simp at hze; omega)
 obtain ⟨i', hi', hsz, hby, _⟩ := hT.info e (by omega)
 rw [hi] at hi'
 simp only [Option.some.injEq] at hi'
 subst hi'
 have hzs : zs.length = C.size e := by rw [← hze, ← hcs]; simp
 rw [Nat.mul_add] at hb
 rw [← hsz] at hold hs
 have hm : n + m ≤ maxLen := by unfold maxLen; omega
 have hfit : Builtin.nextslicecap (n + m) c * i.bytes ≤ 281474976710656 := growslice_fits hg (by rw [hby]; omega)
 have hr := run_append_grow_src (P := C.P) w t tx ty e i z ht hi hiz p n c olds hold.cellsD x m news hs hg (by unfold maxLen at hm; omega) hfit
 have hge := grownCap_ge w (n + m) c e
 refine ⟨grownCap w (n + m) c e, _, hr, ?_, grownCap_le_maxLen w _ _ e hm, hge, fun j hj => ?_⟩
 ·rw [Array.size_append, size_zeroCells, hzc]
  simp only [List.size_toArray, List.length_append, hold.newsLen, hs.newsLen, hzs, hsz]
  rw [← Nat.add_mul, ← Nat.add_mul]
  congr 1; omega
 ·rw [Array.getElem?_append_left (by simpa using hj)]
  simp
theorem grown_new (w : World) (ob : Obj) : Grown w (w.drew.alloc ob) := ⟨rfl, rfl, rfl, by simp, fun b hb => heap_push_lt (w := w.drew) hb⟩
theorem Cont.row {R : RC} {sz : Nat} {l : List PV} {o : Bool} {cs : List Value} (h : Cont R sz l o cs) {cs' : Array Value} (he : ∀ j, j < cs.length → cs'[j]? = cs[j]?) :
  ∀ (j i : Nat) (x u : PV), l[j]? = some x → x.cells[i]? = some u → ∃ y, cs'[j * sz + i]? = some y ∧ Rep0 R.w (R.Zc o) u y ∧ y.oneCell' = true := fun j i x u hx hu => by
 obtain ⟨y, g1, g2⟩ := h.rep j i x u hx hu
 exact ⟨y, by rw [he _ (List.getElem?_eq_some_iff.1 g1).1]; exact g1, g2, h.one y (List.mem_of_getElem? g1)⟩
theorem h_append (hT : TyOk C) (h : Rel C E Z φ s a w) {args : Array Operand} {ts : Array TypeId} {S : Callee} (ho : o.op = .call { callee := .builtin .append, args, argTypes := ts })
  (hq : hWp C S s (.call { callee := .builtin .append, args, argTypes := ts }) o.dst k) (hn : ∀ s' a' w', k s' → Holds C E s' a' w' → next a' w') : o.wp C.P a w next Q := by
 obtain ⟨args⟩ := args
 obtain ⟨ts⟩ := ts
 simp only [hWp] at hq
 split at hq
 ·rename_i xa xx t t'
  obtain ⟨va, hq, hva⟩ := h.opd hq
  obtain ⟨vx, hq, hvx⟩ := h.opd hq
  have hva := hva trivial
  have hvx := hvx trivial
  have hu := hT.und t
  split at hq
  ·have hte := ‹C.ty t = TD.slice _›
   rename_i e _
   rw [hte] at hu
   split at hq
   ·rename_i new no hsrc
    obtain ⟨h1, h2, h3, h4, h5, hq⟩ := hq
    have hkind := srcTy_kind hT h1
    obtain ⟨news, hS, hC⟩ := src_inv h hvx hsrc h2 h5 hkind
    obtain ⟨i, hi, hsz, hby, _⟩ := hT.info e (by omega)
    -- from the machine's append to the operation
    have done : ∀ {y : Value} {w' : World}, (Builtin.append_ #[t, t'] o.type #[a.eval xa, a.eval xx]).run C.P w = .ok y w' → next (a.put o.dst y) w' → o.wp C.P a w next Q := fun {y w'} hr hnx => by
     refine wp_value (x := y) (w' := w') ?_ hnx
     simp [execOp, ho, resolve, invoke, builtin, hr]
    -- a new row
    have grow : ∀ {p : Option Addr} {n c : Nat} {olds : List Value} {l : List PV} {oo : Bool}, Src C.P (C.size e) t' (.slice p n c) n olds w → Cont ⟨w, Z, E.w0.heap.size, φ⟩ (C.size e) l oo olds → l.length = n → c < n + new.length →
      (n + new.length) * (C.bytes e + 1) ≤ 70368744177664 → a.eval xa = .slice p n c → k (newRow s o.dst e (C.size e) (l ++ new) (oo || no) (n + new.length)) → o.wp C.P a w next Q := by
     intro p n c olds l oo hO hOc hl hg hbd hev hk
     obtain ⟨cap, cs, r1, r2, r3, r4, r5⟩ := run_append_new hT (t := t) (tx := t') (e := e) o.type hu h2 h3 p n c olds hO _ _ news hS hg hbd
     refine done (by rw [hev]; exact r1) (hn _ _ _ hk ?_)
     have hall := hOc.append hC
     have := h.drew.newRow (e := e) (sz := C.size e) (cap := cap) (l := l ++ new) (oo := oo || no) (cs := cs) r2 r3 (by rw [List.length_append]; omega) h2 hall.each ((hall.step h.drewLater).row r5) o.dst (n := n + new.length) (by rw [List.length_append]; omega)
     exact this
    split at hq
    ·-- to nothing
     obtain ⟨hb, hk⟩ := hq
     obtain ⟨p, n, c, hy, rfl, q2, q3, _⟩ := sl_inv hva
     have hc0 : c = 0 := q3 rfl
     subst hc0
     simp only [List.length_nil] at hy
     by_cases hne : new = []
     ·subst hne
      simp only [List.length_nil] at hS
      have hn0 : news = [] := List.eq_nil_of_length_eq_zero (by rw [hS.newsLen, Nat.zero_mul])
      subst hn0
      have := run_append_none t t' o.type e i hu hi p 0 (a.eval xx) (by rw [hsz]; exact hS)
      exact done (by rw [hy]; exact this) (hn _ _ _ hk (h.emptyRow e (C.size e) no o.dst p))
     ·have hO : Src C.P (C.size e) t' (.slice p 0 0) 0 [] w := by
       have := src_slice (w := w) (P := C.P) h2 hkind (p := p) (n := 0) (c := 0) (f := fun _ _ => undef) (fun j hj => by cases hj) (by simp [rowCells])
       simpa [rowCells] using this
      have hpos : 0 < new.length := List.length_pos_iff.2 hne
      have := grow (l := []) (oo := false) hO Cont.nil rfl (by omega) (by rw [Nat.zero_add]; exact hb) hy
      simp only [List.nil_append, Bool.false_or, Nat.zero_add] at this
      exact this hk
    ·-- to a slice without room
     rename_i z l o' _ _ _
     obtain ⟨g1, g2, g3, g4, hk⟩ := hq
     subst g1
     obtain ⟨p, n, c, hy, rfl, q2, q3, q4, _⟩ := sl_inv hva
     have hc0 : c = l.length := q3 rfl
     subst hc0
     obtain ⟨olds, hO, hOc⟩ := sl_src hva h2 (fun u hu => ⟨q4 u hu, g4 u hu⟩) hkind
     rw [hy] at hO
     have hpos : 0 < new.length := List.length_pos_iff.2 g3
     exact grow hO hOc rfl (by omega) g2 hy hk
    ·-- to an own row
     rename_i z id n _ _
     split at hq
     ·rename_i e' z' l o' hl
      obtain ⟨rfl, g1, g2, g3, hk⟩ := hq
      subst g1
      subst g2
      have hrep := h.heap.blk id _ hl
      obtain ⟨yv, hyv⟩ : ∃ y, a.eval xa = y := ⟨_, rfl⟩
      have hva' := hva
      rw [hyv] at hva
      -- the new block has the label
      have rgrow : ∀ {p : Option Addr} {c : Nat} {olds : List Value}, Src C.P (C.size e') t' (.slice p n c) n olds w → Cont ⟨w, Z, E.w0.heap.size, φ⟩ (C.size e') (l.take n) o' olds → (l.take n).length = n → c < n + new.length →
        yv = .slice p n c → o.wp C.P a w next Q := by
       intro p c olds hO hOc hln hg hev
       obtain ⟨cap, cs, r1, r2, r3, r4, r5⟩ := run_append_new hT (t := t) (tx := t') (e := e') o.type hu h2 h3 p n c olds hO _ _ news hS hg g3
       refine done (by rw [hyv, hev]; exact r1) (hn _ _ _ hk ?_)
       have hgr := grown_new w (.cells cs e')
       have hall := hOc.append hC
       have hlat : Later ⟨w, Z, E.w0.heap.size, φ⟩ ⟨w.drew.alloc (.cells cs e'), Z, E.w0.heap.size, fun i => if i = id then some (some w.heap.size, n + new.length) else φ i⟩ :=
        ⟨rfl, fun b hb => ⟨hb, hgr.block b (h.zlt b hb)⟩, fun b cs T hb => ⟨cs, (hgr.block b (lt_of_heap hb)).trans hb, rfl⟩⟩
       have hlen : (l.take n ++ new).length = n + new.length := by rw [List.length_append, hln]
       have hrel := h.rerow (w' := w.drew.alloc (.cells cs e')) (x := (some w.heap.size, n + new.length)) (bl := .row e' (C.size e') (l.take n ++ new) (o' || no)) hl hlat
        (fun i k m hi hk => by obtain ⟨bb, hb1, hb2⟩ := h.label hk; exact hgr.block k (hb2.lt k m hk)) (fun b hb _ j m hj hjm => by
         simp only [Option.some.injEq] at hb
         subst hb
         obtain ⟨bb, hb1, hb2⟩ := h.label hjm
         exact absurd (hb2.lt _ _ hjm) (Nat.lt_irrefl _))
        (.inr ⟨w.heap.size, cs, cap, by simp [hlen], h.notZ_new, .inr h.frame.size, .inr h.frame.size, get_alloc_new (w := w.drew), r2, r3, by omega, h2, hall.each, (hall.step hlat).row r5⟩)
        hgr.size ⟨hgr.os.trans h.frame.os, hgr.tape.trans h.frame.tape, hgr.output.trans h.frame.output, Nat.le_trans h.frame.size hgr.size, fun b hb hnb => (hgr.block b (Nat.lt_of_lt_of_le hb h.frame.size)).trans (h.frame.block b hb hnb), h.frame.shaped rfl hlat⟩ (fun l h => by cases h)
       refine ⟨Z, _, hrel.put o.dst fun t ht => ?_⟩
       have hz : (⟨w.heap.size, 0, none⟩ : Addr) = ⟨w.heap.size, 0 * C.size e', none⟩ := by simp
       rw [hz]
       exact .ref _ _ _ _ w.heap.size cap (n + new.length) (by simp) (by omega) (by omega) ⟨cs, e', get_alloc_new (w := w.drew), by rw [r2]; simp, by omega⟩
      cases hva with
      | ref _ _ _ _ b c m hb hnc hm hbb =>
       rcases hrep with ⟨e1, e2⟩ | ⟨b', cs, cap, e1, e2, e3, e4, e5, e6, e7, e8, e9, e10, e11⟩
       ·have := e1.symm.trans hb; simp at this
       ·have hbe := e1.symm.trans hb
        simp only [Option.some.injEq, Prod.mk.injEq] at hbe
        obtain ⟨rfl, rfl⟩ := hbe
        simp only at e1 e2 e3 e4 e5 e11
        obtain ⟨cs', T, q1, q2, q3⟩ := hbb
        simp only at q1
        rw [e5] at q1
        simp only [Option.some.injEq, Obj.cells.injEq] at q1
        obtain ⟨rfl, rfl, _⟩ := q1
        have hcc : cap = c := by
         rw [e6, Nat.zero_add] at q2
         exact Nat.eq_of_mul_eq_mul_right e9 q2
        subst hcc
        have hln : (l.take n).length = n := by rw [List.length_take]; omega
        -- what lies there
        obtain ⟨olds, hO, hOc⟩ := ref_src (R := ⟨w, Z, E.w0.heap.size, φ⟩) (own := E.own) (C := C) (.inl (h.heap.blk id _ hl)) (by rw [hyv] at hva'; exact hva') h2 hkind
        simp only [List.drop_zero] at hO hOc
        rw [hln] at hO
        simp only [Nat.zero_mul] at hO
        by_cases hroom : n + new.length ≤ cap
        ·-- in place
         have hr := run_append_in t t' o.type e' i hu hi b' n cap (a.eval xx) new.length news (by rw [hsz]; exact hS) hroom e5 (by rw [hsz, e6]; exact Nat.le_refl _)
         rw [hsz] at hr
         have hle1 : n * C.size e' + news.length ≤ cs.size := by
          have : (n + new.length) * C.size e' ≤ cap * C.size e' := Nat.mul_le_mul_right _ hroom
          rw [Nat.add_mul] at this
          rw [hS.newsLen, e6]; omega
         have hcs' := setAt_cells hle1
         refine done (by rw [hyv, Nat.zero_mul]; exact hr) (hn _ _ _ hk ?_)
         have hlat := later_setRow h e5 hcs' e2 (fun i => if i = id then some (some b', n + new.length) else φ i)
         have hlen : (l.take n ++ new).length = n + new.length := by rw [List.length_append, hln]
         -- the new cells
         have holds : olds = cs.toList.take (n * C.size e') := by
          have hc1 := hO.cells
          have hc2 : (Builtin.firstCells (C.size e') n (.slice (some ⟨b', 0, none⟩) n cap)).run C.P w = .ok (cs.toList.take (n * C.size e')).toArray w := by
           refine run_firstCells_some w (C.size e') n _ n cap _ (by rw [List.length_take, Array.length_toList]; omega) (fun j v hj => ?_)
           rw [List.getElem?_take] at hj
           split at hj
           ·rw [Array.getElem?_toList] at hj
            rw [Addr.add_lit]
            simp only [World.cell?, e5, Nat.zero_add]
            exact hj
           ·cases hj
          rw [hc2] at hc1
          have hc3 := (Result.ok.inj hc1).1
          exact (congrArg Array.toList hc3).symm
         have hall := (hOc.append hC).step hlat
         have hrel := h.rerow (w' := w.setRow b' (cs.toList.take (n * C.size e') ++ news ++ cs.toList.drop (n * C.size e' + news.length)).toArray) (x := (some b', n + new.length)) (bl := .row e' (C.size e') (l.take n ++ new) (o' || no)) hl hlat
          (fun i q m' hi hk => heap_setRow_ne (fun e => hi (by subst e; exact h.heap.inj _ _ _ _ _ e2 hk e1)))
          (fun b hb _ j m' hj hjm => by
           simp only [Option.some.injEq] at hb
           subst hb
           exact hj (h.heap.inj _ _ _ _ _ e2 hjm e1))
          (.inr ⟨b', _, cap, by simp [hlen], e2, e3, by rcases e4 with e4 | e4; exact .inl (by simp [e4]); exact .inr e4, setRow_heap w b' cs _ e' (0, 0) e5, by rw [hcs', e6], e7, by omega, h2, hall.each, hall.row fun j hj => by
           rw [holds] at hj ⊢
           rw [List.getElem?_toArray, List.getElem?_append_left hj]⟩)
          (by rw [size_setRow]; exact Nat.le_refl _)
          ⟨h.frame.os, h.frame.tape, h.frame.output, by rw [size_setRow]; exact h.frame.size, fun i hi hni => by
           have : i ≠ b' := by
            rintro rfl
            rcases e3 with ho | ho
            ·exact hni ho
            ·omega
           rw [heap_setRow_ne this]
           exact h.frame.block i hi hni, h.frame.shaped rfl hlat⟩ (fun l h => by cases h)
         refine ⟨Z, _, hrel.put o.dst fun t ht => ?_⟩
         have hz : (⟨b', 0, none⟩ : Addr) = ⟨b', 0 * C.size e', none⟩ := by simp
         rw [hz]
         exact .ref _ _ _ _ b' cap (n + new.length) (by simp) (by omega) (by omega) ⟨_, e', setRow_heap w b' cs _ e' (0, 0) e5, by rw [hcs']; exact q2, by omega⟩
        ·exact rgrow hO hOc hln (by omega) (by simp)
      | ref0 _ _ p hb =>
       rcases hrep with ⟨e1, e2⟩ | ⟨b', cs, cap, e1, _⟩
       ·subst e2
        by_cases hne : new = []
        ·subst hne
         simp only [List.length_nil] at hS
         have hn0 : news = [] := List.eq_nil_of_length_eq_zero (by rw [hS.newsLen, Nat.zero_mul])
         subst hn0
         have hr := run_append_none t t' o.type e' i hu hi p 0 (a.eval xx) (by rw [hsz]; exact hS)
         refine done (by rw [hyv]; exact hr) (hn _ _ _ hk ?_)
         have hlat : Later ⟨w, Z, E.w0.heap.size, φ⟩ ⟨w, Z, E.w0.heap.size, fun i => if i = id then some (none, 0) else φ i⟩ := ⟨rfl, fun b hb => ⟨hb, rfl⟩, fun b cs T hb => ⟨cs, hb, rfl⟩⟩
         have hrel := h.rerow (w' := w) (x := (none, 0)) (bl := .row e' (C.size e') (([] : List PV).take 0 ++ []) (o' || no)) hl hlat (fun _ _ _ _ _ => rfl) (fun b hb => by cases hb) (.inl ⟨by simp, by simp⟩) (Nat.le_refl _) h.frame (fun l h => by cases h)
         exact ⟨Z, _, hrel.put o.dst fun t ht => .ref0 _ _ _ (by simp)⟩
        ·have hO : Src C.P (C.size e') t' (.slice p 0 0) 0 [] w := by
          have := src_slice (w := w) (P := C.P) h2 hkind (p := p) (n := 0) (c := 0) (f := fun _ _ => undef) (fun j hj => by cases hj) (by simp [rowCells])
          simpa [rowCells] using this
         have hpos : 0 < new.length := List.length_pos_iff.2 hne
         exact rgrow hO (by simpa using Cont.nil) (by simp) (by omega) rfl
       ·have := e1.symm.trans hb; simp at this
     ·exact hq.elim
    ·exact hq.elim
   ·exact hq.elim
  ·exact hq.elim
 ·exact hq.elim
end Go.Vc
namespace Go.Vc
open Go
variable {C : Ctx} {E : Env} {Z : Nat → Prop} {φ : Phi} {s : St} {a : Act} {w : World} {o : Oper} {k : St → Prop} {next : Act → World → Prop} {Q : Exit → Act → World → Prop}
theorem h_convert (hT : TyOk C) (h : Rel C E Z φ s a w) {src dt : TypeId} {x : Operand} {S : Callee} (ho : o.op = .convert src dt x) (hq : hWp C S s (.convert src dt x) o.dst k)
  (hn : ∀ s' a' w', k s' → Holds C E s' a' w' → next a' w') : o.wp C.P a w next Q := by
 simp only [hWp] at hq
 obtain ⟨v, hq, hv⟩ := h.opd hq
 have hv := hv trivial
 have hu := hT.und src
 have hd := hT.und dt
 split at hq
 ·rename_i e hs hd'
  rw [hs] at hu
  rw [hd'] at hd
  have hue := hT.und e
  split at hq
  ·rename_i l oo he hsrc
   rw [he] at hue
   obtain ⟨h1, h2, hk⟩ := hq
   obtain ⟨cs, hS, hC⟩ := src_inv (sz := 1) (tx := src) h hv hsrc (Nat.succ_pos 0) (fun u hu => by obtain ⟨n, rfl⟩ := h2 u hu; exact ⟨rfl, rfl⟩) (.inl ⟨e, hu⟩)
   -- the numbers
   obtain ⟨ns, rfl⟩ : ∃ ns : List Int, l = ns.map (PV.int .u8) := by
    clear hS hC hsrc hk
    induction l with
    | nil => exact ⟨[], rfl⟩
    | cons u r ih =>
     obtain ⟨n, rfl⟩ := h2 u (List.mem_cons_self ..)
     obtain ⟨ns, rfl⟩ := ih fun u hu => h2 u (List.mem_cons_of_mem _ hu)
     exact ⟨n :: ns, rfl⟩
   have hcs : cs = ns.map (Value.int .u8) := by
    apply List.ext_getElem?
    intro i
    have hl := hC.len
    simp only [List.length_map, Nat.mul_one] at hl
    by_cases hi : i < ns.length
    ·obtain ⟨y, g1, g2⟩ := hC.rep i 0 (.int .u8 ns[i]) (.int .u8 ns[i]) (by simp [hi]) rfl
     simp only [Nat.mul_one, Nat.add_zero] at g1
     rw [g1]
     cases g2
     simp [hi]
    ·rw [List.getElem?_eq_none (by omega), List.getElem?_eq_none (by simp; omega)]
   obtain ⟨y, hy⟩ : ∃ y, a.eval x = y := ⟨_, rfl⟩
   rw [hy] at hv hS
   obtain ⟨p, n, c, hyv⟩ : ∃ p n c, y = .slice p n c := by
    unfold srcOf at hsrc
    split at hsrc
    ·obtain ⟨p, n, c, e1, _⟩ := sl_inv hv
     exact ⟨p, n, c, e1⟩
    ·cases hv with
     | ref => exact ⟨_, _, _, rfl⟩
     | ref0 => exact ⟨_, _, _, rfl⟩
    ·simp [PV.isStr] at h1
    ·cases hsrc
   subst hyv
   have hlen := hS.len w
   simp only [Builtin.lenOf, Sem.run_pure, Result.ok.injEq, and_true] at hlen
   subst hlen
   have hc := hS.cells
   have key : ∃ b : ByteArray, (Conv.bytesToString (.slice p (ns.map (PV.int .u8)).length c)).run C.P w = .ok (.string b) w ∧ b.data.toList = ns.map fun n => UInt8.ofNat n.toNat := by
    cases p with
    | some ad =>
     simp only [Builtin.firstCells, Nat.mul_one] at hc
     rw [hcs] at hc
     refine ⟨_, run_bytesToString w ad _ c ns (by simpa using hc), ?_⟩
     rw [foldl_push_bytes]
     show ((#[] : Array UInt8) ++ (ns.map fun n => UInt8.ofNat n.toNat).toArray).toList = _
     rw [Array.empty_append]
    | none =>
     simp only [Builtin.firstCells, Sem.run_pure, Result.ok.injEq, and_true] at hc
     have : cs = [] := (congrArg Array.toList hc).symm
     rw [this] at hcs
     have hns : ns = [] := List.map_eq_nil_iff.1 hcs.symm
     subst hns
     exact ⟨ByteArray.empty, by simp [Conv.bytesToString], rfl⟩
   obtain ⟨b, r1, r2⟩ := key
   refine wp_value (x := .string b) (w' := w) ?_ (hn _ _ _ hk ⟨Z, φ, h.put o.dst fun t ht => .str _ _ ?_⟩)
   ·have := run_convert_bytes_string (P := C.P) w src dt e p (ns.map (PV.int .u8)).length c hu hue hd
    simp only [execOp, ho, hy]
    simp only [Sem.run_bind, this, r1]
    rfl
   ·rw [r2, List.map_map]; rfl
  ·exact hq.elim
 ·rename_i e hs hd'
  rw [hs] at hu
  rw [hd'] at hd
  have hue := hT.und e
  split at hq
  ·rename_i l he _
   rw [he] at hue
   obtain ⟨h1, h2, hk⟩ := hq
   obtain ⟨b, hb, hbl⟩ := hv.str_inv
   subst hbl
   have hbs : b.data.toList.length = b.size := by rw [Array.length_toList]; rfl
   have hr := Lib.run_convert_string_bytes (P := C.P) w src dt e b hu hd hue
   obtain ⟨hlat, hrel⟩ := h.extend (w' := Lib.bytesWorld w e b) ⟨rfl, rfl, rfl, by rw [Lib.bytesWorld_size]; omega, fun i hi => Lib.bytesWorld_at_old w e b i hi⟩ (Z' := fun i => Z i ∨ i = w.heap.size) (fun i hi => .inl hi) (fun i hi => by
    rcases hi with hi | rfl
    ·exact .inl hi
    ·exact .inr ⟨Nat.le_refl _, by rw [Lib.bytesWorld_size]; omega⟩)
   refine wp_value (x := .slice (some ⟨w.heap.size, 0, none⟩) b.size (grownCap w b.size 0 e)) (w' := Lib.bytesWorld w e b) (by simp only [execOp, ho, hb, Sem.run_bind, hr]; rfl) (hn _ _ _ hk ⟨_, φ, hrel.put o.dst fun t ht => ?_⟩)
   refine .sl _ _ _ _ _ (.sl _ _ _ _ _ _ _ (fun j _ => .int .u8 (b.data.toList.getD j 0).toNat) (by simp [hbs]) (by rw [List.length_map, hbs]; exact grownCap_ge ..) (fun h => by cases h) (fun x hx => by obtain ⟨_, _, rfl⟩ := List.mem_map.1 hx; rfl) (fun j hj => ?_) (fun j i x u hx hu => ?_))
   ·rw [List.length_map, hbs] at hj
    refine ⟨_, rfl, ⟨.inr rfl, .inr h.frame.size⟩, rfl, fun i hi => ?_⟩
    have hi0 : i = 0 := by omega
    subst hi0
    simpa using Lib.bytesWorld_cell w e b j hj
   ·rw [List.getElem?_map, Option.map_eq_some_iff] at hx
    obtain ⟨c, hc, rfl⟩ := hx
    cases i with
    | zero =>
     simp only [PV.cells, List.getElem?_cons_zero, Option.some.injEq] at hu
     subst hu
     have : b.data.toList.getD j 0 = c := by rw [List.getD_eq_getElem?_getD, hc]; rfl
     rw [this]
     exact .int _ _
    | succ i => simp [PV.cells] at hu
  ·exact hq.elim
 ·exact hq.elim
theorem freeze_other {i id : Nat} (hne : i ≠ id) (h : List (Nat × Blk)) : lookB id (freeze i h) = lookB id h := by
 unfold freeze
 split
 ·rw [lookB_upd, if_neg (Ne.symm hne)]
 ·rfl
theorem freezeAll_other {id : Nat} : ∀ (us : List PV) (h : List (Nat × Blk)), us.all (PV.notRef id) = true → lookB id (freezeAll us h) = lookB id h
 | [], h, _ => rfl
 | u :: r, h, hu => by
  simp only [List.all_cons, Bool.and_eq_true] at hu
  cases u <;> simp only [freezeAll] <;> first | exact freezeAll_other r h hu.2 | skip
  rw [freezeAll_other r _ hu.2, freeze_other]
  simpa [PV.notRef] using hu.1
theorem putElem_cells {x : PV} {off : Nat} {cs : List PV} (h : off + cs.length ≤ x.cells.length) (h0 : 0 < cs.length) (hf : cs.all PV.flat = true) : (putElem x off cs).cells = setAt x.cells off cs := by
 have key : x.cells.length = 1 → (nth cs 0).cells = setAt x.cells off cs := fun hx => by
  have h1 : cs.length = 1 := by omega
  have h2 : off = 0 := by omega
  subst h2
  obtain ⟨c, rfl⟩ := List.length_eq_one_iff.1 h1
  obtain ⟨d, hd⟩ := List.length_eq_one_iff.1 hx
  simp only [List.all_cons, List.all_nil, Bool.and_true] at hf
  rw [hd]
  show c.cells = _
  cases c <;> simp [PV.flat] at hf <;> rfl
 cases x <;> first | exact key rfl | skip
 rfl
theorem h_store_eptr (hT : TyOk C) (h : Rel C E Z φ s a w) {t : TypeId} {p x : Operand} (ho : o.op = .store t p x) {z id j off : Nat} {v : PV} {e z' : Nat} {l : List PV} {oo : Bool} (hz : 0 < C.size t)
  (hp : Rep ⟨w, Z, E.w0.heap.size, φ⟩ (.eptr z id j off) (a.eval p)) (hv : Rep ⟨w, Z, E.w0.heap.size, φ⟩ v (a.eval x)) (h1 : v.cells.length = C.size t) (h2 : v.cells.all PV.one = true) (hl : lookB id s.heap = some (.row e z' l oo))
  (hzz : z = z') (hoff : off + C.size t ≤ z) (hj : j < l.length) (hf : (v.cells.map (readCell s.heap)).all PV.flat = true) (hnr : v.cells.all (PV.notRef id) = true)
  (hk : k ({ s with heap := updB id (.row e z (l.set j (putElem (nth l j) off (v.cells.map (readCell s.heap)))) (oo || (v.cells.map (readCell s.heap)).any PV.old)) (freezeAll v.cells s.heap) }.put o.dst .undef))
  (hn : ∀ s' a' w', k s' → Holds C E s' a' w' → next a' w') : o.wp C.P a w next Q := by
 subst hzz
 obtain ⟨ys, e1, e2, e3, e4⟩ := rep_cells hv h2
 obtain ⟨y, hy⟩ : ∃ y, a.eval p = y := ⟨_, rfl⟩
 rw [hy] at hp
 cases hp with
 | eptr _ _ _ _ b m hb =>
  obtain ⟨Z', hZ, hr⟩ := h.freezeAll v.cells
  have hl' : lookB id (freezeAll v.cells s.heap) = some (.row e z l oo) := by rw [freezeAll_other _ _ hnr]; exact hl
  rcases hr.heap.blk id _ hl' with ⟨g1, g2⟩ | ⟨b', cs, cap, g1, g2, g3, g4, g5, g6, g7, g8, g9, g10, g11⟩
  ·have := g1.symm.trans hb; simp at this
  ·have hbe := g1.symm.trans hb
   simp only [Option.some.injEq, Prod.mk.injEq] at hbe
   obtain ⟨rfl, rfl⟩ := hbe
   simp only at g1 g2 g3 g4 g5 g11
   have hys : ys.length = C.size t := by omega
   have hjc : j * z + off + ys.length ≤ cs.size := by
    have : (j + 1) * z ≤ cap * z := Nat.mul_le_mul_right _ (by omega)
    rw [Nat.add_mul] at this
    rw [g6]; omega
   have hst := run_storeCells_at C.P b' (j * z + off) e ys 0 cs w g5 (by simpa using hjc) e4
   simp only [Nat.add_zero] at hst
   have hcs' := setAt_cells hjc
   have hj10 : (nth l j).cells.length = z := by
    have : nth l j = l[j] := by unfold nth; rw [List.getD_eq_getElem?_getD, List.getElem?_eq_getElem hj]; rfl
    rw [this]; exact g10 _ (List.getElem_mem _)
   have hpc := putElem_cells (x := nth l j) (off := off) (cs := v.cells.map (readCell s.heap)) (by rw [List.length_map, hj10]; omega) (by rw [List.length_map]; omega) hf
   have hmk : ∀ i, i ≠ j → (l.set j (putElem (nth l j) off (v.cells.map (readCell s.heap))))[i]? = l[i]? := fun i hi => List.getElem?_set_ne (Ne.symm hi)
   have hflat : ∀ (i : Nat) u y, v.cells[i]? = some u → ys[i]? = some y → Rep0 w ((RC.mk w Z' E.w0.heap.size φ).Zc (readCell s.heap u).old) (readCell s.heap u) y ∧ y.oneCell' = true := fun i u y hu hy =>
    h.readFlat hr hZ (List.mem_of_getElem? hu) (e3 i u y hu hy) (List.all_eq_true.1 hf _ (List.mem_map.2 ⟨u, List.mem_of_getElem? hu, rfl⟩))
   have hrel := hr.write (cs' := (cs.toList.take (j * z + off) ++ ys ++ cs.toList.drop (j * z + off + ys.length)).toArray)
    (bl := .row e z (l.set j (putElem (nth l j) off (v.cells.map (readCell s.heap)))) (oo || (v.cells.map (readCell s.heap)).any PV.old)) g1 g5 hcs' g2 g3 (fun l hl2 => by rw [hl'] at hl2; cases hl2) (fun hlat => by
    refine .inr ⟨b', _, cap, by rw [List.length_set]; exact g1, g2, g3, by rcases g4 with g4 | g4; exact .inl (by simp [g4]); exact .inr g4, setRow_heap w b' cs _ e (0, 0) g5, by rw [hcs', g6], g7, by rw [List.length_set]; exact g8, g9, fun x hx => ?_, fun q i x u hx hu => ?_⟩
    ·rcases List.mem_or_eq_of_mem_set hx with hx | rfl
     ·exact g10 x hx
     ·rw [hpc]; unfold setAt; simp; omega
    ·have hil : i < z := by
      have hi := (List.getElem?_eq_some_iff.1 hu).1
      rcases List.mem_or_eq_of_mem_set (List.mem_of_getElem? hx) with hx | rfl
      ·rw [g10 x hx] at hi; exact hi
      ·rw [hpc] at hi; unfold setAt at hi; simp at hi; omega
     have hql : q < l.length := by have := (List.getElem?_eq_some_iff.1 hx).1; rwa [List.length_set] at this
     -- what stays
     have old : ∀ (x u : PV), l[q]? = some x → x.cells[i]? = some u → (q * z + i < j * z + off ∨ j * z + off + ys.length ≤ q * z + i) → ∃ y, (cs.toList.take (j * z + off) ++ ys ++ cs.toList.drop (j * z + off + ys.length)).toArray[q * z + i]? = some y ∧
       Rep0 (w.setRow b' (cs.toList.take (j * z + off) ++ ys ++ cs.toList.drop (j * z + off + ys.length)).toArray) ((RC.mk (w.setRow b' (cs.toList.take (j * z + off) ++ ys ++ cs.toList.drop (j * z + off + ys.length)).toArray) Z' E.w0.heap.size φ).Zc (oo || (v.cells.map (readCell s.heap)).any PV.old)) u y ∧ y.oneCell' = true := by
      intro x u hx hu hout
      obtain ⟨y, q1, q2, q3⟩ := g11 q i x u hx hu
      refine ⟨y, ?_, (q2.step (hlat.Zc oo)).step fun c hc => ⟨Zc_mono (by intro e; simp [e]) c hc, rfl⟩, q3⟩
      have htl : (cs.toList.take (j * z + off)).length = j * z + off := by rw [List.length_take, Array.length_toList]; omega
      rcases hout with hlt | hge
      ·rw [List.getElem?_toArray, List.append_assoc, List.getElem?_append_left (by omega), List.getElem?_take, if_pos hlt, Array.getElem?_toList]; exact q1
      ·rw [List.getElem?_toArray, List.getElem?_append_right (by rw [List.length_append]; omega), List.length_append, htl, List.getElem?_drop]
       have : j * z + off + ys.length + (q * z + i - (j * z + off + ys.length)) = q * z + i := by omega
       rw [this, Array.getElem?_toList]; exact q1
     by_cases hqj : q = j
     ·subst hqj
      rw [List.getElem?_set_self hql] at hx
      simp only [Option.some.injEq] at hx
      subst hx
      rw [hpc] at hu
      have hnl : l[q]? = some (nth l q) := by unfold nth; rw [List.getD_eq_getElem?_getD, List.getElem?_eq_getElem hql]; rfl
      have htk : ((nth l q).cells.take off).length = off := by rw [List.length_take]; omega
      unfold setAt at hu
      rw [List.length_map] at hu
      by_cases hlt : i < off
      ·rw [List.append_assoc, List.getElem?_append_left (by omega), List.getElem?_take, if_pos hlt] at hu
       exact old _ u hnl hu (.inl (by omega))
      ·by_cases hge : off + v.cells.length ≤ i
       ·rw [List.getElem?_append_right (by rw [List.length_append, List.length_map]; omega), List.length_append, htk, List.length_map, List.getElem?_drop] at hu
        have : off + v.cells.length + (i - (off + v.cells.length)) = i := by omega
        rw [this] at hu
        exact old _ u hnl hu (.inr (by omega))
       ·rw [List.getElem?_append_left (by rw [List.length_append, List.length_map]; omega), List.getElem?_append_right (by omega), htk, List.getElem?_map, Option.map_eq_some_iff] at hu
        obtain ⟨u0, hu0, rfl⟩ := hu
        have hiy : i - off < ys.length := by rw [← e2]; exact (List.getElem?_eq_some_iff.1 hu0).1
        obtain ⟨r1, r2⟩ := hflat (i - off) u0 ys[i - off] hu0 (List.getElem?_eq_getElem hiy)
        refine ⟨ys[i - off], ?_, (r1.step (hlat.Zc _)).step fun c hc => ⟨Zc_mono (fun ht => by
         have : (v.cells.map (readCell s.heap)).any PV.old = true := List.any_eq_true.2 ⟨_, List.mem_map.2 ⟨u0, List.mem_of_getElem? hu0, rfl⟩, ht⟩
         rw [this, Bool.or_true]) c hc, rfl⟩, r2⟩
        have htl : (cs.toList.take (q * z + off)).length = q * z + off := by rw [List.length_take, Array.length_toList]; omega
        rw [List.getElem?_toArray, List.append_assoc, List.getElem?_append_right (by omega), htl, List.getElem?_append_left (by omega)]
        have : q * z + i - (q * z + off) = i - off := by omega
        rw [this]; exact List.getElem?_eq_getElem hiy
     ·rw [hmk q hqj] at hx
      refine old x u hx hu ?_
      rcases Nat.lt_or_gt_of_ne hqj with hlt | hgt
      ·have : (q + 1) * z ≤ j * z := Nat.mul_le_mul_right _ hlt
       rw [Nat.add_mul] at this; omega
      ·have : (j + 1) * z ≤ q * z := Nat.mul_le_mul_right _ hgt
       rw [Nat.add_mul] at this; omega)
   refine wp_skipped ?_ (hn _ _ _ hk ⟨Z', φ, hrel.put o.dst fun _ _ => .undef _⟩)
   simp [execOp, ho, hy, Instr.storeAt, Instr.sureAddr, storeVar, run_size hT hz, e1, hys, hst]
end Go.Vc
namespace Go.Vc
open Go
theorem mapLL_get (σ : Nat → Nat) : ∀ (l : List PV) (k : Nat), (mapLL σ l)[k]? = (l[k]?).map (PV.mapL σ)
 | [], k => by simp [mapLL]
 | v :: r, 0 => by simp [mapLL]
 | v :: r, k + 1 => by simp [mapLL, mapLL_get σ r k]
theorem mapLL_len (σ : Nat → Nat) : ∀ (l : List PV), (mapLL σ l).length = l.length
 | [] => by simp [mapLL]
 | v :: r => by simp [mapLL, mapLL_len σ r]
theorem sentL_get (σ : Nat → Nat) : ∀ (l : List PV) (k : Nat), (sentL σ l)[k]? = (l[k]?).map (PV.sent σ)
 | [], k => by simp [sentL]
 | v :: r, 0 => by simp [sentL]
 | v :: r, k + 1 => by simp [sentL, sentL_get σ r k]
theorem sentL_len (σ : Nat → Nat) : ∀ (l : List PV), (sentL σ l).length = l.length
 | [] => by simp [sentL]
 | v :: r => by simp [sentL, sentL_len σ r]
theorem labs_mem : ∀ (l : List PV) (k : Nat) (u : PV) (i : Nat), l[k]? = some u → i ∈ u.labs → i ∈ labsL l
 | [], k, u, i, h, _ => by simp at h
 | v :: r, 0, u, i, h, hi => by
  simp only [List.getElem?_cons_zero, Option.some.injEq] at h
  subst h
  simp only [labsL, List.mem_append]; exact .inl hi
 | v :: r, k + 1, u, i, h, hi => by
  simp only [List.getElem?_cons_succ] at h
  simp only [labsL, List.mem_append]
  exact .inr (labs_mem r k u i h hi)
theorem Rep.enter {R R' : RC} (hw : R'.w = R.w) (hZ : ∀ b, R.Z b → R'.Z b) (σ : Nat → Nat) {K : Nat → Prop} (hφ : ∀ id x, K id → R.φ id = some x → R'.φ (σ id) = some x) {v : PV} {x : Value} (h : Rep R v x) (hv : ∀ i ∈ v.labs, K i) :
  Rep R' (v.sent σ) x := by
 have up : ∀ (o : Bool) b, R.Zc o b → R'.Zc true b ∧ R'.w.heap[b]? = R.w.heap[b]? := fun o b hb => ⟨⟨hZ b hb.1, .inl rfl⟩, by rw [hw]⟩
 induction h with
 | int k n => simp only [PV.sent]; exact .int k n
 | bool b => simp only [PV.sent]; exact .bool b
 | str l s h => simp only [PV.sent]; exact .str l s h
 | raw v => simp only [PV.sent]; exact .raw v
 | fn f first caps fv cv h1 h2 h3 h4 ih3 ih4 =>
  simp only [PV.sent]
  refine .fn f _ _ fv cv (by rw [sentL_len]; exact h1) (by rw [sentL_len]; exact h2) (fun k u x hu hx => ?_) (fun k u x hu hx => ?_)
  ·rw [sentL_get, Option.map_eq_some_iff] at hu
   obtain ⟨u', hu', rfl⟩ := hu
   exact ih3 k u' x hu' hx fun i hi => hv i (by simp only [PV.labs, List.mem_append]; exact .inl (labs_mem _ _ _ _ hu' hi))
  ·rw [sentL_get, Option.map_eq_some_iff] at hu
   obtain ⟨u', hu', rfl⟩ := hu
   exact ih4 k u' x hu' hx fun i hi => hv i (by simp only [PV.labs, List.mem_append]; exact .inr (labs_mem _ _ _ _ hu' hi))
 | ptr id off b m h => simp only [PV.sent]; exact .ptr _ off b m (hφ _ _ (hv id (by simp [PV.labs])) h)
 | eptr sz id j off b m h => simp only [PV.sent]; exact .eptr sz _ j off b m (hφ _ _ (hv id (by simp [PV.labs])) h)
 | ro l off o b p cs hb hm he =>
  simp only [PV.sent]
  exact .ro l off true b p cs (up o b hb).1 (fun i hi => by rw [← hm i hi, hw]) (fun i u hu => (he i u hu).step (up o))
 | sl sz l t o x h =>
  simp only [PV.sent]
  have := h.step (Z' := R'.Zc true) (w' := R'.w) (up o)
  cases this with
  | sl _ _ _ _ a n c cs hn hc ht hz hm he => exact .sl sz l t true _ (.sl sz l t true a n c cs hn hc ht hz hm he)
 | ref sz id lo n b c m h hn hm hb =>
  simp only [PV.sent]
  exact .ref sz _ lo n b c m (hφ _ _ (hv id (by simp [PV.labs])) h) hn hm (by rw [hw]; exact hb)
 | ref0 sz id a h => simp only [PV.sent]; exact .ref0 sz _ a (hφ _ _ (hv id (by simp [PV.labs])) h)
 | agg l cs h h1 ih =>
  simp only [PV.sent]
  refine .agg _ cs (by rw [sentL_len]; exact h) fun k u x hu hx => ?_
  rw [sentL_get, Option.map_eq_some_iff] at hu
  obtain ⟨u', hu', rfl⟩ := hu
  exact ih k u' x hu' hx fun i hi => hv i (by simp only [PV.labs]; exact labs_mem _ _ _ _ hu' hi)
 | tup l cs h h1 ih =>
  simp only [PV.sent]
  refine .tup _ cs (by rw [sentL_len]; exact h) fun k u x hu hx => ?_
  rw [sentL_get, Option.map_eq_some_iff] at hu
  obtain ⟨u', hu', rfl⟩ := hu
  exact ih k u' x hu' hx fun i hi => hv i (by simp only [PV.labs]; exact labs_mem _ _ _ _ hu' hi)
 | cond c v x h h2 ih => simp only [PV.sent]; exact .cond c _ x (fun hc => ih hc hv) h2
 | undef x => simp only [PV.sent]; exact .undef x
theorem Rep.moved {R R' : RC} (hZ : ∀ o b, R.Zc o b → R'.Zc o b ∧ R'.w.heap[b]? = R.w.heap[b]?) (σ : Nat → Nat) {K : Nat → Prop}
  (hφ : ∀ id x, K id → R.φ id = some x → R'.φ (σ id) = some x ∧ ∀ b, x.1 = some b → ∀ (cs : Array Value) (T : TypeId), R.w.heap[b]? = some (.cells cs T (0, 0)) → ∃ cs' : Array Value, R'.w.heap[b]? = some (.cells cs' T (0, 0)) ∧ cs'.size = cs.size)
  {v : PV} {x : Value} (h : Rep R v x) (hv : ∀ i ∈ v.labs, K i) : Rep R' (v.mapL σ) x := by
 induction h with
 | int k n => simp only [PV.mapL]; exact .int k n
 | bool b => simp only [PV.mapL]; exact .bool b
 | str l s h => simp only [PV.mapL]; exact .str l s h
 | raw v => simp only [PV.mapL]; exact .raw v
 | fn f first caps fv cv h1 h2 h3 h4 ih3 ih4 =>
  simp only [PV.mapL]
  refine .fn f _ _ fv cv (by rw [mapLL_len]; exact h1) (by rw [mapLL_len]; exact h2) (fun k u x hu hx => ?_) (fun k u x hu hx => ?_)
  ·rw [mapLL_get, Option.map_eq_some_iff] at hu
   obtain ⟨u', hu', rfl⟩ := hu
   exact ih3 k u' x hu' hx fun i hi => hv i (by simp only [PV.labs, List.mem_append]; exact .inl (labs_mem _ _ _ _ hu' hi))
  ·rw [mapLL_get, Option.map_eq_some_iff] at hu
   obtain ⟨u', hu', rfl⟩ := hu
   exact ih4 k u' x hu' hx fun i hi => hv i (by simp only [PV.labs, List.mem_append]; exact .inr (labs_mem _ _ _ _ hu' hi))
 | ptr id off b m h => simp only [PV.mapL]; exact .ptr _ off b m (hφ _ _ (hv id (by simp [PV.labs])) h).1
 | eptr sz id j off b m h => simp only [PV.mapL]; exact .eptr sz _ j off b m (hφ _ _ (hv id (by simp [PV.labs])) h).1
 | ro l off o b p cs hb hm he =>
  simp only [PV.mapL]
  exact .ro l off o b p cs (hZ o b hb).1 (fun i hi => by rw [← hm i hi]; exact World.cell?_of_block (a := ⟨b, p + i, none⟩) (hZ o b hb).2) (fun i u hu => (he i u hu).step (hZ o))
 | sl sz l t o x h => simp only [PV.mapL]; exact .sl sz l t o x (h.step (hZ o))
 | ref sz id lo n b c m h hn hm hb =>
  simp only [PV.mapL]
  obtain ⟨g1, g2⟩ := hφ _ _ (hv id (by simp [PV.labs])) h
  obtain ⟨cs, T, h1, h2, h3⟩ := hb
  obtain ⟨cs', h4, h5⟩ := g2 b rfl cs T h1
  exact .ref sz _ lo n b c m g1 hn hm ⟨cs', T, h4, h5.trans h2, h3⟩
 | ref0 sz id a h => simp only [PV.mapL]; exact .ref0 sz _ a (hφ _ _ (hv id (by simp [PV.labs])) h).1
 | agg l cs h h1 ih =>
  simp only [PV.mapL]
  refine .agg _ cs (by rw [mapLL_len]; exact h) fun k u x hu hx => ?_
  rw [mapLL_get, Option.map_eq_some_iff] at hu
  obtain ⟨u', hu', rfl⟩ := hu
  exact ih k u' x hu' hx fun i hi => hv i (by simp only [PV.labs]; exact labs_mem _ _ _ _ hu' hi)
 | tup l cs h h1 ih =>
  simp only [PV.mapL]
  refine .tup _ cs (by rw [mapLL_len]; exact h) fun k u x hu hx => ?_
  rw [mapLL_get, Option.map_eq_some_iff] at hu
  obtain ⟨u', hu', rfl⟩ := hu
  exact ih k u' x hu' hx fun i hi => hv i (by simp only [PV.labs]; exact labs_mem _ _ _ _ hu' hi)
 | cond c v x h h2 ih => simp only [PV.mapL]; exact .cond c _ x (fun hc => ih hc hv) h2
 | undef x => simp only [PV.mapL]; exact .undef x
mutual
theorem mapL_id : ∀ (v : PV), v.mapL id = v
 | .ref .. | .eptr .. | .ptr .. | .int .. | .bool _ | .str _ | .raw _ | .ro .. | .sl .. | .undef => by simp [PV.mapL]
 | .agg l => by simp [PV.mapL, mapLL_id l]
 | .tup l => by simp [PV.mapL, mapLL_id l]
 | .fn f x y => by simp [PV.mapL, mapLL_id x, mapLL_id y]
 | .cond c v => by simp [PV.mapL, mapL_id v]
theorem mapLL_id : ∀ (l : List PV), mapLL id l = l
 | [] => by simp [mapLL]
 | v :: r => by simp [mapLL, mapL_id v, mapLL_id r]
end
theorem Rep.stay {R R' : RC} (hZ : ∀ o b, R.Zc o b → R'.Zc o b ∧ R'.w.heap[b]? = R.w.heap[b]?) {K : Nat → Prop}
  (hφ : ∀ id x, K id → R.φ id = some x → R'.φ id = some x ∧ ∀ b, x.1 = some b → ∀ (cs : Array Value) (T : TypeId), R.w.heap[b]? = some (.cells cs T (0, 0)) → ∃ cs' : Array Value, R'.w.heap[b]? = some (.cells cs' T (0, 0)) ∧ cs'.size = cs.size)
  {v : PV} {x : Value} (h : Rep R v x) (hv : ∀ i ∈ v.labs, K i) : Rep R' v x := by
 have := h.moved hZ id hφ hv
 rwa [mapL_id] at this
theorem Rep.new1 {w : World} {Z Z' : Nat → Prop} {B : Nat} {φ : Phi} (hZ : ∀ b, Z b → B ≤ b → Z' b) {v : PV} {x : Value} (h : Rep ⟨w, Z, B, φ⟩ v x) (hv : v.new1 = true) : Rep ⟨w, Z', B, φ⟩ v x := by
 have st : ∀ b, (RC.mk w Z B φ).Zc false b → (RC.mk w Z' B φ).Zc false b ∧ w.heap[b]? = w.heap[b]? := fun b hb => by
  rcases hb with ⟨h1, h2 | h2⟩
  ·cases h2
  ·exact ⟨⟨hZ b h1 h2, .inr h2⟩, rfl⟩
 cases h with
 | int k n => exact .int k n
 | bool b => exact .bool b
 | str l s h => exact .str l s h
 | raw => exact .raw _
 | ptr id off b m h => exact .ptr id off b m h
 | eptr sz id j off b m h => exact .eptr sz id j off b m h
 | ro l off o b p cs hb hm he =>
  simp only [PV.new1, Bool.not_eq_true'] at hv
  subst hv
  exact .ro l off false b p cs (st b hb).1 hm fun i u hu => (he i u hu).step st
 | sl sz l t o x h =>
  simp only [PV.new1, Bool.not_eq_true'] at hv
  subst hv
  exact .sl sz l t false x (h.step st)
 | ref sz id lo n b c m h hn hm hb => exact .ref sz id lo n b c m h hn hm hb
 | ref0 sz id a h => exact .ref0 sz id a h
 | undef x => exact .undef x
 | fn => simp [PV.new1] at hv
 | agg => simp [PV.new1] at hv
 | tup => simp [PV.new1] at hv
 | cond => simp [PV.new1] at hv
theorem Rep.new2 {w : World} {Z Z' : Nat → Prop} {B : Nat} {φ : Phi} (hZ : ∀ b, Z b → B ≤ b → Z' b) {v : PV} {x : Value} (h : Rep ⟨w, Z, B, φ⟩ v x) (hv : v.new2 = true) : Rep ⟨w, Z', B, φ⟩ v x := by
 cases v <;> first | exact h.new1 hZ hv | skip
 case agg l =>
  cases h with
  | agg _ cs hl h1 => exact .agg l cs hl fun i u x hu hx => (h1 i u x hu hx).new1 hZ (List.all_eq_true.1 hv _ (List.mem_of_getElem? hu))
theorem Rep.new3 {w : World} {Z Z' : Nat → Prop} {B : Nat} {φ : Phi} (hZ : ∀ b, Z b → B ≤ b → Z' b) {v : PV} {x : Value} (h : Rep ⟨w, Z, B, φ⟩ v x) (hv : v.fresh = true) : Rep ⟨w, Z', B, φ⟩ v x := by
 cases v <;> first | exact h.new2 hZ hv | skip
 case tup l =>
  cases h with
  | tup _ cs hl h1 => exact .tup l cs hl fun i u x hu hx => (h1 i u x hu hx).new2 hZ (List.all_eq_true.1 hv _ (List.mem_of_getElem? hu))
theorem RepB.new {w : World} {Z Z' : Nat → Prop} {B : Nat} {φ : Phi} (hZ : ∀ b, Z b → B ≤ b → Z' b) (hZ2 : ∀ b, Z' b → Z b) {own : Nat → Prop} {id : Nat} {bl : Blk} (h : RepB ⟨w, Z, B, φ⟩ own id bl) (hv : bl.fresh = true) : RepB ⟨w, Z', B, φ⟩ own id bl := by
 have st : ∀ b, (RC.mk w Z B φ).Zc false b → (RC.mk w Z' B φ).Zc false b ∧ w.heap[b]? = w.heap[b]? := fun b hb => by
  rcases hb with ⟨h1, h2 | h2⟩
  ·cases h2
  ·exact ⟨⟨hZ b h1 h2, .inr h2⟩, rfl⟩
 cases bl with
 | box l =>
  obtain ⟨b, cs, T, h1, h2, h3, h4, h5, h6⟩ := h
  exact ⟨b, cs, T, h1, fun hz => h2 (hZ2 b hz), h3, h4, h5, fun i u hu => by
   obtain ⟨x, g1, g2, g3⟩ := h6 i u hu
   exact ⟨x, g1, g2.new1 hZ (List.all_eq_true.1 hv _ (List.mem_of_getElem? hu)), g3⟩⟩
 | row e sz l o =>
  simp only [Blk.fresh, Bool.not_eq_true'] at hv
  subst hv
  rcases h with h | ⟨b, cs, cap, h1, h2, h3, h4, h5, h6, h7, h8, h9, h10, h11⟩
  ·exact .inl h
  ·exact .inr ⟨b, cs, cap, h1, fun hz => h2 (hZ2 b hz), h3, h4, h5, h6, h7, h8, h9, h10, fun j i x u hx hu => by
    obtain ⟨y, g1, g2, g3⟩ := h11 j i x u hx hu
    exact ⟨y, g1, g2.step st, g3⟩⟩
 | fro e sz l o =>
  simp only [Blk.fresh, Bool.not_eq_true'] at hv
  subst hv
  rcases h with h | ⟨b, cs, cap, h1, h2, h4, h5, h6, h7, h8, h9, h10, h11⟩
  ·exact .inl h
  ·have hb : B ≤ b := by rcases h4 with h4 | h4; cases h4; exact h4
   exact .inr ⟨b, cs, cap, h1, hZ b h2 hb, .inr hb, h5, h6, h7, h8, h9, h10, fun j i x u hx hu => by
    obtain ⟨y, g1, g2, g3⟩ := h11 j i x u hx hu
    exact ⟨y, g1, g2.step st, g3⟩⟩
end Go.Vc
namespace Go.Vc
open Go
theorem lookB_append : ∀ (a b : List (Nat × Blk)) (i : Nat), lookB i (a ++ b) = (lookB i a).or (lookB i b)
 | [], b, i => by simp [lookB]
 | (u, v) :: r, b, i => by
  simp only [List.cons_append, lookB]
  split
  ·rfl
  ·exact lookB_append r b i
theorem lookB_rest (l : List Nat) : ∀ (h : List (Nat × Blk)) (i : Nat), lookB i (rest h l) = if l.contains i then none else lookB i h
 | [], i => by simp [rest, lookB]
 | (u, v) :: r, i => by
  have ih := lookB_rest l r i
  simp only [rest] at ih ⊢
  rw [List.filter_cons]
  by_cases hu : l.contains u = true
  ·have : (!l.contains (u, v).1) = false := by simpa using hu
   simp only [hu, Bool.not_true, Bool.false_eq_true, if_false, ih, lookB]
   by_cases hi : i = u
   ·subst hi; rw [if_pos hu, if_pos hu]
   ·rw [if_neg hi]
  ·have hu' : l.contains u = false := by simpa using hu
   simp only [hu', Bool.not_false, if_true, lookB, ih]
   by_cases hi : i = u
   ·subst hi; simp only [if_true, hu', Bool.false_eq_true, if_false]
   ·simp only [if_neg hi]
theorem lookB_mk {f : Nat → Blk} {σ : Nat → Nat} : ∀ (l : List Nat), (∀ i ∈ l, ∀ j ∈ l, σ i = σ j → i = j) →
  (∀ i ∈ l, lookB (σ i) (l.map fun i => (σ i, f i)) = some (f i)) ∧ ∀ n b, lookB n (l.map fun i => (σ i, f i)) = some b → ∃ i ∈ l, n = σ i ∧ b = f i
 | [], _ => ⟨fun i hi => by simp at hi, fun n b hb => by simp [lookB] at hb⟩
 | a :: r, hinj => by
  obtain ⟨h1, h2⟩ := lookB_mk (f := f) (σ := σ) r fun i hi j hj => hinj i (List.mem_cons_of_mem _ hi) j (List.mem_cons_of_mem _ hj)
  refine ⟨fun i hi => ?_, fun n b hb => ?_⟩
  ·simp only [List.map_cons, lookB]
   split
   ·rename_i he
    rw [hinj i hi a (List.mem_cons_self ..) he]
   ·rename_i he
    rcases List.mem_cons.1 hi with rfl | hi
    ·exact absurd rfl he
    ·exact h1 i hi
  ·simp only [List.map_cons, lookB] at hb
   split at hb
   ·rename_i he
    simp only [Option.some.injEq] at hb
    exact ⟨a, List.mem_cons_self .., he, hb.symm⟩
   ·obtain ⟨i, hi, h3⟩ := h2 n b hb
    exact ⟨i, List.mem_cons_of_mem _ hi, h3⟩
theorem lookB_ren {σ : Nat → Nat} {g : Blk → Blk} (hinj : ∀ i j, σ i = σ j → i = j) : ∀ (h : List (Nat × Blk)),
  (∀ n, lookB (σ n) (h.map fun p : Nat × Blk => (σ p.1, g p.2)) = (lookB n h).map g) ∧ ∀ i b, lookB i (h.map fun p : Nat × Blk => (σ p.1, g p.2)) = some b → ∃ n b', i = σ n ∧ lookB n h = some b' ∧ b = g b'
 | [] => ⟨fun n => rfl, fun i b hb => by simp [lookB] at hb⟩
 | (u, v) :: r => by
  obtain ⟨h1, h2⟩ := lookB_ren (g := g) hinj r
  have key : ∀ n, lookB (σ n) (((u, v) :: r).map fun p : Nat × Blk => (σ p.1, g p.2)) = (lookB n ((u, v) :: r)).map g := fun n => by
   simp only [List.map_cons, lookB]
   by_cases hn : n = u
   ·subst hn; simp
   ·rw [if_neg (fun e => hn (hinj _ _ e)), if_neg hn]; exact h1 n
  refine ⟨key, fun i b hb => ?_⟩
  by_cases hi : i = σ u
  ·subst hi
   rw [key u] at hb
   rw [Option.map_eq_some_iff] at hb
   obtain ⟨b', q1, q2⟩ := hb
   exact ⟨u, b', rfl, q1, q2.symm⟩
  ·simp only [List.map_cons, lookB, if_neg hi] at hb
   obtain ⟨n, b', q1, q2, q3⟩ := h2 i b hb
   refine ⟨n, b', q1, ?_, q3⟩
   simp only [lookB]
   rw [if_neg (fun e => hi (by rw [q1, e]))]
   exact q2
theorem idx_get : ∀ (l : List Nat) (i : Nat), i ∈ l → l[idx l i]? = some i
 | [], i, h => by simp at h
 | a :: r, i, h => by
  simp only [idx]
  split
  ·rename_i he; subst he; rfl
  ·rename_i he
   rcases List.mem_cons.1 h with h | h
   ·exact absurd h he
   ·simpa using idx_get r i h
theorem idx_of : ∀ (l : List Nat), l.Nodup → ∀ (n i : Nat), l[n]? = some i → idx l i = n
 | [], _, n, i, h => by simp at h
 | a :: r, hn, 0, i, h => by
  simp only [List.getElem?_cons_zero, Option.some.injEq] at h
  simp [idx, h]
 | a :: r, hn, n + 1, i, h => by
  simp only [List.getElem?_cons_succ] at h
  have hm := List.mem_of_getElem? h
  have hne : i ≠ a := fun e => (List.nodup_cons.1 hn).1 (e ▸ hm)
  simp only [idx, if_neg hne, idx_of r (List.nodup_cons.1 hn).2 n i h]
theorem idx_inj (l : List Nat) : ∀ i ∈ l, ∀ j ∈ l, idx l i = idx l j → i = j := fun i hi j hj he => by
 have h1 := idx_get l i hi
 have h2 := idx_get l j hj
 rw [he, h2] at h1
 exact (Option.some.inj h1).symm
theorem nub_nodup : ∀ (l : List Nat), (nub l).Nodup
 | [] => List.nodup_nil
 | a :: r => by
  simp only [nub, List.nodup_cons, List.mem_filter]
  exact ⟨by simp, (nub_nodup r).filter _⟩
theorem reached_nodup (h : List (Nat × Blk)) (l : List Nat) : (reached h l).Nodup := (nub_nodup _).filter _
theorem reached_some (h : List (Nat × Blk)) (l : List Nat) : ∀ i ∈ reached h l, ∃ b, lookB i h = some b := fun i hi => by
 have := (List.mem_filter.1 hi).2
 exact Option.isSome_iff_exists.1 this
theorem blkAt_some {h : List (Nat × Blk)} {i : Nat} {b : Blk} (hb : lookB i h = some b) : blkAt h i = b := by simp [blkAt, hb]
theorem out_idx {l : List Nat} {base i : Nat} (hi : i ∈ l) : (l[idx l i]?).getD (base + idx l i) = i := by rw [idx_get l i hi]; rfl
theorem out_inj {l : List Nat} {base : Nat} (hn : l.Nodup) (hlt : ∀ i ∈ l, i < base) : ∀ n m, (l[n]?).getD (base + n) = (l[m]?).getD (base + m) → n = m := fun n m he => by
 cases h1 : l[n]? with
 | some i =>
  rw [h1] at he
  simp only [Option.getD_some] at he
  cases h2 : l[m]? with
  | some j =>
   rw [h2] at he
   simp only [Option.getD_some] at he
   subst he
   rw [← idx_of l hn n i h1, ← idx_of l hn m i h2]
  | none =>
   rw [h2] at he
   simp only [Option.getD_none] at he
   have := hlt i (List.mem_of_getElem? h1)
   omega
 | none =>
  rw [h1] at he
  simp only [Option.getD_none] at he
  cases h2 : l[m]? with
  | some j =>
   rw [h2] at he
   simp only [Option.getD_some] at he
   have := hlt j (List.mem_of_getElem? h2)
   omega
  | none =>
   rw [h2] at he
   simp only [Option.getD_none] at he
   omega
mutual
theorem kill_labs (i : Nat) : ∀ (v : PV) (j : Nat), j ∈ (v.kill i).labs → j ∈ v.labs ∧ j ≠ i
 | .ref z id lo n, j, h => by
  simp only [PV.kill] at h
  split at h
  ·simp [PV.labs] at h
  ·simp only [PV.labs, List.mem_singleton] at h ⊢
   subst h; exact ⟨rfl, ‹_›⟩
 | .eptr z id lo n, j, h => by
  simp only [PV.kill] at h
  split at h
  ·simp [PV.labs] at h
  ·simp only [PV.labs, List.mem_singleton] at h ⊢
   subst h; exact ⟨rfl, ‹_›⟩
 | .ptr id n, j, h => by
  simp only [PV.kill] at h
  split at h
  ·simp [PV.labs] at h
  ·simp only [PV.labs, List.mem_singleton] at h ⊢
   subst h; exact ⟨rfl, ‹_›⟩
 | .int .., j, h => by simp [PV.kill, PV.labs] at h
 | .bool _, j, h => by simp [PV.kill, PV.labs] at h
 | .str _, j, h => by simp [PV.kill, PV.labs] at h
 | .raw _, j, h => by simp [PV.kill, PV.labs] at h
 | .ro .., j, h => by simp [PV.kill, PV.labs] at h
 | .sl .., j, h => by simp [PV.kill, PV.labs] at h
 | .undef, j, h => by simp [PV.kill, PV.labs] at h
 | .agg l, j, h => by
  simp only [PV.kill, PV.labs] at h ⊢
  exact killL_labs i l j h
 | .tup l, j, h => by
  simp only [PV.kill, PV.labs] at h ⊢
  exact killL_labs i l j h
 | .fn f x y, j, h => by
  simp only [PV.kill, PV.labs, List.mem_append] at h ⊢
  rcases h with h | h
  ·have := killL_labs i x j h; exact ⟨.inl this.1, this.2⟩
  ·have := killL_labs i y j h; exact ⟨.inr this.1, this.2⟩
 | .cond c v, j, h => by
  simp only [PV.kill, PV.labs] at h ⊢
  exact kill_labs i v j h
theorem killL_labs (i : Nat) : ∀ (l : List PV) (j : Nat), j ∈ labsL (killL i l) → j ∈ labsL l ∧ j ≠ i
 | [], j, h => by simp [killL, labsL] at h
 | v :: r, j, h => by
  simp only [killL, labsL, List.mem_append] at h ⊢
  rcases h with h | h
  ·have := kill_labs i v j h; exact ⟨.inl this.1, this.2⟩
  ·have := killL_labs i r j h; exact ⟨.inr this.1, this.2⟩
end
variable {C : Ctx} {E : Env} {Z : Nat → Prop} {φ : Phi} {s : St} {a : Act} {w : World}
theorem RepB.kill {R : RC} {own : Nat → Prop} {id : Nat} {b : Blk} (h : RepB R own id b) (i : Nat) : RepB R own id (b.kill i) := by
 cases b with
 | box l =>
  obtain ⟨b, cs, T, h1, h2, h3, h4, h5, h6⟩ := h
  refine ⟨b, cs, T, h1, h2, h3, h4, by rw [killL_len]; exact h5, fun j u hu => ?_⟩
  rw [killL_get, Option.map_eq_some_iff] at hu
  obtain ⟨u', hu', rfl⟩ := hu
  obtain ⟨x, g1, g2, g3⟩ := h6 j u' hu'
  exact ⟨x, g1, g2.step_kill (Later.refl R) i fun _ _ _ hx => hx, g3⟩
 | row => exact h
 | fro => exact h
theorem Rel.kill (h : Rel C E Z φ s a w) (i : Nat) : Rel C E Z φ (s.kill i) a w := by
 refine ⟨h.n, fun t => ?_, ⟨fun id b hb => ?_, h.heap.inj, fun id x hx => ?_⟩, h.zlt, h.zin, h.z0, h.frame, h.glob, h.defers, fun j hj => ?_⟩
 ·show Rep _ (look t (killS i s.slots)) _
  rw [look_killS]
  exact (h.slots t).step_kill (Later.refl _) i fun _ _ _ hx => hx
 ·simp only [St.kill] at hb
  rw [lookB_killH, Option.map_eq_some_iff] at hb
  obtain ⟨b', hb', rfl⟩ := hb
  exact (h.heap.blk id b' hb').kill i
 ·simp only [St.kill]
  rw [lookB_killH]
  simpa using h.heap.keys id x hx
 ·obtain ⟨h1, l, h2⟩ := h.fix j hj
  exact ⟨h1, killL i l, by simp only [St.kill]; rw [lookB_killH, h2]; rfl⟩
structure Struck (K : Nat → Prop) (s : St) : Prop where
 slots : ∀ t, ∀ j ∈ (s.get t).labs, ¬ K j
 heap : ∀ id b, lookB id s.heap = some b → ∀ j ∈ b.labs, ¬ K j
theorem Struck.kill {K : Nat → Prop} (h : Struck K s) (i : Nat) : Struck (fun j => K j ∨ j = i) (s.kill i) := by
 refine ⟨fun t j hj => ?_, fun id b hb j hj => ?_⟩
 ·have : (s.kill i).get t = (s.get t).kill i := by show look t (killS i s.slots) = _; rw [look_killS]; rfl
  rw [this] at hj
  obtain ⟨h1, h2⟩ := kill_labs i _ j hj
  rintro (h3 | h3)
  ·exact h.slots t j h1 h3
  ·exact h2 h3
 ·simp only [St.kill] at hb
  rw [lookB_killH, Option.map_eq_some_iff] at hb
  obtain ⟨b', hb', rfl⟩ := hb
  cases b' with
  | box l =>
   simp only [Blk.kill, Blk.labs] at hj
   obtain ⟨h1, h2⟩ := killL_labs i _ j hj
   rintro (h3 | h3)
   ·exact h.heap id _ hb' j h1 h3
   ·exact h2 h3
  | row => simp [Blk.kill, Blk.labs] at hj
  | fro => simp [Blk.kill, Blk.labs] at hj
theorem kill_kind (i : Nat) (b : Blk) : (b.kill i).isBox = b.isBox := by cases b <;> rfl
theorem killAll_facts : ∀ (l : List Nat) (K : Nat → Prop) (s : St), Rel C E Z φ s a w → Struck K s →
  Rel C E Z φ (killAll l s) a w ∧ Struck (fun j => K j ∨ j ∈ l) (killAll l s) ∧ (∀ i, (lookB i (killAll l s).heap).map Blk.isBox = (lookB i s.heap).map Blk.isBox)
 | [], K, s, h, hk => ⟨h, ⟨fun t j hj => by simpa using hk.slots t j hj, fun id b hb j hj => by simpa using hk.heap id b hb j hj⟩, fun i => rfl⟩
 | i :: r, K, s, h, hk => by
  obtain ⟨h1, h2, h3⟩ := killAll_facts r _ (s.kill i) (h.kill i) (hk.kill i)
  refine ⟨h1, ⟨fun t j hj => ?_, fun id b hb j hj => ?_⟩, fun j => ?_⟩
  ·have := h2.slots t j hj
   rintro (h4 | h4)
   ·exact this (.inl (.inl h4))
   ·rcases List.mem_cons.1 h4 with h4 | h4
    ·exact this (.inl (.inr h4))
    ·exact this (.inr h4)
  ·have := h2.heap id b hb j hj
   rintro (h4 | h4)
   ·exact this (.inl (.inl h4))
   ·rcases List.mem_cons.1 h4 with h4 | h4
    ·exact this (.inl (.inr h4))
    ·exact this (.inr h4)
  ·rw [killAll, h3 j]
   simp only [St.kill]
   rw [lookB_killH]
   cases lookB j s.heap with
   | none => rfl
   | some b => simp [kill_kind]
theorem Rel.killAll (h : Rel C E Z φ s a w) (l : List Nat) : Rel C E Z φ (killAll l s) a w ∧ Struck (fun j => j ∈ l) (killAll l s) ∧ (∀ i, (lookB i (Vc.killAll l s).heap).map Blk.isBox = (lookB i s.heap).map Blk.isBox) := by
 obtain ⟨h1, h2, h3⟩ := killAll_facts l (fun _ => False) s h ⟨fun _ _ _ h => h, fun _ _ _ _ _ h => h⟩
 exact ⟨h1, ⟨fun t j hj hm => h2.slots t j hj (.inr hm), fun id b hb j hj hm => h2.heap id b hb j hj (.inr hm)⟩, h3⟩
end Go.Vc
namespace Go.Vc
open Go
variable {C : Ctx} {E : Env} {Z : Nat → Prop} {φ : Phi} {s : St} {a : Act} {w : World}
theorem RepB.stay {R R' : RC} {own : Nat → Prop} (hB : R'.B = R.B) (hZ : ∀ o b, R.Zc o b → R'.Zc o b ∧ R'.w.heap[b]? = R.w.heap[b]?) {K : Nat → Prop}
  (hφ : ∀ id x, K id → R.φ id = some x → R'.φ id = some x ∧ ∀ b, x.1 = some b → ∀ (cs : Array Value) (T : TypeId), R.w.heap[b]? = some (.cells cs T (0, 0)) → ∃ cs' : Array Value, R'.w.heap[b]? = some (.cells cs' T (0, 0)) ∧ cs'.size = cs.size)
  {id : Nat} {b : Blk} (h : RepB R own id b) (hid : ∀ x, R.φ id = some x → R'.φ id = some x) (hl : ∀ j ∈ b.labs, K j) (hb : ∀ k m, R.φ id = some (some k, m) → R'.w.heap[k]? = R.w.heap[k]? ∧ (¬ R.Z k → ¬ R'.Z k)) : RepB R' own id b := by
 cases b with
 | box l =>
  obtain ⟨b, cs, T, ⟨m, h1⟩, h2, h3, h4, h5, h6⟩ := h
  obtain ⟨e1, e2⟩ := hb b m h1
  exact ⟨b, cs, T, ⟨m, hid _ h1⟩, e2 h2, by rw [hB]; exact h3, e1.trans h4, h5, fun i u hu => by
   obtain ⟨x, g1, g2, g3⟩ := h6 i u hu
   exact ⟨x, g1, g2.stay hZ hφ fun j hj => hl j (labs_mem l i u j hu hj), g3⟩⟩
 | row e sz l o =>
  rcases h with ⟨h1, h2⟩ | ⟨b, cs, cap, h1, h2, h3, h4, h5, h6, h7, h8, h9, h10, h11⟩
  ·exact .inl ⟨hid _ h1, h2⟩
  ·obtain ⟨e1, e2⟩ := hb b _ h1
   exact .inr ⟨b, cs, cap, hid _ h1, e2 h2, by rw [hB]; exact h3, by rw [hB]; exact h4, e1.trans h5, h6, h7, h8, h9, h10, fun j i x u hx hu => by
    obtain ⟨y, g1, g2, g3⟩ := h11 j i x u hx hu; exact ⟨y, g1, g2.step (hZ o), g3⟩⟩
 | fro e sz l o =>
  rcases h with ⟨h1, h2⟩ | ⟨b, cs, cap, h1, h2, h4, h5, h6, h7, h8, h9, h10, h11⟩
  ·exact .inl ⟨hid _ h1, h2⟩
  ·obtain ⟨e1, e2⟩ := hb b _ h1
   exact .inr ⟨b, cs, cap, hid _ h1, (hZ true b ⟨h2, .inl rfl⟩).1.1, by rw [hB]; exact h4, e1.trans h5, h6, h7, h8, h9, h10, fun j i x u hx hu => by
    obtain ⟨y, g1, g2, g3⟩ := h11 j i x u hx hu; exact ⟨y, g1, g2.step (hZ o), g3⟩⟩
theorem Rel.readAny {us : List PV} {Z' : Nat → Prop} (h' : Rel C E Z' φ { s with heap := Vc.freezeAll us s.heap } a w) (hZ : ∀ b, Z b → Z' b) {u : PV} {y : Value} (hu : u ∈ us)
  (hy : Rep ⟨w, Z, E.w0.heap.size, φ⟩ u y) : Rep ⟨w, Z', E.w0.heap.size, φ⟩ (readCell s.heap u) y := by
 have hlat : Later ⟨w, Z, E.w0.heap.size, φ⟩ ⟨w, Z', E.w0.heap.size, φ⟩ := ⟨rfl, fun x hx => ⟨hZ x hx, rfl⟩, fun x cs T hx => ⟨cs, hx, rfl⟩⟩
 have hy' := hy.step hlat fun _ _ hx => hx
 cases u with
 | ref z id lo n =>
  simp only [readCell]
  split
  ·rename_i e z' l oo hl
   split
   ·rename_i hzz
    subst hzz
    exact .sl _ _ _ _ _ (h'.read hy' (freezeAll_at us s.heap hu hl))
   ·exact .undef _
  ·rename_i e z' l oo hl
   split
   ·rename_i hzz
    subst hzz
    exact .sl _ _ _ _ _ (h'.read hy' ((freezeAll_le us s.heap).fro hl))
   ·exact .undef _
  ·exact .undef _
 | _ => exact hy'
theorem Rel.readThrough {us : List PV} {Z' : Nat → Prop} (h' : Rel C E Z' φ { s with heap := Vc.freezeAll us s.heap } a w) (hZ : ∀ b, Z b → Z' b) {v : PV} {y : Value} (hu : ∀ u ∈ v.cells, u ∈ us)
  (hy : Rep ⟨w, Z, E.w0.heap.size, φ⟩ v y) : Rep ⟨w, Z', E.w0.heap.size, φ⟩ (rowElem s.heap v) y := by
 cases v with
 | agg l =>
  obtain ⟨cs, rfl, h1, h2⟩ := hy.agg_inv
  refine .agg _ cs (by rw [List.length_map]; exact h1) fun i u x hu' hx => ?_
  rw [List.getElem?_map, Option.map_eq_some_iff] at hu'
  obtain ⟨u0, hu0, rfl⟩ := hu'
  exact h'.readAny hZ (hu u0 (List.mem_of_getElem? hu0)) (h2 i u0 x hu0 hx)
 | _ => exact h'.readAny hZ (hu _ (by simp [PV.cells])) hy
theorem RepB.enter {w : World} {Z : Nat → Prop} {B : Nat} {φ φ2 : Phi} {own own2 : Nat → Prop} {σ : Nat → Nat} {K : Nat → Prop} {B2 : Nat} (hφ : ∀ id x, K id → φ id = some x → φ2 (σ id) = some x) {id : Nat} {b : Blk} (h : RepB ⟨w, Z, B, φ⟩ own id b)
  (hid : K id) (hl : ∀ j ∈ b.labs, K j) (ho : ∀ b m, φ id = some (some b, m) → ¬ Z b → own2 b) : RepB ⟨w, Z, B2, φ2⟩ own2 (σ id) (b.sent σ) := by
 have up : ∀ (o : Bool) b, (RC.mk w Z B φ).Zc o b → (RC.mk w Z B2 φ2).Zc true b ∧ w.heap[b]? = w.heap[b]? := fun o b hb => ⟨⟨hb.1, .inl rfl⟩, rfl⟩
 cases b with
 | box l =>
  obtain ⟨b, cs, T, ⟨m, h1⟩, h2, h3, h4, h5, h6⟩ := h
  refine ⟨b, cs, T, ⟨m, hφ _ _ hid h1⟩, h2, .inl (ho b m h1 h2), h4, by rw [sentL_len]; exact h5, fun i u hu => ?_⟩
  rw [sentL_get, Option.map_eq_some_iff] at hu
  obtain ⟨u', hu', rfl⟩ := hu
  obtain ⟨x, g1, g2, g3⟩ := h6 i u' hu'
  exact ⟨x, g1, Rep.enter (R := ⟨w, Z, B, φ⟩) (R' := ⟨w, Z, B2, φ2⟩) rfl (fun b hb => hb) σ hφ g2 fun j hj => hl j (labs_mem l i u' j hu' hj), g3⟩
 | row e sz l o =>
  rcases h with ⟨h1, h2⟩ | ⟨b, cs, cap, h1, h2, h3, h4, h5, h6, h7, h8, h9, h10, h11⟩
  ·exact .inl ⟨hφ _ _ hid h1, h2⟩
  ·exact .inr ⟨b, cs, cap, hφ _ _ hid h1, h2, .inl (ho b _ h1 h2), .inl rfl, h5, h6, h7, h8, h9, h10, fun j i x u hx hu => by
    obtain ⟨y, g1, g2, g3⟩ := h11 j i x u hx hu; exact ⟨y, g1, g2.step (up o), g3⟩⟩
 | fro e sz l o =>
  rcases h with ⟨h1, h2⟩ | ⟨b, cs, cap, h1, h2, h4, h5, h6, h7, h8, h9, h10, h11⟩
  ·exact .inl ⟨hφ _ _ hid h1, h2⟩
  ·exact .inr ⟨b, cs, cap, hφ _ _ hid h1, h2, .inl rfl, h5, h6, h7, h8, h9, h10, fun j i x u hx hu => by
    obtain ⟨y, g1, g2, g3⟩ := h11 j i x u hx hu; exact ⟨y, g1, g2.step (up o), g3⟩⟩
theorem RepB.moved {w : World} {Z : Nat → Prop} {B B2 : Nat} {φ φ2 : Phi} {own own2 : Nat → Prop} {σ : Nat → Nat} {K : Nat → Prop} (hB : B2 ≤ B) (hφ : ∀ id x, K id → φ id = some x → φ2 (σ id) = some x) {id : Nat} {b : Blk} (h : RepB ⟨w, Z, B, φ⟩ own id b)
  (hid : K id) (hl : ∀ j ∈ b.labs, K j) (ho : ∀ b m, φ id = some (some b, m) → own b ∨ B ≤ b → own2 b ∨ B2 ≤ b) : RepB ⟨w, Z, B2, φ2⟩ own2 (σ id) (b.mapL σ) := by
 have up : ∀ (o : Bool) b, (RC.mk w Z B φ).Zc o b → (RC.mk w Z B2 φ2).Zc o b ∧ w.heap[b]? = w.heap[b]? := fun o b hb => ⟨⟨hb.1, hb.2.imp (fun h => h) fun h => Nat.le_trans hB h⟩, rfl⟩
 cases b with
 | box l =>
  obtain ⟨b, cs, T, ⟨m, h1⟩, h2, h3, h4, h5, h6⟩ := h
  refine ⟨b, cs, T, ⟨m, hφ _ _ hid h1⟩, h2, ho b m h1 h3, h4, by rw [mapLL_len]; exact h5, fun i u hu => ?_⟩
  rw [mapLL_get, Option.map_eq_some_iff] at hu
  obtain ⟨u', hu', rfl⟩ := hu
  obtain ⟨x, g1, g2, g3⟩ := h6 i u' hu'
  exact ⟨x, g1, g2.moved (R' := ⟨w, Z, B2, φ2⟩) up σ (K := K) (fun id x hk hx => ⟨hφ id x hk hx, fun b _ cs T hc => ⟨cs, hc, rfl⟩⟩) fun j hj => hl j (labs_mem l i u' j hu' hj), g3⟩
 | row e sz l o =>
  rcases h with ⟨h1, h2⟩ | ⟨b, cs, cap, h1, h2, h3, h4, h5, h6, h7, h8, h9, h10, h11⟩
  ·exact .inl ⟨hφ _ _ hid h1, h2⟩
  ·exact .inr ⟨b, cs, cap, hφ _ _ hid h1, h2, ho b _ h1 h3, h4.imp (fun h => h) (fun h => Nat.le_trans hB h), h5, h6, h7, h8, h9, h10, fun j i x u hx hu => by
    obtain ⟨y, g1, g2, g3⟩ := h11 j i x u hx hu; exact ⟨y, g1, g2.step (up o), g3⟩⟩
 | fro e sz l o =>
  rcases h with ⟨h1, h2⟩ | ⟨b, cs, cap, h1, h2, h4, h5, h6, h7, h8, h9, h10, h11⟩
  ·exact .inl ⟨hφ _ _ hid h1, h2⟩
  ·exact .inr ⟨b, cs, cap, hφ _ _ hid h1, h2, h4.imp (fun h => h) (fun h => Nat.le_trans hB h), h5, h6, h7, h8, h9, h10, fun j i x u hx hu => by
    obtain ⟨y, g1, g2, g3⟩ := h11 j i x u hx hu; exact ⟨y, g1, g2.step (up o), g3⟩⟩
theorem RepB.ownOr {R : RC} {own : Nat → Prop} {id : Nat} {b : Blk} (h : RepB R own id b) : ∀ k m, R.φ id = some (some k, m) → (R.Z k ∧ ∃ e z l o, b = .fro e z l o) ∨ (¬ R.Z k ∧ (own k ∨ R.B ≤ k)) := by
 intro k m hk
 cases b with
 | box l =>
  obtain ⟨b, cs, T, ⟨m', h1⟩, h2, h3, h4, h5, h6⟩ := h
  rw [h1] at hk; simp only [Option.some.injEq, Prod.mk.injEq] at hk
  obtain ⟨rfl, _⟩ := hk
  exact .inr ⟨h2, h3⟩
 | row e sz l o =>
  rcases h with ⟨h1, h2⟩ | ⟨b, cs, cap, h1, h2, h3, h4, h5, _⟩
  ·rw [h1] at hk; simp at hk
  ·rw [h1] at hk; simp only [Option.some.injEq, Prod.mk.injEq] at hk
   obtain ⟨rfl, _⟩ := hk
   exact .inr ⟨h2, h3⟩
 | fro e sz l o =>
  rcases h with ⟨h1, h2⟩ | ⟨b, cs, cap, h1, h2, h4, h5, _⟩
  ·rw [h1] at hk; simp at hk
  ·rw [h1] at hk; simp only [Option.some.injEq, Prod.mk.injEq] at hk
   obtain ⟨rfl, _⟩ := hk
   exact .inl ⟨h2, _, _, _, _, rfl⟩
theorem box_mk {l : List Nat} {h : List (Nat × Blk)} {σ : Nat → Nat} : ∀ (l : List Nat) i, i ∈ l → (blkAt h i).isBox = true → σ i ∈ boxes (l.map fun i => (σ i, (blkAt h i).sent σ))
 | [], i, hi, _ => by simp at hi
 | a :: r, i, hi, hb => by
  simp only [List.map_cons]
  rcases List.mem_cons.1 hi with rfl | hi
  ·cases hc : blkAt h i with
   | box l => simp [Blk.sent, boxes]
   | row => rw [hc] at hb; simp [Blk.isBox] at hb
   | fro => rw [hc] at hb; simp [Blk.isBox] at hb
  ·have := box_mk (l := l) (h := h) (σ := σ) r i hi hb
   cases hc : (blkAt h a).sent σ with
   | box l => simp only [boxes]; exact List.mem_cons_of_mem _ this
   | row => simp only [boxes]; exact this
   | fro => simp only [boxes]; exact this
theorem merge {Zb Z1 : Nat → Prop} {l : List Nat} (hb : Rel C E Zb φ s a w) (hZb : ∀ b, Zb b → Z1 b) (hz1 : ∀ b, Z1 b → b < w.heap.size) (hzin : ∀ b, Z1 b → E.Z0 b ∨ E.own b ∨ E.w0.heap.size ≤ b)
  (hl : l.Nodup) (hls : ∀ i ∈ l, ∃ b, lookB i s.heap = some b) {φ2 : Phi} (hφ2 : φ2 = fun n => (l[n]?).bind φ)
  {su : List (Nat × Blk)} (hsu : ∀ i ∈ l, (blkAt s.heap i).isBox = true → idx l i ∈ boxes su)
  {r : PV} {h' : List (Nat × Blk)} {φ' : Phi} {Z' : Nat → Prop} {v : Value} {w' : World} (hr : Rep ⟨w', Z', w.heap.size, φ'⟩ r v) (hh : HeapRep ⟨w', Z', w.heap.size, φ'⟩ (ownOf Z1 φ2) h') (hbx : ∀ i, i ∈ boxes su → φ' i = φ2 i ∧ ∃ l, lookB i h' = some (.box l))
  (hzl : ∀ b, Z' b → b < w'.heap.size) (hzi : ∀ b, Z' b → Z1 b ∨ ownOf Z1 φ2 b ∨ w.heap.size ≤ b) (hzz : ∀ b, Z1 b → Z' b) (hf : Frame0 w (ownOf Z1 φ2) w')
  (hfresh : (∀ b, Z1 b → Zb b) ∨ (r.fresh = true ∧ freshH h' = true)) (dst : Option Nat) :
  Holds C E ({ killAll (l.filter fun i => !(blkAt s.heap i).isBox) s with
    heap := h'.map (fun p : Nat × Blk => ((l[p.1]?).getD (Vc.fresh s.heap + p.1), p.2.mapL fun n => (l[n]?).getD (Vc.fresh s.heap + n))) ++ rest (killAll (l.filter fun i => !(blkAt s.heap i).isBox) s).heap l }.put dst
   (r.mapL fun n => (l[n]?).getD (Vc.fresh s.heap + n))) (a.put dst v) w' := by
 obtain ⟨dead, hdead⟩ : ∃ d, d = l.filter fun i => !(blkAt s.heap i).isBox := ⟨_, rfl⟩
 obtain ⟨out, hout⟩ : ∃ f : Nat → Nat, f = fun n => (l[n]?).getD (Vc.fresh s.heap + n) := ⟨_, rfl⟩
 have hmapeq : h'.map (fun p : Nat × Blk => ((l[p.1]?).getD (Vc.fresh s.heap + p.1), p.2.mapL fun n => (l[n]?).getD (Vc.fresh s.heap + n))) = h'.map (fun p : Nat × Blk => (out p.1, p.2.mapL out)) := by rw [hout]
 rw [hmapeq, ← hout, ← hdead]
 have hlt : ∀ i ∈ l, i < Vc.fresh s.heap := fun i hi => by obtain ⟨b, hb⟩ := hls i hi; exact lookB_fresh _ _ _ hb
 have hinj : ∀ n m, out n = out m → n = m := by rw [hout]; exact out_inj hl hlt
 have houtl : ∀ i ∈ l, out (idx l i) = i := fun i hi => by rw [hout]; exact out_idx hi
 -- the memory that is content
 let Z2 : Nat → Prop := fun b => Z' b ∧ (Zb b ∨ ¬ Z1 b)
 have hnew : ∀ b, Z' b → w.heap.size ≤ b → Z2 b := fun b h1 h2 => ⟨h1, .inr fun hz => absurd (hz1 b hz) (by omega)⟩
 have hr2 : Rep ⟨w', Z2, w.heap.size, φ'⟩ r v ∧ ∀ id b, lookB id h' = some b → RepB ⟨w', Z2, w.heap.size, φ'⟩ (ownOf Z1 φ2) id b := by
  rcases hfresh with hz | ⟨hf1, hf2⟩
  ·have : Z2 = Z' := by
    funext b
    refine propext ⟨fun h => h.1, fun h => ⟨h, ?_⟩⟩
    by_cases hc : Z1 b
    ·exact .inl (hz b hc)
    ·exact .inr hc
   rw [this]
   exact ⟨hr, hh.blk⟩
  ·refine ⟨hr.new3 hnew hf1, fun id b hb => (hh.blk id b hb).new hnew (fun b h => h.1) ?_⟩
   have hmem : ∀ (L : List (Nat × Blk)), lookB id L = some b → (id, b) ∈ L := by
    intro L
    induction L with
    | nil => intro h; simp [lookB] at h
    | cons p r ih =>
     obtain ⟨u, v⟩ := p
     intro h
     simp only [lookB] at h
     split at h
     ·rename_i he; subst he
      simp only [Option.some.injEq] at h
      subst h; exact List.mem_cons_self ..
     ·exact List.mem_cons_of_mem _ (ih h)
   exact List.all_eq_true.1 hf2 _ (hmem _ hb)
 obtain ⟨hr3, hh3⟩ := hr2
 have hφl : ∀ i ∈ l, φ2 (idx l i) = φ i := fun i hi => by rw [hφ2]; simp [idx_get l i hi]
 have hownE : ∀ b, ownOf Z1 φ2 b → E.own b ∨ E.w0.heap.size ≤ b := fun b ⟨⟨n, m, hn⟩, hz⟩ => by
  rw [hφ2] at hn
  rw [Option.bind_eq_some_iff] at hn
  obtain ⟨i, hi, hn⟩ := hn
  obtain ⟨bb, hb1, hb2⟩ := hb.label hn
  rcases hb2.ownOr b m hn with ⟨h1, _⟩ | ⟨_, h2⟩
  ·exact absurd (hZb b h1) hz
  ·exact h2
 -- labels
 let φ3 : Phi := fun i => if i ∈ l then φ' (idx l i) else if Vc.fresh s.heap ≤ i ∧ l.length ≤ i - Vc.fresh s.heap then φ' (i - Vc.fresh s.heap) else φ i
 have pA : ∀ n x, φ' n = some x → φ3 (out n) = some x := fun n x hn => by
  by_cases hnl : n < l.length
  ·have h1 : out n = l[n] := by rw [hout]; simp [List.getElem?_eq_getElem hnl]
   have h2 : out n ∈ l := by rw [h1]; exact List.getElem_mem _
   have h3 : idx l (out n) = n := idx_of l hl n _ (by rw [h1]; exact List.getElem?_eq_getElem hnl)
   simp only [φ3, if_pos h2, h3]; exact hn
  ·have h1 : out n = Vc.fresh s.heap + n := by rw [hout]; simp [List.getElem?_eq_none (show l.length ≤ n by omega)]
   have h2 : out n ∉ l := fun hm => by have := hlt _ hm; omega
   show (if out n ∈ l then _ else if Vc.fresh s.heap ≤ out n ∧ l.length ≤ out n - Vc.fresh s.heap then φ' (out n - Vc.fresh s.heap) else φ (out n)) = _
   rw [if_neg h2, h1, if_pos ⟨by omega, by omega⟩]
   have : Vc.fresh s.heap + n - Vc.fresh s.heap = n := by omega
   rw [this]; exact hn
 have inHeap : ∀ i x, φ i = some x → i < Vc.fresh s.heap := fun i x hx => by obtain ⟨b, hb1, _⟩ := hb.label hx; exact lookB_fresh _ _ _ hb1
 have pB : ∀ i x, i ∉ l → φ i = some x → φ3 i = some x := fun i x hi hx => by
  have := inHeap i x hx
  simp only [φ3, if_neg hi]
  rw [if_neg (by omega)]; exact hx
 have pC : ∀ i x, φ3 i = some x → (∃ n, i = out n ∧ φ' n = some x) ∨ (i ∉ l ∧ φ i = some x) := fun i x hx => by
  simp only [φ3] at hx
  split at hx
  ·rename_i hi
   exact .inl ⟨idx l i, (houtl i hi).symm, hx⟩
  ·rename_i hi
   split at hx
   ·rename_i hc
    refine .inl ⟨i - Vc.fresh s.heap, ?_, hx⟩
    rw [hout]
    simp only [List.getElem?_eq_none hc.2, Option.getD_none]
    omega
   ·exact .inr ⟨hi, hx⟩
 -- what is struck
 obtain ⟨hk1, hk2, hk3⟩ := hb.killAll dead
 have hdmem : ∀ i, i ∈ dead ↔ i ∈ l ∧ (blkAt s.heap i).isBox = false := fun i => by rw [hdead, List.mem_filter]; simp
 have pD : ∀ i x, i ∉ dead → φ i = some x → φ3 i = some x := fun i x hi hx => by
  by_cases hil : i ∈ l
  ·have hbx' : (blkAt s.heap i).isBox = true := by
    cases hc : (blkAt s.heap i).isBox with
    | true => rfl
    | false => exact absurd ((hdmem i).2 ⟨hil, hc⟩) hi
   simp only [φ3, if_pos hil]
   rw [(hbx _ (hsu i hil hbx')).1, hφl i hil]; exact hx
  ·exact pB i x hil hx
 have hφ3 : ∀ id x, id ∉ dead → φ id = some x → φ3 id = some x ∧ ∀ b, x.1 = some b → ∀ (cs : Array Value) (T : TypeId), w.heap[b]? = some (.cells cs T (0, 0)) → ∃ cs' : Array Value, w'.heap[b]? = some (.cells cs' T (0, 0)) ∧ cs'.size = cs.size :=
  fun id x hi hx => ⟨pD id x hi hx, fun b _ cs T hc => hf.shape b cs T hc⟩
 have hZs : ∀ o b, (RC.mk w Zb E.w0.heap.size φ).Zc o b → (RC.mk w' Z2 E.w0.heap.size φ3).Zc o b ∧ w'.heap[b]? = w.heap[b]? := fun o b hz =>
  ⟨⟨⟨hzz b (hZb b hz.1), .inl hz.1⟩, hz.2⟩, hf.block b (hb.zlt b hz.1) fun ho => ho.2 (hZb b hz.1)⟩
 have notown : ∀ i b m, i ∉ l → φ i = some (some b, m) → ¬ ownOf Z1 φ2 b := fun i b m hi hx ⟨⟨n, m', hn⟩, hz⟩ => by
  rw [hφ2, Option.bind_eq_some_iff] at hn
  obtain ⟨j, hj, hn⟩ := hn
  have : j = i := hb.heap.inj j i b m' m (fun h => hz (hZb b h)) hn hx
  subst this
  exact hi (List.mem_of_getElem? hj)
 have hkeys : ∀ i b, lookB i (h'.map (fun p : Nat × Blk => (out p.1, p.2.mapL out)) ++ rest (Vc.killAll dead s).heap l) = some b →
   (∃ n b', i = out n ∧ lookB n h' = some b' ∧ b = b'.mapL out) ∨ (i ∉ l ∧ lookB i (Vc.killAll dead s).heap = some b) := fun i b hi => by
  rw [lookB_append, lookB_rest] at hi
  cases hc : lookB i (h'.map fun p : Nat × Blk => (out p.1, p.2.mapL out)) with
  | some b0 =>
   rw [hc] at hi
   simp only [Option.some_or, Option.some.injEq] at hi
   subst hi
   exact .inl ((lookB_ren (g := Blk.mapL out) hinj h').2 i _ hc)
  | none =>
   rw [hc, Option.none_or] at hi
   split at hi
   ·cases hi
   ·rename_i hil
    exact .inr ⟨by simpa using hil, hi⟩
 refine ⟨Z2, φ3, Rel.put (Z := Z2) (φ := φ3) (w := w') (s := { Vc.killAll dead s with heap := h'.map (fun p : Nat × Blk => (out p.1, p.2.mapL out)) ++ rest (Vc.killAll dead s).heap l }) ⟨hk1.n, fun t => ?_, ⟨fun i b hi => ?_, fun i j b m m' hzb hi hj => ?_, fun i x hx => ?_⟩, fun b (hz : Z2 b) => hzl b hz.1, fun b (hz : Z2 b) => ?_, fun b hz => ?_, ?_, hb.glob, hb.defers, fun i hi => ?_⟩ dst fun t ht => ?_⟩
 ·exact (hk1.slots t).stay hZs (K := fun j => j ∉ dead) hφ3 fun j hj => hk2.slots t j hj
 ·rcases hkeys i b hi with ⟨n, b', rfl, h2, rfl⟩ | ⟨h1, h2⟩
  ·exact (hh3 n b' h2).moved (K := fun _ => True) hb.frame.size (fun id x _ hx => pA id x hx) trivial (fun _ _ => trivial) fun b m hbm ho => by
    rcases ho with ho | ho
    ·exact hownE b ho
    ·exact .inr (Nat.le_trans hb.frame.size ho)
  ·have hrb := hk1.heap.blk i b h2
   refine RepB.stay (R := ⟨w, Zb, E.w0.heap.size, φ⟩) (R' := ⟨w', Z2, E.w0.heap.size, φ3⟩) rfl hZs (K := fun j => j ∉ dead) hφ3 hrb (fun x hx => pB i x h1 hx) (fun j hj => hk2.heap i b h2 j hj) fun k m hk => ?_
   refine ⟨hf.block k (hrb.lt k m hk) (notown i k m h1 hk), fun hnz hz => ?_⟩
   rcases hz with ⟨hz1', hz2⟩
   rcases hz2 with hz2 | hz2
   ·exact hnz hz2
   ·rcases hzi k hz1' with h3 | h3 | h3
    ·exact hz2 h3
    ·exact notown i k m h1 hk h3
    ·have := hrb.lt k m hk; simp only at this; omega
 ·-- one label for a block
  have cross : ∀ n i m m', φ' n = some (some b, m) → i ∉ l → φ i = some (some b, m') → False := fun n i m m' hn hi' hx => by
   have := hh.keys n _ hn
   obtain ⟨bb, hbb⟩ := Option.isSome_iff_exists.1 this
   rcases (hh3 n bb hbb).ownOr b m hn with ⟨h1, _⟩ | ⟨_, h2⟩
   ·exact hzb h1
   ·rcases h2 with h2 | h2
    ·exact notown i b m' hi' hx h2
    ·obtain ⟨b0, hb1, hb2⟩ := hb.label hx
     have := hb2.lt b m' hx
     simp only at this h2; omega
  rcases pC i _ hi with ⟨n, rfl, hn⟩ | ⟨h1, h2⟩
  ·rcases pC j _ hj with ⟨n', rfl, hn'⟩ | ⟨h3, h4⟩
   ·by_cases hz' : Z' b
    ·-- a block that is content for the callee only
     have h1 := (hh3 n _ (Option.isSome_iff_exists.1 (hh.keys n _ hn)).choose_spec).ownOr b m hn
     rcases h1 with ⟨h1, _⟩ | ⟨_, h1⟩
     ·exact absurd h1 hzb
     ·exfalso
      have h2 : ¬ Z1 b := fun hz => by
       rcases h1 with ⟨_, h1⟩ | h1
       ·exact h1 hz
       ·have := hz1 b hz; simp only at h1; omega
      exact hzb ⟨hz', .inr h2⟩
    ·exact congrArg out (hh.inj n n' b m m' hz' hn hn')
   ·exact (cross n j m m' hn h3 h4).elim
  ·rcases pC j _ hj with ⟨n', rfl, hn'⟩ | ⟨h3, h4⟩
   ·exact (cross n' i m' m hn' h1 h2).elim
   ·exact hb.heap.inj i j b m m' (fun hz => hzb ⟨hzz b (hZb b hz), .inl hz⟩) h2 h4
 ·rw [lookB_append, lookB_rest]
  rcases pC i x hx with ⟨n, rfl, hn⟩ | ⟨h1, h2⟩
  ·have := hh.keys n _ hn
   rw [(lookB_ren (g := Blk.mapL out) hinj h').1 n]
   obtain ⟨bb, hbb⟩ := Option.isSome_iff_exists.1 this
   rw [hbb]; rfl
  ·have h3 := hk1.heap.keys i x h2
   have h4 : l.contains i = false := by simpa using h1
   rw [h4]
   simp only [Bool.false_eq_true, if_false, Option.isSome_or, Bool.or_eq_true]
   exact .inr h3
 ·rcases hzi b hz.1 with h1 | h1 | h1
  ·exact hzin b h1
  ·exact .inr (hownE b h1)
  ·exact .inr (.inr (Nat.le_trans hb.frame.size h1))
 ·have := hb.z0 b hz
  exact ⟨hzz b (hZb b this), .inl this⟩
 ·refine ⟨hf.os.trans hb.frame.os, hf.tape.trans hb.frame.tape, hf.output.trans hb.frame.output, Nat.le_trans hb.frame.size hf.size, fun b h1 h2 => ?_, fun b cs T hc => ?_⟩
  ·refine (hf.block b (Nat.lt_of_lt_of_le h1 hb.frame.size) fun ho => ?_).trans (hb.frame.block b h1 h2)
   rcases hownE b ho with h3 | h3
   ·exact h2 h3
   ·omega
  ·obtain ⟨c1, g1, g2⟩ := hb.frame.shape b cs T hc
   obtain ⟨c2, g3, g4⟩ := hf.shape b c1 T g1
   exact ⟨c2, g3, g4.trans g2⟩
 ·obtain ⟨g1, l0, g2⟩ := hk1.fix i hi
  have hbs : ∃ l1, lookB i s.heap = some (.box l1) := by
   have := hk3 i
   rw [g2] at this
   cases hc : lookB i s.heap with
   | none => rw [hc] at this; cases this
   | some b =>
    rw [hc] at this
    cases b with
    | box l1 => exact ⟨l1, rfl⟩
    | row => simp [Blk.isBox] at this
    | fro => simp [Blk.isBox] at this
  obtain ⟨l1, hl1⟩ := hbs
  have hnd : i ∉ dead := fun hd => by
   have := ((hdmem i).1 hd).2
   rw [blkAt_some hl1] at this
   cases this
  obtain ⟨x, hx⟩ : ∃ x, φ i = some x := by
   obtain ⟨b, _, _, ⟨m, hm⟩, _⟩ := hb.heap.blk i _ hl1
   exact ⟨_, hm⟩
  refine ⟨by rw [pD i x hnd hx, ← hx]; exact g1, ?_⟩
  show ∃ lx, lookB i (h'.map (fun p : Nat × Blk => (out p.1, p.2.mapL out)) ++ rest (Vc.killAll dead s).heap l) = some (.box lx)
  rw [lookB_append, lookB_rest]
  by_cases hil : i ∈ l
  ·obtain ⟨_, l2, hl2⟩ := hbx _ (hsu i hil (by rw [blkAt_some hl1]; rfl))
   have := (lookB_ren (g := Blk.mapL out) hinj h').1 (idx l i)
   rw [houtl i hil, hl2] at this
   exact ⟨_, by rw [this]; rfl⟩
  ·have hno : lookB i (h'.map fun p : Nat × Blk => (out p.1, p.2.mapL out)) = none := by
    cases hc : lookB i (h'.map fun p : Nat × Blk => (out p.1, p.2.mapL out)) with
    | none => rfl
    | some b =>
     obtain ⟨n, b', e1, _, _⟩ := (lookB_ren (g := Blk.mapL out) hinj h').2 i _ hc
     exfalso
     have hlt2 := lookB_fresh _ _ _ hl1
     rw [e1, hout] at hlt2 hil
     simp only at hlt2 hil
     cases hn : l[n]? with
     | some j => rw [hn] at hil; exact hil (List.mem_of_getElem? hn)
     | none => rw [hn] at hlt2; simp only [Option.getD_none] at hlt2; omega
   have h4 : l.contains i = false := by simpa using hil
   exact ⟨l0, by rw [hno, h4]; simpa using g2⟩
 ·exact hr3.moved (R' := ⟨w', Z2, E.w0.heap.size, φ3⟩) (K := fun _ => True) (fun o b (hz : (RC.mk w' Z2 w.heap.size φ').Zc o b) => ⟨⟨hz.1, hz.2.imp (fun h => h) fun h => Nat.le_trans hb.frame.size h⟩, rfl⟩) out (fun id x _ hx => ⟨pA id x hx, fun b _ cs T hc => ⟨cs, hc, rfl⟩⟩) fun _ _ => trivial
end Go.Vc
namespace Go.Vc
open Go
variable {C : Ctx} {E : Env} {Z : Nat → Prop} {φ : Phi} {s : St} {a : Act} {w : World} {o : Oper} {k : St → Prop} {next : Act → World → Prop} {Q : Exit → Act → World → Prop}
theorem fresh_upd (t : Nat) (b : Blk) : ∀ (h : List (Nat × Blk)), fresh (updB t b h) = fresh h
 | [] => rfl
 | (u, v) :: r => by
  simp only [updB]
  split
  ·rfl
  ·simp only [fresh, fresh_upd t b r]
theorem fresh_freeze (i : Nat) (h : List (Nat × Blk)) : fresh (freeze i h) = fresh h := by
 unfold freeze
 split
 ·exact fresh_upd ..
 ·rfl
theorem fresh_freezeAll : ∀ (us : List PV) (h : List (Nat × Blk)), fresh (freezeAll us h) = fresh h
 | [], h => rfl
 | u :: r, h => by
  cases u <;> simp only [freezeAll] <;> first | exact fresh_freezeAll r h | (rw [fresh_freezeAll r, fresh_freeze])
theorem notRef_of {l : List Nat} {us : List PV} (h : us.all (fun u => !u.refIn l) = true) {i : Nat} (hi : i ∈ l) : us.all (PV.notRef i) = true := by
 rw [List.all_eq_true] at h ⊢
 intro u hu
 have := h u hu
 cases u <;> simp [PV.notRef, PV.refIn] at this ⊢
 rintro rfl
 exact this hi
theorem call_sound (h : Rel C E Z φ s a w) {gv : Bool} {f : Nat} {args : List PV} {vals : List Value} (hlen : args.length = vals.length)
  (hargs : ∀ (i : Nat) u x, args[i]? = some u → vals[i]? = some x → Rep ⟨w, Z, E.w0.heap.size, φ⟩ u x) {dst : Option Nat} (hq : callWp gv (Spec C) s dst f args k) :
  Runs C.P f ⟨vals⟩ w fun v w' => ∃ s', k s' ∧ Holds C E s' (a.put dst v) w' := by
 unfold callWp at hq
 obtain ⟨⟨hcl, hlabs, hbor⟩, hS⟩ := hq
 obtain ⟨us, hus⟩ : ∃ us : List PV, us = if gv then [] else args.flatMap PV.cells := ⟨_, rfl⟩
 have hZ1 : ∃ Z1 : Nat → Prop, (∀ b, Z b → Z1 b) ∧ Rel C E Z1 φ { s with heap := freezeAll us s.heap } a w ∧ (gv = true → ∀ b, Z1 b → Z b) := by
  cases gv with
  | true => exact ⟨Z, fun _ h => h, by subst hus; exact h, fun _ _ h => h⟩
  | false => obtain ⟨Z1, h1, h2⟩ := h.freezeAll us; exact ⟨Z1, h1, h2, fun h => by cases h⟩
 obtain ⟨Z1, hZ, hrel, hgv⟩ := hZ1
 obtain ⟨vs, hvs⟩ : ∃ vs, vs = args.map (through gv s.heap) := ⟨_, rfl⟩
 rw [← hvs] at hcl hlabs hbor hS
 obtain ⟨l, hl⟩ : ∃ l, l = reached s.heap (labsL vs) := ⟨_, rfl⟩
 rw [← hl] at hcl hlabs hbor hS
 have hnd : l.Nodup := by rw [hl]; exact reached_nodup ..
 have hsome : ∀ i ∈ l, ∃ b, lookB i s.heap = some b := by rw [hl]; exact reached_some _ _
 have hus2 : us.all (fun u => !u.refIn l) = true := by
  cases gv with
  | true => rw [hus]; rfl
  | false => rw [hus]; simpa using hbor
 have hstay : ∀ i ∈ l, lookB i (freezeAll us s.heap) = lookB i s.heap := fun i hi => freezeAll_other us s.heap (notRef_of hus2 hi)
 -- what is handed over
 have hthr : ∀ (i : Nat) u x, vs[i]? = some u → vals[i]? = some x → Rep ⟨w, Z1, E.w0.heap.size, φ⟩ u x := fun i u x hu hx => by
  rw [hvs, List.getElem?_map, Option.map_eq_some_iff] at hu
  obtain ⟨u0, hu0, rfl⟩ := hu
  have hr := hargs i u0 x hu0 hx
  cases gv with
  | true => exact Rep.step (R := ⟨w, Z, E.w0.heap.size, φ⟩) (R' := ⟨w, Z1, E.w0.heap.size, φ⟩) ⟨rfl, fun b hb => ⟨hZ b hb, rfl⟩, fun b cs T hb => ⟨cs, hb, rfl⟩⟩ (fun _ _ h => h) hr
  | false =>
   refine hrel.readThrough hZ (fun c hc => ?_) hr
   rw [hus]
   exact List.mem_flatMap.2 ⟨u0, List.mem_of_getElem? hu0, hc⟩
 let φ2 : Phi := fun n => (l[n]?).bind φ
 have hφ2 : ∀ id x, id ∈ l → φ id = some x → φ2 (idx l id) = some x := fun id x hi hx => by simp only [φ2, idx_get l id hi, Option.bind_some]; exact hx
 obtain ⟨su, hsu⟩ : ∃ su, su = l.map fun i => (idx l i, (blkAt s.heap i).sent (idx l)) := ⟨_, rfl⟩
 have hmk := lookB_mk (f := fun i => (blkAt s.heap i).sent (idx l)) (σ := idx l) l (idx_inj l)
 rw [← hsu] at hmk hS
 have hbef : Before C w Z1 φ2 (sentL (idx l) vs) vals su := by
  refine ⟨by rw [sentL_len, hvs, List.length_map]; exact hlen, fun i u x hu hx => ?_, ⟨fun n b hb => ?_, fun n m b m1 m2 hzb hn hm => ?_, fun n x hn => ?_⟩, hrel.zlt, hrel.globNow⟩
  ·rw [sentL_get, Option.map_eq_some_iff] at hu
   obtain ⟨u', hu', rfl⟩ := hu
   refine Rep.enter (R := ⟨w, Z1, E.w0.heap.size, φ⟩) (R' := ⟨w, Z1, w.heap.size, φ2⟩) rfl (fun _ h => h) (idx l) (K := fun i => i ∈ l) hφ2 (hthr i u' x hu' hx) fun j hj => ?_
   have := List.all_eq_true.1 hlabs j (labs_mem vs i u' j hu' hj)
   simpa using this
  ·obtain ⟨i, hi, rfl, rfl⟩ := hmk.2 n b hb
   obtain ⟨bb, hbb⟩ := hsome i hi
   have hrb := hrel.heap.blk i bb ((hstay i hi).trans hbb)
   rw [blkAt_some hbb]
   refine hrb.enter (own2 := ownOf Z1 φ2) (K := fun i => i ∈ l) hφ2 hi (fun j hj => ?_) fun b m hb hz => ⟨⟨idx l i, m, hφ2 i _ hi hb⟩, hz⟩
   have := List.all_eq_true.1 hcl i hi
   rw [blkAt_some hbb] at this
   have := List.all_eq_true.1 this j hj
   simpa using this
  ·simp only [φ2, Option.bind_eq_some_iff] at hn hm
   obtain ⟨i, hi, hn⟩ := hn
   obtain ⟨j, hj, hm⟩ := hm
   have := hrel.heap.inj i j b m1 m2 hzb hn hm
   subst this
   rw [← idx_of l hnd n i hi, ← idx_of l hnd m i hj]
  ·simp only [φ2, Option.bind_eq_some_iff] at hn
   obtain ⟨i, hi, hn⟩ := hn
   have hil := List.mem_of_getElem? hi
   rw [← idx_of l hnd n i hi, hmk.1 i hil]; rfl
 intro o' a' next' Q' hnext
 refine hS.run w Z1 φ2 vals hbef o' a' next' Q' fun v w' haft => hnext v w' ?_
 obtain ⟨r, h', φ', Z', hk, hr, hh, hbx, hzl, hzi, hzz, hf⟩ := haft
 simp only at hk
 -- the base
 obtain ⟨s0, hs0⟩ : ∃ s0, s0 = lent (gv || (r.fresh && freshH h')) (args.flatMap PV.cells) s := ⟨_, rfl⟩
 rw [← hs0] at hk
 have hbase : ∃ Zb : Nat → Prop, Rel C E Zb φ s0 a w ∧ (∀ b, Zb b → Z1 b) ∧ ((∀ b, Z1 b → Zb b) ∨ (r.fresh = true ∧ freshH h' = true)) ∧ Vc.fresh s0.heap = Vc.fresh s.heap ∧ ∀ i ∈ l, lookB i s0.heap = lookB i s.heap := by
  cases gv with
  | true =>
   simp only [Bool.true_or] at hs0
   subst hs0
   exact ⟨Z, h, hZ, .inl (hgv rfl), rfl, fun _ _ => rfl⟩
  | false =>
   simp only [Bool.false_or] at hs0
   simp only [Bool.false_eq_true, if_false] at hus
   cases hc : r.fresh && freshH h' with
   | true =>
    rw [hc] at hs0
    subst hs0
    rw [Bool.and_eq_true] at hc
    exact ⟨Z, h, hZ, .inr hc, rfl, fun _ _ => rfl⟩
   | false =>
    rw [hc] at hs0
    subst hs0
    rw [hus] at hrel hstay
    exact ⟨Z1, hrel, fun _ h => h, .inl fun _ h => h, fresh_freezeAll .., hstay⟩
 obtain ⟨Zb, hb, hZb, hfr, hfresh, hlook⟩ := hbase
 have hblk : ∀ i ∈ l, blkAt s0.heap i = blkAt s.heap i := fun i hi => by unfold blkAt; rw [hlook i hi]
 have hfil : (l.filter fun i => !(blkAt s0.heap i).isBox) = l.filter fun i => !(blkAt s.heap i).isBox := List.filter_congr fun i hi => by rw [hblk i hi]
 have := merge (l := l) (φ2 := φ2) (su := su) hb hZb hrel.zlt hrel.zin hnd (fun i hi => by obtain ⟨b, hb⟩ := hsome i hi; exact ⟨b, (hlook i hi).trans hb⟩) rfl
  (fun i hi hbx => by rw [hsu]; rw [hblk i hi] at hbx; exact box_mk (l := l) l i hi hbx) hr hh hbx hzl hzi hzz hf hfr dst
 rw [hfil, hfresh] at this
 exact ⟨_, hk, this⟩
theorem h_callValue (h : Rel C E Z φ s a w) {f : Operand} {args : Array Operand} {ts : Array TypeId} (ho : o.op = .call { callee := .value f, args, argTypes := ts })
  (hq : hWp C (Spec C) s (.call { callee := .value f, args, argTypes := ts }) o.dst k) (hn : ∀ s' a' w', k s' → Holds C E s' a' w' → next a' w') : o.wp C.P a w next Q := by
 obtain ⟨args⟩ := args
 simp only [hWp] at hq
 obtain ⟨vf, hq, hvf⟩ := h.opd hq
 obtain ⟨vs, hq, hl, hv⟩ := h.opds hq
 have hvf := hvf trivial
 have hv := hv trivial
 split at hq
 ·rename_i id first caps _ _
  cases hy : a.eval f with
  | func F fv cv =>
   rw [hy] at hvf
   cases hvf with
   | fn _ _ _ fl cl h1 h2 h3 h4 =>
    have hrun := call_sound h (vals := fl ++ args.map a.eval ++ cl) (by simp [h1, h2, hl]) (fun i u x hu hx => by
     by_cases hi : i < first.length + vs.length
     ·rw [List.getElem?_append_left (by rw [List.length_append]; exact hi)] at hu
      rw [List.getElem?_append_left (by rw [List.length_append, List.length_map]; omega)] at hx
      by_cases hi2 : i < first.length
      ·rw [List.getElem?_append_left hi2] at hu
       rw [List.getElem?_append_left (by omega)] at hx
       exact h3 i u x hu hx
      ·rw [List.getElem?_append_right (by omega)] at hu
       rw [List.getElem?_append_right (by omega), List.getElem?_map, Option.map_eq_some_iff] at hx
       obtain ⟨x', hx', rfl⟩ := hx
       rw [← h1] at hx'
       exact hv (i - first.length) u x' hu hx'
     ·rw [List.getElem?_append_right (by rw [List.length_append]; omega)] at hu
      rw [List.getElem?_append_right (by rw [List.length_append, List.length_map]; omega)] at hx
      rw [List.length_append] at hu
      rw [List.length_append, List.length_map, ← h1, ← hl] at hx
      exact h4 _ u x hu hx) hq
    unfold Oper.wp
    have he : (execOp a.eval o).run C.P w = (callFunc id ⟨fl ++ args.map a.eval ++ cl⟩).run C.P w := by
     simp only [execOp, ho, resolve, Deferred.ofValue, hy, Sem.run_bind, Sem.run_pure, Result.andThen_ok, invoke]
     simp
    rw [he]
    exact hrun o a next Q fun v w' ⟨s', h5, h6⟩ => hn s' _ w' h5 h6
  | _ => rw [hy] at hvf; cases hvf
 ·exact hq.elim
theorem h_sound (hT : TyOk C) (h : Rel C E Z φ s a w) (hq : hWp C (Spec C) s o.op o.dst k) (hn : ∀ s' a' w', k s' → Holds C E s' a' w' → next a' w') : o.wp C.P a w next Q := by
 generalize hop : o.op = op at hq
 cases op
 case alloc => exact h_alloc hT h hop hq hn
 case box => exact h_box h hop hq hn
 case buildSlice => exact h_buildSlice hT h hop hq hn
 case makeSlice => exact h_makeSlice hT h hop hq hn
 case convert => exact h_convert hT h hop hq hn
 case store t p x =>
  simp only [hWp] at hq
  obtain ⟨hz, hq⟩ := hq
  obtain ⟨vp, hq, hvp⟩ := h.opd hq
  obtain ⟨vx, hq, hvx⟩ := h.opd hq
  obtain ⟨h1, h2, hq⟩ := hq
  split at hq
  ·split at hq
   ·rename_i hl
    exact h_store_ptr hT h hop hz (hvp trivial) (hvx trivial) h1 h2 hl hq.1 hq.2 hn
   ·exact hq.elim
  ·split at hq
   ·rename_i hl
    obtain ⟨g1, g2, g3, g4, g5, hk⟩ := hq
    exact h_store_eptr hT h hop hz (hvp trivial) (hvx trivial) h1 h2 hl g1 g2 g3 g4 g5 hk hn
   ·exact hq.elim
  ·exact hq.elim
 case call c =>
  obtain ⟨callee, args, ts⟩ := c
  cases callee with
  | value f => exact h_callValue h hop hq hn
  | builtin b =>
   cases b <;> first | exact h_append hT h hop hq hn | exact hq.elim
  | invoke r m => exact hq.elim
 all_goals exact hq.elim
end Go.Vc
namespace Go.Vc
open Go
variable {C : Ctx} {E : Env} {Z : Nat → Prop} {φ : Phi} {s : St} {a : Act} {w : World} {o : Oper} {k : St → Prop} {next : Act → World → Prop} {Q : Exit → Act → World → Prop}
theorem Rel.slot (h : Rel C E Z φ s a w) (t : Nat) {v : PV} (hv : Rep ⟨w, Z, E.w0.heap.size, φ⟩ v (a.tmps.getD t undef)) : Rel C E Z φ (s.put (some t) v) a w := by
 refine ⟨h.n, fun u => ?_, h.heap, h.zlt, h.zin, h.z0, h.frame, h.glob, h.defers, h.fix⟩
 show Rep _ (look u ((t, if t < s.n then v else .undef) :: s.slots)) _
 simp only [look]
 split
 ·rename_i hut
  subst hut
  split
  ·exact hv
  ·exact .undef _
 ·exact h.slots u
theorem word_rep {R : RC} {v : PV} {x : Value} {c b : Bool} (h : Rep R v x) (hw : v.word = some (c, b)) : (c = true ∧ x = .bool b) ∨ (c = false ∧ x = undef) := by
 unfold PV.word at hw
 split at hw
 ·simp only [Option.some.injEq, Prod.mk.injEq] at hw
  obtain ⟨rfl, rfl⟩ := hw
  exact .inl ⟨rfl, h.bool_inv⟩
 ·simp only [Option.some.injEq, Prod.mk.injEq] at hw
  obtain ⟨rfl, rfl⟩ := hw
  rename_i c b
  cases h with
  | cond _ _ _ h1 h2 =>
   cases c with
   | true => exact .inl ⟨rfl, (h1 rfl).bool_inv⟩
   | false => exact .inr ⟨rfl, h2 rfl⟩
 ·cases hw
def isB (want : Bool) : Value → Bool
 | .bool b => b == want
 | _ => false
theorem wanted_none {ops : Array Oper} {o : Oper} (h : o.guard = none) (a : Act) : Region.wanted o (yielded ops a.tmps) = true := by simp [Region.wanted, h]
theorem wanted_some {ops : Array Oper} {o : Oper} {j t : Nat} {want : Bool} (h : o.guard = some (j, want)) (hd : (ops[j]?).bind (·.dst) = some t) (a : Act) :
  Region.wanted o (yielded ops a.tmps) = isB want (a.tmps.getD t undef) := by
 simp only [Region.wanted, h, yielded, hd, Option.bind_some]
 cases ht : a.tmps[t]? with
 | none =>
  have : a.tmps.getD t undef = undef := by simp [ht]
  rw [this]; rfl
 | some x =>
  have : a.tmps.getD t undef = x := by simp [ht]
  rw [this]
  cases x <;> first | rfl | (rename_i b; cases b <;> cases want <;> rfl)
theorem op_sound (hT : TyOk C) (h : Rel C E Z φ s a w) {ops : Array Oper} (hq : opWp C (Spec C) ops o s k) (hn : ∀ s' a' w', k s' → Holds C E s' a' w' → next a' w') :
  if Region.wanted o (yielded ops a.tmps) then o.wp C.P a w next Q ∨ (o.asks C.P a w ∧ LetsOut Q) else next (a.put o.dst undef) w := by
 unfold opWp at hq
 split at hq
 ·rename_i hg
  rw [wanted_none hg, if_pos rfl]
  left
  split at hq
  ·rename_i hp
   obtain ⟨v, hk, hv⟩ := q_sound hT h rfl hp hq
   obtain ⟨y, h1, h2, _⟩ := hv trivial
   exact wp_value h2 (hn _ _ _ hk ⟨Z, φ, h.put o.dst fun _ _ => h1⟩)
  ·exact h_sound hT h hq hn
 ·rename_i j want hg
  split at hq
  ·exact hq.elim
  ·rename_i t hd
   rw [wanted_some hg hd]
   split at hq
   ·rename_i c b hw
    have hword := word_rep (h.slots t) hw
    split at hq
    ·rename_i hp
     obtain ⟨v, hk, hv⟩ := q_sound hT h rfl hp hq
     rcases hword with ⟨rfl, hx⟩ | ⟨rfl, hx⟩
     ·rw [hx]
      by_cases hbw : b = want
      ·subst hbw
       rw [if_pos (by simp [isB])]
       left
       obtain ⟨y, h1, h2, _⟩ := hv ⟨rfl, rfl⟩
       exact wp_value h2 (hn _ _ _ hk ⟨Z, φ, h.put o.dst fun _ _ => .cond _ _ _ (fun _ => h1) (fun hc => by simp at hc)⟩)
      ·have : isB want (Value.bool b) = false := by simp [isB, hbw]
       rw [this, if_neg (by simp)]
       exact hn _ _ _ hk ⟨Z, φ, h.put o.dst fun _ _ => .cond _ _ _ (fun hc => by simp [hbw] at hc) (fun _ => rfl)⟩
     ·rw [hx]
      have : isB want undef = false := rfl
      rw [this, if_neg (by simp)]
      exact hn _ _ _ hk ⟨Z, φ, h.put o.dst fun _ _ => .cond _ _ _ (fun hc => by simp at hc) (fun _ => rfl)⟩
    ·obtain ⟨hq1, hq2⟩ := hq
     rcases hword with ⟨rfl, hx⟩ | ⟨rfl, hx⟩
     ·rw [hx]
      by_cases hbw : b = want
      ·subst hbw
       rw [if_pos (by simp [isB])]
       left
       exact h_sound hT (h.slot t (by rw [hx]; exact .bool _)) (hq1 rfl rfl) hn
      ·have : isB want (Value.bool b) = false := by simp [isB, hbw]
       rw [this, if_neg (by simp)]
       exact hn _ _ _ (hq2 fun _ => by cases b <;> cases want <;> simp_all) ⟨Z, φ, h.put o.dst fun _ _ => .cond _ _ _ (fun hc => by cases hc) (fun _ => rfl)⟩
     ·rw [hx]
      have : isB want undef = false := rfl
      rw [this, if_neg (by simp)]
      exact hn _ _ _ (hq2 fun hc => by cases hc) ⟨Z, φ, h.put o.dst fun _ _ => .cond _ _ _ (fun hc => by cases hc) (fun _ => rfl)⟩
   ·exact hq.elim
theorem op_yields (hT : TyOk C) (h : Rel C E Z φ s a w) {ops : Array Oper} (hp : isPlain C o.op = true) (hl : isLoad o.op = false) (hq : opWp C (Spec C) ops o s k) :
  ∃ y s', Yields C.P ops o y a ∧ k s' ∧ Holds C E s' (a.put o.dst y) w := by
 unfold opWp at hq
 split at hq
 ·rename_i hg
  split at hq
  ·obtain ⟨v, hk, hv⟩ := q_sound hT h rfl hp hq
   obtain ⟨y, h1, h2, h3⟩ := hv trivial
   exact ⟨y, _, .inl ⟨wanted_none hg a, h3 (by simp [hl])⟩, hk, ⟨Z, φ, h.put o.dst fun _ _ => h1⟩⟩
  ·rename_i hn; rw [hp] at hn; cases hn
 ·rename_i j want hg
  split at hq
  ·exact hq.elim
  ·rename_i t hd
   have hwt := wanted_some (o := o) hg hd a
   split at hq
   ·rename_i c b hw
    have hword := word_rep (h.slots t) hw
    split at hq
    ·obtain ⟨v, hk, hv⟩ := q_sound hT h rfl hp hq
     rcases hword with ⟨rfl, hx⟩ | ⟨rfl, hx⟩
     ·rw [hx] at hwt
      by_cases hbw : b = want
      ·subst hbw
       obtain ⟨y, h1, h2, h3⟩ := hv ⟨rfl, rfl⟩
       exact ⟨y, _, .inl ⟨by simpa [isB] using hwt, h3 (by simp [hl])⟩, hk, ⟨Z, φ, h.put o.dst fun _ _ => .cond _ _ _ (fun _ => h1) (fun hc => by simp at hc)⟩⟩
      ·exact ⟨undef, _, .inr ⟨by rw [hwt]; simp [isB, hbw], rfl⟩, hk, ⟨Z, φ, h.put o.dst fun _ _ => .cond _ _ _ (fun hc => by simp [hbw] at hc) (fun _ => rfl)⟩⟩
     ·rw [hx] at hwt
      exact ⟨undef, _, .inr ⟨by simpa [isB, undef] using hwt, rfl⟩, hk, ⟨Z, φ, h.put o.dst fun _ _ => .cond _ _ _ (fun hc => by simp at hc) (fun _ => rfl)⟩⟩
    ·rename_i hn; rw [hp] at hn; cases hn
   ·exact hq.elim
theorem ops_sound (hT : TyOk C) {ops : Array Oper} (hn : ∀ s a w, k s → Holds C E s a w → Q .normal a w) : ∀ (n i : Nat) (s : St) (a : Act) (w : World), i + n = ops.size → Holds C E s a w → opsWp C (Spec C) ops (ops.toList.drop i) s k →
  wpOps C.P ops Q (List.range' i n) a w
 | 0, i, s, a, w, hi, h, hq => by
  have : ops.toList.drop i = [] := List.drop_of_length_le (by rw [Array.length_toList]; omega)
  rw [this] at hq
  exact hn s a w hq h
 | n + 1, i, s, a, w, hi, h, hq => by
  have hlt : i < ops.toList.length := by rw [Array.length_toList]; omega
  rw [List.drop_eq_getElem_cons hlt] at hq
  have hoi : ops[i]? = some ops.toList[i] := by rw [← Array.getElem?_toList]; exact List.getElem?_eq_getElem hlt
  simp only [List.range'_succ, wpOps, hoi]
  obtain ⟨Z, φ, hr⟩ := h
  exact op_sound hT hr hq fun s' a' w' hk' hh => ops_sound hT hn n (i + 1) s' a' w' (by omega) hh hk'
end Go.Vc
