/- What is proved here: contracts of functions of the program: of each function what it hands back and what it leaves in memory. Conditions: those that each theorem names. -/
import Derived.KernelRfl
import Derived.Test.YthhokabbanhllaaGreatDoorTAc
set_option linter.unusedVariables false
set_option linter.unusedSimpArgs false
set_option linter.unusedSectionVars false
namespace Go.Vc
open Go
variable {C : Ctx} {E : Env} {Z : Nat → Prop} {φ : Phi} {s : St} {a : Act} {w : World}
theorem Rel.newLabel (h : Rel C E Z φ s a w) (e sz : Nat) (oo : Bool) : ∃ φ' : Phi, φ' (fresh s.heap) = some (none, 0) ∧ (∀ id x, φ id = some x → φ' id = some x) ∧ φ (fresh s.heap) = none ∧
  Rel C E Z φ' { s with heap := (fresh s.heap, .row e sz [] oo) :: s.heap } a w := by
 have hnew : φ (fresh s.heap) = none := by
  cases hx : φ (fresh s.heap) with
  | none => rfl
  | some x =>
   obtain ⟨b, hb, _⟩ := h.label hx
   exact absurd (lookB_fresh _ _ _ hb) (Nat.lt_irrefl _)
 let φ' : Phi := fun i => if i = fresh s.heap then some (none, 0) else φ i
 have h1 : φ' (fresh s.heap) = some (none, 0) := by simp [φ']
 have h2 : ∀ id x, φ id = some x → φ' id = some x := fun id x hx => by
  have : id ≠ fresh s.heap := by rintro rfl; rw [hnew] at hx; cases hx
  simp [φ', this, hx]
 have h3 : Later ⟨w, Z, E.w0.heap.size, φ⟩ ⟨w, Z, E.w0.heap.size, φ'⟩ := ⟨rfl, fun b hb => ⟨hb, rfl⟩, fun b cs T hb => ⟨cs, hb, rfl⟩⟩
 refine ⟨φ', h1, h2, hnew, h.n, fun t => (h.slots t).step h3 h2, ⟨fun id b hl => ?_, fun i j b m1 m2 hzb hi hj => ?_, fun id x hx => ?_⟩, h.zlt, h.zin, h.z0, h.frame, h.glob, h.defers, h.fix_new h1 fun i hi => by simp [φ', hi]⟩
 ·simp only [lookB] at hl
  split at hl
  ·rename_i he
   subst he
   simp only [Option.some.injEq] at hl
   subst hl
   exact .inl ⟨h1, rfl⟩
  ·exact (h.heap.blk id b hl).step h3 h2 fun k m hk => ⟨rfl, fun hn => hn⟩
 ·simp only [φ'] at hi hj
  split at hi
  ·simp at hi
  ·split at hj
   ·simp at hj
   ·exact h.heap.inj i j b m1 m2 hzb hi hj
 ·simp only [lookB]
  split
  ·rfl
  ·rename_i hne
   simp only [φ', if_neg hne] at hx
   exact h.heap.keys id x hx
theorem nil_inv {R : RC} {z : Nat} {o : Bool} {y : Value} (h : Rep R (.sl z [] true o) y) : ∃ p, y = .slice p 0 0 := by
 obtain ⟨p, n, c, rfl, h1, h2, h3, _⟩ := sl_inv h
 have := h3 rfl
 simp only [List.length_nil] at h1 this
 subst h1; subst this
 exact ⟨p, rfl⟩
theorem ghost_sound {g : Ghost} {s' : St} (h : Holds C E s a w) (hg : ghost C g s = some s') : Holds C E s' a w := by
 obtain ⟨Z, φ, h⟩ := h
 cases g with
 | slot t e =>
  simp only [ghost] at hg
  split at hg
  ·rename_i hs
   simp only [Option.some.injEq] at hg
   subst hg
   obtain ⟨φ', h1, h2, h3, h4⟩ := h.newLabel e (C.size e) false
   refine ⟨Z, φ', h4.slot t ?_⟩
   have hr := h.slots t
   rw [hs] at hr
   obtain ⟨p, hp⟩ := nil_inv hr
   rw [hp]
   exact .ref0 _ _ _ h1
  ·cases hg
 | cell id off e =>
  simp only [ghost] at hg
  split at hg
  ·rename_i l hl
   split at hg
   ·rename_i hs
    simp only [Option.some.injEq] at hg
    subst hg
    obtain ⟨φ', h1, h2, h3, h4⟩ := h.newLabel e (C.size e) false
    have hne : id ≠ fresh s.heap := by have := lookB_fresh _ _ _ hl; omega
    refine ⟨Z, φ', h4.n, h4.slots, ⟨fun i b hi => ?_, h4.heap.inj, fun i x hx => ?_⟩, h4.zlt, h4.zin, h4.z0, h4.frame, h4.glob, h4.defers, fun i hi => ?_⟩
    ·simp only [lookB] at hi
     split at hi
     ·rename_i he
      exact h4.heap.blk i b (by simp only [lookB, if_pos he]; exact hi)
     ·rename_i he
      rw [lookB_upd] at hi
      split at hi
      ·rename_i hie
       subst hie
       rw [hl] at hi
       simp only [Option.map_some, Option.some.injEq] at hi
       subst hi
       have hb := h4.heap.blk i (.box l) (by simp only [lookB, if_neg he]; exact hl)
       obtain ⟨b, cs, T, g1, g2, g3, g4, g5, g6⟩ := hb
       refine ⟨b, cs, T, g1, g2, g3, g4, by rw [List.length_set]; exact g5, fun j u hu => ?_⟩
       by_cases hj : j = off
       ·subst hj
        have hjl : j < l.length := by have := (List.getElem?_eq_some_iff.1 hu).1; rwa [List.length_set] at this
        rw [List.getElem?_set_self hjl] at hu
        simp only [Option.some.injEq] at hu
        subst hu
        have hlj : l[j]? = some (nth l j) := by unfold nth; rw [List.getD_eq_getElem?_getD, List.getElem?_eq_getElem hjl]; rfl
        obtain ⟨x, q1, q2, q3⟩ := g6 j _ hlj
        rw [hs] at q2
        obtain ⟨p, hp⟩ := nil_inv q2
        exact ⟨x, q1, by rw [hp]; exact .ref0 _ _ _ h1, q3⟩
       ·rw [List.getElem?_set_ne (Ne.symm hj)] at hu
        exact g6 j u hu
      ·rename_i hie
       exact h4.heap.blk i b (by simp only [lookB, if_neg he]; exact hi)
    ·have := h4.heap.keys i x hx
     simp only [lookB] at this ⊢
     split
     ·rfl
     ·rename_i he
      rw [if_neg he] at this
      rw [lookB_upd]
      split
      ·rename_i hie; subst hie; rw [hl]; rfl
      ·exact this
    ·obtain ⟨g1, l0, g2⟩ := h4.fix i hi
     refine ⟨g1, ?_⟩
     simp only [lookB] at g2 ⊢
     split
     ·rename_i he; rw [if_pos he] at g2; cases g2
     ·rename_i he
      rw [if_neg he] at g2
      rw [lookB_upd]
      split
      ·rename_i hie; subst hie; exact ⟨_, by rw [hl]; rfl⟩
      ·exact ⟨l0, g2⟩
   ·cases hg
  ·cases hg
 | age id =>
  simp only [ghost] at hg
  split at hg
  ·rename_i e z l o hl
   simp only [Option.some.injEq] at hg
   subst hg
   refine ⟨Z, φ, h.n, h.slots, ⟨fun i b hi => ?_, h.heap.inj, fun i x hx => ?_⟩, h.zlt, h.zin, h.z0, h.frame, h.glob, h.defers, fun i hi => ?_⟩
   ·rw [lookB_upd] at hi
    split at hi
    ·rename_i hie
     subst hie
     rw [hl] at hi
     simp only [Option.map_some, Option.some.injEq] at hi
     subst hi
     rcases h.heap.blk i _ hl with g | ⟨b, cs, cap, g1, g2, g3, g4, g5, g6, g7, g8, g9, g10, g11⟩
     ·exact .inl g
     ·refine .inr ⟨b, cs, cap, g1, g2, g3, .inl rfl, g5, g6, g7, g8, g9, g10, fun j k x u hx hu => ?_⟩
      obtain ⟨y, q1, q2, q3⟩ := g11 j k x u hx hu
      exact ⟨y, q1, q2.step fun c hc => ⟨Zc_mono (fun _ => rfl) c hc, rfl⟩, q3⟩
    ·exact h.heap.blk i b hi
   ·have := h.heap.keys i x hx
    rw [lookB_upd]
    split
    ·rename_i hie; subst hie; rw [hl]; rfl
    ·exact this
   ·obtain ⟨g1, l0, g2⟩ := h.fix i hi
    refine ⟨g1, ?_⟩
    rw [lookB_upd]
    split
    ·rename_i hie; subst hie; rw [hl] at g2; cases g2
    ·exact ⟨l0, g2⟩
  ·cases hg
 | dim t =>
  simp only [ghost] at hg
  split at hg
  ·rename_i z l b o hs
   simp only [Option.some.injEq] at hg
   subst hg
   have key : ∀ x, Rep ⟨w, Z, E.w0.heap.size, φ⟩ (.sl z l b o) x → Rep ⟨w, Z, E.w0.heap.size, φ⟩ (.sl z l false true) x := fun x hr => by
    cases hr with
    | sl _ _ _ _ _ h0 =>
     have := h0.step (Z' := RC.Zc ⟨w, Z, E.w0.heap.size, φ⟩ true) (w' := w) fun b hb => ⟨⟨hb.1, .inl rfl⟩, rfl⟩
     cases this with
     | sl _ _ _ _ a n c cs hn hc ht hz hm he => exact .sl z l false true _ (.sl z l false true a n c cs hn hc (fun h => by cases h) hz hm he)
   have hr := h.slots t
   rw [hs] at hr
   exact ⟨Z, φ, h.slot t (key _ hr)⟩
  ·cases hg
theorem ghosts_sound : ∀ (gs : List Ghost) {s s' : St}, Holds C E s a w → ghosts C gs s = some s' → Holds C E s' a w
 | [], s, s', h, hg => by
  simp only [ghosts, Option.some.injEq] at hg
  subst hg; exact h
 | g :: r, s, s', h, hg => by
  simp only [ghosts] at hg
  split at hg
  ·rename_i s1 h1
   exact ghosts_sound r (ghost_sound h h1) hg
  ·cases hg
theorem look_mem : ∀ (l : List (Nat × PV)) (t : Nat), look t l = .undef ∨ (t, look t l) ∈ l
 | [], t => .inl rfl
 | (u, v) :: r, t => by
  simp only [look]
  split
  ·rename_i he; subst he; exact .inr (List.mem_cons_self ..)
  ·exact (look_mem r t).imp (fun h => h) (List.mem_cons_of_mem _)
theorem lookB_mem : ∀ (l : List (Nat × Blk)) (t : Nat) (b : Blk), lookB t l = some b → (t, b) ∈ l
 | [], t, b, h => by simp [lookB] at h
 | (u, v) :: r, t, b, h => by
  simp only [lookB] at h
  split at h
  ·rename_i he; subst he
   simp only [Option.some.injEq] at h
   subst h; exact List.mem_cons_self ..
  ·exact List.mem_cons_of_mem _ (lookB_mem r t b h)
theorem lookB_key : ∀ (l : List (Nat × Blk)) (t : Nat), t ∈ keys l → (lookB t l).isSome = true
 | [], t, h => by simp [keys] at h
 | (u, v) :: r, t, h => by
  simp only [lookB]
  split
  ·rfl
  ·rename_i hne
   simp only [keys, List.map_cons, List.mem_cons] at h
   exact lookB_key r t (h.resolve_left hne)
theorem key_look : ∀ (l : List (Nat × Blk)) (t : Nat) b, lookB t l = some b → t ∈ keys l := fun l t b h => List.mem_map.2 ⟨(t, b), lookB_mem l t b h, rfl⟩
theorem le_sound {s' : St} (h : Holds C E s a w) (hl : s.le s') : Holds C E s' a w := by
 obtain ⟨Z, φ, h⟩ := h
 obtain ⟨h1, h2, h3, h4, h5, h6, h7⟩ := hl
 let φ' : Phi := fun i => if i ∈ keys s'.heap then φ i else none
 have stay : ∀ {v x}, Rep ⟨w, Z, E.w0.heap.size, φ⟩ v x → (∀ i ∈ v.labs, i ∈ keys s'.heap) → Rep ⟨w, Z, E.w0.heap.size, φ'⟩ v x := fun hr hv =>
  Rep.stay (R := ⟨w, Z, E.w0.heap.size, φ⟩) (R' := ⟨w, Z, E.w0.heap.size, φ'⟩) (fun o b hb => ⟨hb, rfl⟩) (K := fun i => i ∈ keys s'.heap)
   (fun id x hk hx => ⟨by simp only [φ', if_pos hk]; exact hx, fun b _ cs T hc => ⟨cs, hc, rfl⟩⟩) hr hv
 refine ⟨Z, φ', by rw [h1]; exact h.n, fun t => ?_, ⟨fun i b hi => ?_, fun i j b m m' hzb hi hj => ?_, fun i x hx => ?_⟩, h.zlt, h.zin, h.z0, h.frame, h.glob, h.defers, fun i hi => ?_⟩
 ·rcases look_mem s'.slots t with hu | hm
  ·show Rep _ (look t s'.slots) _
   rw [hu]; exact .undef _
  ·show Rep _ (look t s'.slots) _
   have e := h2 _ hm
   have := h.slots t
   simp only at e
   rw [e] at this
   exact stay this (h4 _ hm)
 ·have hm := lookB_mem _ _ _ hi
  have e := h3 _ hm
  simp only at e
  have hr := h.heap.blk i b e
  exact RepB.stay (R := ⟨w, Z, E.w0.heap.size, φ⟩) (R' := ⟨w, Z, E.w0.heap.size, φ'⟩) rfl (fun o b hb => ⟨hb, rfl⟩) (K := fun i => i ∈ keys s'.heap)
   (fun id x hk hx => ⟨by simp only [φ', if_pos hk]; exact hx, fun b _ cs T hc => ⟨cs, hc, rfl⟩⟩) hr (fun x hx => by simp only [φ', if_pos (key_look _ _ _ hi)]; exact hx) (h5 _ hm) fun k m hk => ⟨rfl, fun hn => hn⟩
 ·simp only [φ'] at hi hj
  split at hi
  ·split at hj
   ·exact h.heap.inj i j b m m' hzb hi hj
   ·cases hj
  ·cases hi
 ·simp only [φ'] at hx
  split at hx
  ·exact lookB_key _ _ ‹_›
  ·cases hx
 ·rw [h6] at hi
  have hk := h7 i hi
  obtain ⟨g1, l0, g2⟩ := h.fix i hi
  refine ⟨by simp only [φ', if_pos hk]; exact g1, ?_⟩
  obtain ⟨b, hb⟩ := Option.isSome_iff_exists.1 (lookB_key _ _ hk)
  have e := h3 _ (lookB_mem _ _ _ hb)
  simp only at e
  rw [g2] at e
  simp only [Option.some.injEq] at e
  exact ⟨l0, by rw [hb, e]⟩
theorem meets_sound {gs : List Ghost} {s' : St} (h : Holds C E s a w) (hm : meets C gs s s') : Holds C E s' a w := by
 unfold meets at hm
 split at hm
 ·rename_i t ht
  exact le_sound (ghosts_sound gs h ht) hm
 ·exact hm.elim
def Ex.to : Ex → Exit
 | .normal => .normal
 | .exit id => .exit id
 | .ret => .ret
section
variable {k : St → Prop} {Q : Exit → Act → World → Prop}
theorem edge_get {ops : Array Oper} {Inv : Nat → St → Prop} {s : St} : ∀ {es : List (Nat × Nat)} {i j : Nat}, edgesWp C (Spec C) ops Inv es s → (i, j) ∈ es → opWp C (Spec C) ops (ops.getD i default) s fun s' => ∃ gs s0, Inv j s0 ∧ meets C gs s' s0
 | (i', j') :: r, i, j, h, hm => by
  simp only [edgesWp] at h
  rcases List.mem_cons.1 hm with he | he
  ·cases he; exact h.1
  ·exact edge_get h.2 he
theorem node_get {ops : Array Oper} {Inv : Nat → St → Prop} : ∀ {nodes : List (Array Bool × Nat × List (Nat × Nat))} {k idx : Nat} {nd}, nodesWp C (Spec C) ops Inv k nodes → nodes[idx]? = some nd → ∀ s, Inv (k + idx) s → edgesWp C (Spec C) ops Inv nd.2.2 s
 | (e, m, es) :: r, k, 0, nd, h, hn, s, hs => by
  simp only [List.getElem?_cons_zero, Option.some.injEq] at hn
  subst hn
  exact h.1 s hs
 | _ :: r, k, idx + 1, nd, h, hn, s, hs => by
  simp only [List.getElem?_cons_succ] at hn
  exact node_get (k := k + 1) h.2 hn s (by rw [show k + 1 + idx = k + (idx + 1) by omega]; exact hs)
theorem dag_sound (hT : TyOk C) {ops : Array Oper} (hsel : Region.noSelect ops = true) (hpan : ∀ c a w, Q (.panic c) a w → False) {nodes : List (Array Bool × Nat × List (Nat × Nat))} {Inv : Nat → St → Prop}
  (hok : nodes.dropLast.all (nodeOk C ops nodes) = true) (hwp : nodesWp C (Spec C) ops Inv 0 nodes) (hlast : ∀ e m es, nodes.getLast? = some (e, m, es) → ∀ s a w, Inv (nodes.length - 1) s → Holds C E s a w → wpAny C.P .any ops Q m e a w) :
  ∀ (n idx : Nat) (e : Array Bool) (es : List (Nat × Nat)) (s : St) (a : Act) (w : World), nodes[idx]? = some (e, n, es) → Inv idx s → Holds C E s a w → wpAny C.P .any ops Q n e a w := by
 intro n
 induction n with
 | zero =>
  intro idx e es s a w hn hI h
  have hlt := (List.getElem?_eq_some_iff.1 hn).1
  by_cases hl : idx = nodes.length - 1
  ·subst hl
   exact hlast e 0 es (by rw [List.getLast?_eq_getElem?]; exact hn) s a w hI h
  ·have hd : (e, 0, es) ∈ nodes.dropLast := List.mem_of_getElem? (i := idx) (by rw [List.getElem?_dropLast, if_pos (by omega)]; exact hn)
   have hnd := List.all_eq_true.1 hok _ hd
   simp only [nodeOk, Bool.and_eq_true] at hnd
   exfalso
   have hes : ∃ p, p ∈ es := by
    rcases Bool.or_eq_true _ _ ▸ hnd.2 with h2 | h2
    ·split at h2
     ·exact ⟨_, List.mem_singleton.2 rfl⟩
     ·cases h2
    ·simp only [Bool.and_eq_true, Bool.not_eq_true'] at h2
     cases hr : Region.ready .any ops e with
     | nil => rw [hr] at h2; simp at h2
     | cons j r =>
      have := List.all_eq_true.1 h2.2 j (by rw [hr]; simp)
      obtain ⟨p, hp, _⟩ := List.any_eq_true.1 this
      exact ⟨p, hp⟩
   obtain ⟨p, hp⟩ := hes
   have := List.all_eq_true.1 hnd.1 p hp
   simp only [edgeOk] at this
   split at this
   ·simp only [Bool.and_eq_true] at this
    have := Nat.eq_of_beq_eq_true this.2
    omega
   ·cases this
 | succ n ih =>
  intro idx e es s a w hn hI h
  have hlt := (List.getElem?_eq_some_iff.1 hn).1
  by_cases hl : idx = nodes.length - 1
  ·subst hl
   exact hlast e (n + 1) es (by rw [List.getLast?_eq_getElem?]; exact hn) s a w hI h
  ·have hd : (e, n + 1, es) ∈ nodes.dropLast := List.mem_of_getElem? (i := idx) (by rw [List.getElem?_dropLast, if_pos (by omega)]; exact hn)
   have hnd := List.all_eq_true.1 hok _ hd
   simp only [nodeOk, Bool.and_eq_true] at hnd
   have hew := node_get hwp hn s (by rw [Nat.zero_add]; exact hI)
   have hstep : ∀ p ∈ es, ∃ es', nodes[p.2]? = some (e.setIfInBounds p.1 true, n, es') := fun p hp => by
    have := List.all_eq_true.1 hnd.1 p hp
    simp only [edgeOk] at this
    split at this
    ·rename_i e' m' es' he'
     simp only [Bool.and_eq_true] at this
     obtain rfl := eq_of_beq this.1
     have hm' := Nat.eq_of_beq_eq_true this.2
     obtain rfl : m' = n := by omega
     exact ⟨es', he'⟩
    ·cases this
   rcases Bool.or_eq_true _ _ ▸ hnd.2 with h2 | h2
   ·cases es with
    | nil => simp at h2
    | cons pq r =>
    cases r with
    | cons _ _ => simp at h2
    | nil =>
     obtain ⟨i, j⟩ := pq
     simp only at h2
     unfold quiet at h2
     simp only [Bool.and_eq_true] at h2
     obtain ⟨⟨q1, q2⟩, q3⟩ := h2
     split at q3
     ·rename_i oi hoi
      simp only [Bool.and_eq_true, Bool.not_eq_true'] at q3
      have hget : ops.getD i default = oi := by
       obtain ⟨hlt, he⟩ := Array.getElem?_eq_some_iff.1 hoi
       simp [hoi]
      have hq := edge_get hew (List.mem_singleton.2 rfl)
      rw [hget] at hq
      obtain ⟨Z, φ, hr⟩ := h
      obtain ⟨y, s', hy, ⟨gs, s0, hI0, hm⟩, hh⟩ := op_yields hT hr q3.1 q3.2 hq
      obtain ⟨es', he'⟩ := hstep (i, j) (List.mem_singleton.2 rfl)
      exact wpAny_take hoi hsel q2 q1 (fun c a w hc => (hpan c _ w hc).elim) hy (ih j _ es' s0 _ w he' hI0 (meets_sound hh hm))
     ·cases q3
   ·simp only [Bool.and_eq_true, Bool.not_eq_true'] at h2
    refine wpAny_all rfl (by intro he; rw [he] at h2; simp at h2) fun i hi => ?_
    have his : i < ops.size := by
     unfold Region.ready at hi
     have := (List.mem_filter.1 hi).1
     simpa using this
    have := List.all_eq_true.1 h2.2 i hi
    obtain ⟨⟨i', j⟩, hp, hb⟩ := List.any_eq_true.1 this
    obtain rfl : i' = i := Nat.eq_of_beq_eq_true hb
    have hq := edge_get hew hp
    have hget : ops[i']? = some (ops.getD i' default) := by simp [his]
    unfold wpOp
    rw [hget]
    simp only
    obtain ⟨Z, φ, hr⟩ := h
    obtain ⟨es', he'⟩ := hstep (i', j) hp
    exact op_sound hT hr hq fun s' a' w' ⟨gs, s0, hI0, hm⟩ hh => ih j _ es' s0 a' w' he' hI0 (meets_sound hh hm)
theorem plan_sound (hT : TyOk C) {ops : Array Oper} (hsel : Region.noSelect ops = true) (hpan : ∀ c a w, Q (.panic c) a w → False) (t : PT) :
  (∀ (fin : Nat → Array Bool → Bool) (k : St → Prop), (∀ n l s a w, fin n l = true → k s → Holds C E s a w → wpAny C.P .any ops Q n l a w) →
   ∀ (n : Nat) (listed : Array Bool) (s : St) (a : Act) (w : World), planOk C ops t true fin n listed = true → Holds C E s a w → treeWp C (Spec C) ops t s k → wpAny C.P .any ops Q n listed a w) ∧
  (∀ (fin : Nat → Array Bool → Bool) (k : St → Prop), (∀ n l s a w, fin n l = true → k s → Holds C E s a w → wpAny C.P .any ops Q n l a w) →
   ∀ (n : Nat) (listed : Array Bool) (s : St) (a : Act) (w : World), planOk C ops t false fin (n + 1) listed = true → Holds C E s a w → treeWp C (Spec C) ops t s k → ∀ i ∈ alts t, i < ops.size → wpOp C.P ops Q i (wpAny C.P .any ops Q n (listed.setIfInBounds i true)) a w) := by
 induction t with
 | done => exact ⟨fun fin k hn n listed s a w hp h hq => hn n listed s a w (by simpa [planOk] using hp) hq h, fun _ _ _ n listed s a w _ _ _ i hi => by simp [alts] at hi⟩
 | stop => exact ⟨fun fin k hn n listed s a w hp h hq => by simp [planOk] at hp, fun _ _ _ n listed s a w _ _ _ i hi => by simp [alts] at hi⟩
 | q i t ih =>
  refine ⟨fun fin k hn n listed s a w hp h hq => ?_, fun _ _ _ n listed s a w _ _ _ i hi => by simp [alts] at hi⟩
  cases n with
  | zero => simp [planOk] at hp
  | succ n =>
   simp only [planOk, Bool.and_eq_true, Bool.true_and] at hp
   obtain ⟨⟨⟨h1, h2⟩, h3⟩, h4⟩ := hp
   split at h3
   ·rename_i oi hoi
    simp only [Bool.and_eq_true, Bool.not_eq_true'] at h3
    have hget : ops.getD i default = oi := by
     have := (Array.getElem?_eq_some_iff.1 hoi)
     obtain ⟨hlt, he⟩ := this
     simp [hoi]
    simp only [treeWp, hget] at hq
    obtain ⟨Z, φ, hr⟩ := h
    obtain ⟨y, s', hy, hk', hh⟩ := op_yields hT hr h3.1 h3.2 hq
    exact wpAny_take hoi hsel h2 h1 (fun c a w hc => (hpan c _ w hc).elim) hy (ih.1 fin k hn n _ s' _ w h4 hh hk')
   ·cases h3
 | alt j t r iht ihr =>
  have key : ∀ (fin : Nat → Array Bool → Bool) (k : St → Prop), (∀ n l s a w, fin n l = true → k s → Holds C E s a w → wpAny C.P .any ops Q n l a w) →
    ∀ (n : Nat) (listed : Array Bool) (s : St) (a : Act) (w : World), planOk C ops t true fin n (listed.setIfInBounds j true) = true → planOk C ops r false fin (n + 1) listed = true → Holds C E s a w → treeWp C (Spec C) ops (.alt j t r) s k → ∀ i ∈ alts (.alt j t r), i < ops.size → wpOp C.P ops Q i (wpAny C.P .any ops Q n (listed.setIfInBounds i true)) a w := by
   intro fin k hn n listed s a w hp1 hp2 h hq i hi hs
   simp only [treeWp] at hq
   simp only [alts, List.mem_cons] at hi
   by_cases hij : i = j
   ·subst hij
    have hget : ops[i]? = some (ops.getD i default) := by simp [hs]
    unfold wpOp
    rw [hget]
    simp only
    obtain ⟨Z, φ, hr⟩ := h
    exact op_sound hT hr hq.1 fun s' a' w' hk' hh => iht.1 fin k hn n _ s' a' w' hp1 hh hk'
   ·exact ihr.2 fin k hn n listed s a w hp2 h hq.2 i (hi.resolve_left hij) hs
  refine ⟨fun fin k hn n listed s a w hp h hq => ?_, fun fin k hn n listed s a w hp h hq i hi hs => ?_⟩
  ·cases n with
   | zero => simp [planOk] at hp
   | succ n =>
    simp only [planOk, Bool.and_eq_true, Bool.not_true, Bool.false_or] at hp
    obtain ⟨⟨⟨h1, h2⟩, h3⟩, h4⟩ := hp
    refine wpAny_all rfl (by intro he; rw [he] at h2; simp at h2) fun j' hj => ?_
    have hjs : j' < ops.size := by
     unfold Region.ready at hj
     have := (List.mem_filter.1 hj).1
     simpa using this
    have hmem : j' ∈ j :: alts r := by
     have := List.all_eq_true.1 h1 j' hj
     simpa using this
    exact key fin k hn n listed s a w h3 h4 h hq j' hmem hjs
  ·simp only [planOk, Bool.and_eq_true, Bool.not_false, Bool.true_or, true_and] at hp
   exact key fin k hn n listed s a w hp.1 hp.2 h hq i hi hs
 | cut m e t r iht ihr =>
  refine ⟨fun fin k hn n listed s a w hp h hq => ?_, fun _ _ _ n listed s a w _ _ _ i hi => by simp [alts] at hi⟩
  simp only [planOk, Bool.and_eq_true, Bool.true_and] at hp
  obtain ⟨α, shape, I, h1, h2⟩ := hq
  refine iht.1 _ _ (fun n' l s' a' w' hf hk hh => ?_) n listed s a w hp.1 h h1
  rw [Bool.and_eq_true] at hf
  obtain rfl := Nat.eq_of_beq_eq_true hf.1
  obtain rfl := eq_of_beq hf.2
  obtain ⟨gs, x, hI, hm⟩ := hk
  exact ihr.1 fin k hn _ _ _ a' w' hp.2 (meets_sound hh hm) (h2 x hI)
 | dag nodes t iht =>
  refine ⟨fun fin k hn n listed s a w hp h hq => ?_, fun _ _ _ n listed s a w _ _ _ i hi => by simp [alts] at hi⟩
  simp only [planOk, Bool.true_and] at hp
  split at hp
  ·rename_i e m es e' m' es' h1 h2
   simp only [Bool.and_eq_true] at hp
   obtain ⟨⟨⟨p1, p2⟩, p3⟩, p4⟩ := hp
   obtain rfl := eq_of_beq p1
   obtain rfl := Nat.eq_of_beq_eq_true p2
   obtain ⟨Inv, ⟨gs, s0, hI0, hm⟩, hnw, hfin⟩ := hq
   refine dag_sound hT hsel hpan p3 hnw (fun e1 m1 es1 hl s a w hI hh => ?_) m 0 e es s0 a w ?_ hI0 (meets_sound h hm)
   ·rw [h2] at hl; cases hl
    exact iht.1 fin k hn _ _ s a w p4 hh (hfin s hI)
   ·rw [← List.head?_eq_getElem?]; exact h1
  ·cases hp
theorem tree_sound (hT : TyOk C) {ops : Array Oper} (hsel : Region.noSelect ops = true) (hpan : ∀ c a w, Q (.panic c) a w → False) (hn : ∀ s a w, k s → Holds C E s a w → Q .normal a w)
  (n : Nat) (t : PT) (listed : Array Bool) (s : St) (a : Act) (w : World) (hp : planOk C ops t true (fun _ l => (Region.ready .any ops l).isEmpty) n listed = true) (h : Holds C E s a w) (hq : treeWp C (Spec C) ops t s k) : wpAny C.P .any ops Q n listed a w :=
 (plan_sound hT hsel hpan t).1 _ k (fun n l s a w hf hk hh => wpAny_done (by simpa using hf) (hn s a w hk hh) n) n listed s a w hp h hq
end
theorem Holds.drawn (h : Holds C E s a w) : Holds C E s a { w with drawn := w.drawn + 1 } := by
 obtain ⟨Z, φ, h⟩ := h
 exact ⟨Z, φ, h.drew⟩
theorem code_sound (hT : TyOk C) (hmix : C.P.follows .mixedOrders = true) (c : Code) : ∀ (Q : Ex → St → Prop) (Q' : Exit → Act → World → Prop) (s : St) (a : Act) (w : World),
  (∀ e s a w, Q e s → Holds C E s a w → Q' e.to a w) → (∀ ch a w, Q' (.panic ch) a w → False) → codeWp C (Spec C) c Q s → Holds C E s a w → c.wp C.P Q' a w := by
 induction c with
 | skip => intro Q Q' s a w hQ hP hq h; exact wp_skip (hQ .normal s a w hq h)
 | region id ops draw =>
  intro Q Q' s a w hQ hP hq h
  cases draw with
  | false =>
   refine wp_region ?_
   rw [List.range_eq_range']
   exact ops_sound hT (k := Q .normal) (fun s a w hk hh => hQ .normal s a w hk hh) ops.size 0 s a w (by omega) h (by simpa [codeWp] using hq)
  | true =>
   obtain ⟨t, hp, hq⟩ := hq
   unfold planned at hp
   rw [Bool.and_eq_true] at hp
   exact wp_region_any hmix (tree_sound hT hp.1 hP (k := Q .normal) (fun s a w hk hh => hQ .normal s a w hk hh) ops.size t _ s a _ hp.2 h.drawn hq)
 | seq x y ihx ihy =>
  intro Q Q' s a w hQ hP hq h
  refine wp_seq (ihx _ _ s a w (fun e s a w hq h => ?_) (fun ch a w hp => hP ch a w hp) hq h)
  cases e with
  | normal => exact ihy Q Q' s a w hQ hP hq h
  | exit id => exact hQ (.exit id) s a w hq h
  | ret => exact hQ .ret s a w hq h
 | cond c x y ihx ihy =>
  intro Q Q' s a w hQ hP hq h
  simp only [codeWp] at hq
  obtain ⟨Z, φ, hr⟩ := h
  obtain ⟨v, hq, hv⟩ := hr.opd hq
  split at hq
  ·rename_i b
   have hb := (hv trivial).bool_inv
   exact wp_cond_split hb (fun ht => ihx Q Q' s a w hQ hP (hq.1 ht) ⟨Z, φ, hr⟩) (fun ht => ihy Q Q' s a w hQ hP (hq.2 ht) ⟨Z, φ, hr⟩)
  ·exact hq.elim
 | block id c ih =>
  intro Q Q' s a w hQ hP hq h
  refine wp_block (ih _ _ s a w (fun e s a w hq h => ?_) (fun ch a w hp => hP ch a w hp) hq h)
  cases e with
  | normal => exact hQ .normal s a w hq h
  | exit i =>
   simp only [Ex.blk] at hq
   simp only [Ex.to, Exit.inBlock]
   split
   ·rename_i hi; rw [if_pos hi] at hq; exact hQ .normal s a w hq h
   ·rename_i hi; rw [if_neg hi] at hq; exact hQ (.exit i) s a w hq h
  | ret => exact hQ .ret s a w hq h
 | loop c ih =>
  intro Q Q' s a w hQ hP hq h
  obtain ⟨α, shape, I, μ, ⟨gs, x0, hI, hm⟩, hround⟩ := hq
  have key : ∀ n x a w, μ x < n → I x → Holds C E (shape x) a w → Code.rounds C.P c Q' n a w := by
   intro n
   induction n with
   | zero => intro x a w hlt; exact absurd hlt (Nat.not_lt_zero _)
   | succ n ihn =>
    intro x a w hlt hx hh
    rw [rounds_succ]
    refine ih _ _ (shape x) a w (fun e s a w hq h => ?_) (fun ch a w hp => hP ch a w hp) (hround x hx) hh
    cases e with
    | normal =>
     obtain ⟨gs, y, hy, hlt', hm⟩ := hq
     exact ihn y a w (by omega) hy (meets_sound h hm)
    | exit id => exact hQ (.exit id) s a w hq h
    | ret => exact hQ .ret s a w hq h
  exact wp_loop_rounds (μ x0 + 1) (key _ x0 a w (Nat.lt_succ_self _) hI (meets_sound h hm))
 | exit id => intro Q Q' s a w hQ hP hq h; exact wp_exit (hQ (.exit id) s a w hq h)
 | ret => intro Q Q' s a w hQ hP hq h; exact wp_ret (hQ .ret s a w hq h)
 | _ => intro Q Q' s a w hQ hP hq h; exact hq.elim
end Go.Vc
namespace Go.Vc
open Go
variable {C : Ctx} {E : Env} {Z : Nat → Prop} {φ : Phi} {s : St} {a : Act} {w : World}
theorem run_box (hT : TyOk C) (h : Rel C E Z φ s a w) {id off t : Nat} {l : List PV} {x : Value} (hx : Rep ⟨w, Z, E.w0.heap.size, φ⟩ (.ptr id off) x) (hl : lookB id s.heap = some (.box l)) (hz : 0 < C.size t) (hoff : off + C.size t ≤ l.length) :
  ∃ y, ((do loadVar t (← asAddr x) : Sem Value)).run C.P w = .ok y w ∧ Rep ⟨w, Z, E.w0.heap.size, φ⟩ (partP C t l off) y := by
 cases hx with
 | ptr _ _ b m hb =>
  obtain ⟨b', cs, T, ⟨m', h1⟩, h2, h3, h4, h5, h6⟩ := h.heap.blk id _ hl
  have hbb : b' = b := by have := h1.symm.trans hb; simp only [Option.some.injEq, Prod.mk.injEq] at this; exact this.1
  subst hbb
  have hcell : ∀ i, i < l.length → w.cell? ⟨b', i, none⟩ = some (cs.getD i undef) := fun i hi => by
   have hlt : i < cs.size := by omega
   simp only [World.cell?, h4]
   simp [hlt]
  have he : ∀ (i : Nat) u, l[i]? = some u → Rep ⟨w, Z, E.w0.heap.size, φ⟩ u (cs.getD i undef) := fun i u hu => by
   obtain ⟨y, e1, e2, _⟩ := h6 i u hu
   simpa [e1] using e2
  unfold partP
  cases hag : (C.ty t).agg with
  | true =>
   refine ⟨.agg ⟨(List.range (C.size t)).map fun i => cs.getD (off + i) undef⟩, ?_, .agg _ _ (by simp; omega) (fun i u y hu hy => ?_)⟩
   ·have hr := run_loadCells (P := C.P) w ⟨b', off, none⟩ (C.size t) (fun i => cs.getD (off + i) undef) (fun j hj => by rw [Addr.add_lit]; exact hcell _ (by omega))
    simp [asAddr, loadVar, run_isAgg hT hz, hag, run_size hT hz, hr]
   ·rw [List.getElem?_take] at hu
    split at hu
    ·rename_i hi
     rw [List.getElem?_drop] at hu
     simp only [List.getElem?_map, List.getElem?_range hi, Option.map_some, Option.some.injEq] at hy
     subst hy
     exact he _ u hu
    ·cases hu
  | false =>
   refine ⟨cs.getD off undef, ?_, he off _ (by simp [nth, List.getD, show off < l.length by omega])⟩
   have := hcell off (by omega)
   simp [asAddr, loadVar, run_isAgg hT hz, hag, this]
theorem results_list (hT : TyOk C) (h : Rel C E Z φ s a w) : ∀ (rs : List ResultVar) (us : List PV), resultP C s rs = some us →
  ∃ xs : List Value, (rs.mapM fun r => (match r with | .tmp t => pure (a.tmps.getD t undef) | .cell c t => do loadVar t (← asAddr (a.tmps.getD c undef)) : Sem Value)).run C.P w = .ok xs w ∧ us.length = xs.length ∧
   ∀ (i : Nat) u x, us[i]? = some u → xs[i]? = some x → Rep ⟨w, Z, E.w0.heap.size, φ⟩ u x
 | [], us, hr => by
  simp only [resultP, Option.some.injEq] at hr
  subst hr
  exact ⟨[], by simp, rfl, fun i u x hu => by simp at hu⟩
 | .tmp t :: r, us, hr => by
  simp only [resultP] at hr
  split at hr
  ·cases hr
  ·rename_i vs hvs hc
   simp only [Option.some.injEq] at hr
   subst hr
   obtain ⟨xs, h1, h2, h3⟩ := results_list hT h r vs hvs
   refine ⟨a.tmps.getD t undef :: xs, ?_, by simp [h2], fun i u x hu hx => ?_⟩
   ·rw [List.mapM_cons]
    simp only [Sem.run_bind, Sem.run_pure, Result.andThen_ok, h1]
   ·cases i with
    | zero => simp at hu hx; subst hu; subst hx; simpa using h.slots t
    | succ i => exact h3 i u x (by simpa using hu) (by simpa using hx)
  ·cases hr
 | .cell c t :: r, us, hr => by
  simp only [resultP] at hr
  split at hr
  ·rename_i id off vs hc hvs
   split at hr
   ·rename_i l hl
    split at hr
    ·rename_i hz
     simp only [Option.some.injEq] at hr
     subst hr
     obtain ⟨xs, h1, h2, h3⟩ := results_list hT h r vs hvs
     have hsl := h.slots c
     rw [hc] at hsl
     obtain ⟨y, g1, g2⟩ := run_box hT h hsl hl hz.1 hz.2
     refine ⟨y :: xs, ?_, by simp [h2], fun i u x hu hx => ?_⟩
     ·rw [List.mapM_cons]
      simp only [Sem.run_bind] at g1 ⊢
      simp only [g1, Result.andThen_ok, h1, Sem.run_pure]
     ·cases i with
      | zero => simp at hu hx; subst hu; subst hx; exact g2
      | succ i => exact h3 i u x (by simpa using hu) (by simpa using hx)
    ·cases hr
   ·cases hr
  ·cases hr
theorem ret_sound (hT : TyOk C) (h : Rel C E Z φ s a w) {fn : Func} {gv : Bool} {n0 : Nat} {Post : PV → List (Nat × Blk) → Prop} (hn0 : ∀ i ∈ s.kb, i < n0)
  (hq : retWp C gv n0 s.kb fn.results.toList Post s) :
  ∃ v, (results fn a.tmps).run C.P w = .ok v w ∧ ∃ r h' φ' Z', Post r h' ∧ Rep ⟨w, Z', E.w0.heap.size, φ'⟩ r v ∧ HeapRep ⟨w, Z', E.w0.heap.size, φ'⟩ E.own h' ∧
   (∀ i ∈ s.kb, φ' i = E.φ0 i ∧ ∃ l, lookB i h' = some (.box l)) ∧ (∀ b, Z' b → b < w.heap.size) ∧ (∀ b, Z' b → E.Z0 b ∨ E.own b ∨ E.w0.heap.size ≤ b) ∧ (∀ b, E.Z0 b → Z' b) := by
 unfold retWp at hq
 split at hq
 ·rename_i us hus
  obtain ⟨⟨hcl, hlabs, hbor⟩, hP⟩ := hq
  obtain ⟨xs, hx1, hx2, hx3⟩ := results_list hT h _ _ hus
  obtain ⟨cs, hcs⟩ : ∃ cs : List PV, cs = if gv then [] else us.flatMap PV.cells := ⟨_, rfl⟩
  have hZ1 : ∃ Z1 : Nat → Prop, (∀ b, Z b → Z1 b) ∧ Rel C E Z1 φ { s with heap := freezeAll cs s.heap } a w := by
   cases gv with
   | true => exact ⟨Z, fun _ h => h, by subst hcs; exact h⟩
   | false => obtain ⟨Z1, h1, h2⟩ := h.freezeAll cs; exact ⟨Z1, h1, h2⟩
  obtain ⟨Z1, hZ, hrel⟩ := hZ1
  obtain ⟨vs, hvs⟩ : ∃ vs, vs = us.map (through gv s.heap) := ⟨_, rfl⟩
  rw [← hvs] at hcl hlabs hbor hP
  obtain ⟨l, hl⟩ : ∃ l, l = reached s.heap (s.kb ++ labsL vs) := ⟨_, rfl⟩
  rw [← hl] at hcl hlabs hbor hP
  have hnd : l.Nodup := by rw [hl]; exact reached_nodup ..
  have hsome : ∀ i ∈ l, ∃ b, lookB i s.heap = some b := by rw [hl]; exact reached_some _ _
  have hcs2 : cs.all (fun u => !u.refIn l) = true := by
   cases gv with
   | true => rw [hcs]; rfl
   | false => rw [hcs]; simpa using hbor
  have hstay : ∀ i ∈ l, lookB i (freezeAll cs s.heap) = lookB i s.heap := fun i hi => freezeAll_other cs s.heap (notRef_of hcs2 hi)
  have hthr : ∀ (i : Nat) u x, vs[i]? = some u → xs[i]? = some x → Rep ⟨w, Z1, E.w0.heap.size, φ⟩ u x := fun i u x hu hx => by
   rw [hvs, List.getElem?_map, Option.map_eq_some_iff] at hu
   obtain ⟨u0, hu0, rfl⟩ := hu
   have hr := hx3 i u0 x hu0 hx
   cases gv with
   | true => exact Rep.step (R := ⟨w, Z, E.w0.heap.size, φ⟩) (R' := ⟨w, Z1, E.w0.heap.size, φ⟩) ⟨rfl, fun b hb => ⟨hZ b hb, rfl⟩, fun b cs T hb => ⟨cs, hb, rfl⟩⟩ (fun _ _ h => h) hr
   | false =>
    refine hrel.readThrough hZ (fun c hc => ?_) hr
    rw [hcs]
    exact List.mem_flatMap.2 ⟨u0, List.mem_of_getElem? hu0, hc⟩
  obtain ⟨out, hout⟩ : ∃ f, f = outL n0 l := ⟨_, rfl⟩
  rw [← hout] at hP
  have hinj : ∀ i ∈ l, ∀ j ∈ l, out i = out j → i = j := fun i hi j hj he => by
   rw [hout] at he
   unfold outL at he
   split at he
   ·split at he
    ·exact he
    ·omega
   ·split at he
    ·omega
    ·exact idx_inj l i hi j hj (by omega)
  let φ' : Phi := fun n => (l.find? fun i => out i == n).bind φ
  have pA : ∀ i x, i ∈ l → φ i = some x → φ' (out i) = some x := fun i x hi hx => by
   have : l.find? (fun j => out j == out i) = some i := by
    cases hc : l.find? (fun j => out j == out i) with
    | none =>
     have := List.find?_eq_none.1 hc i hi
     simp at this
    | some j =>
     have h1 := List.find?_some hc
     have h2 := List.mem_of_find?_eq_some hc
     rw [hinj j h2 i hi (by simpa using h1)]
   simp only [φ', this, Option.bind_some]; exact hx
  have pB : ∀ n x, φ' n = some x → ∃ i ∈ l, n = out i ∧ φ i = some x := fun n x hn => by
   simp only [φ', Option.bind_eq_some_iff] at hn
   obtain ⟨i, hi, hx⟩ := hn
   have h1 := List.find?_some hi
   exact ⟨i, List.mem_of_find?_eq_some hi, by
    have : out i = n := by simpa using h1
    exact this.symm, hx⟩
  have hmk := lookB_mk (f := fun i => (blkAt s.heap i).mapL out) (σ := out) l hinj
  have hrep : ∀ (i : Nat) u x, (mapLL out vs)[i]? = some u → xs[i]? = some x → Rep ⟨w, Z1, E.w0.heap.size, φ'⟩ u x := fun i u x hu hx => by
   rw [mapLL_get, Option.map_eq_some_iff] at hu
   obtain ⟨u', hu', rfl⟩ := hu
   refine Rep.moved (R := ⟨w, Z1, E.w0.heap.size, φ⟩) (R' := ⟨w, Z1, E.w0.heap.size, φ'⟩) (fun o b hb => ⟨hb, rfl⟩) out (K := fun i => i ∈ l) (fun id x hk hx => ⟨pA id x hk hx, fun b _ cs T hc => ⟨cs, hc, rfl⟩⟩) (hthr i u' x hu' hx) fun j hj => ?_
   have := List.all_eq_true.1 hlabs j (List.mem_append_right _ (labs_mem vs i u' j hu' hj))
   simpa using this
  have hlenm : (mapLL out vs).length = xs.length := by rw [mapLL_len, hvs, List.length_map, hx2]
  refine ⟨if xs.length = 1 then xs.getD 0 undef else .tuple ⟨xs⟩, ?_, _, _, φ', Z1, hP, ?_, ⟨fun n b hb => ?_, fun n m b m1 m2 hzb hn hm => ?_, fun n x hn => ?_⟩, fun i hi => ?_, hrel.zlt, hrel.zin, hrel.z0⟩
  ·unfold results
   rw [Array.mapM_eq_mapM_toList]
   have hx1' : ((List.toArray <$> fn.results.toList.mapM fun r => (match r with | .tmp t => pure (a.tmps.getD t undef) | .cell c t => do loadVar t (← asAddr (a.tmps.getD c undef)) : Sem Value))).run C.P w = .ok ⟨xs⟩ w := by
    rw [← bind_pure_comp]
    simp only [Sem.run_bind, hx1, Result.andThen_ok, Sem.run_pure]
   rw [Sem.run_bind]
   refine Eq.trans (congrArg (fun z => Result.andThen z _) hx1') ?_
   simp only [Result.andThen_ok]
   cases xs with
   | nil => simp
   | cons x r => cases r <;> simp
  ·cases xs with
   | nil =>
    have : mapLL out vs = [] := List.eq_nil_of_length_eq_zero hlenm
    rw [this]
    exact .tup _ _ rfl fun i u x hu => by simp at hu
   | cons x r =>
    cases r with
    | nil =>
     obtain ⟨u, hu⟩ := List.length_eq_one_iff.1 hlenm
     rw [hu] at hrep ⊢
     exact hrep 0 u x rfl rfl
    | cons x2 r2 =>
     have hne : single (mapLL out vs) = .tup (mapLL out vs) := by
      cases hc : mapLL out vs with
      | nil => rfl
      | cons u r =>
       cases r with
       | nil => rw [hc] at hlenm; simp at hlenm
       | cons => rfl
     rw [hne, if_neg (by simp)]
     exact .tup _ _ hlenm hrep
  ·obtain ⟨i, hi, rfl, rfl⟩ := hmk.2 n b hb
   obtain ⟨bb, hbb⟩ := hsome i hi
   have hrb := hrel.heap.blk i bb ((hstay i hi).trans hbb)
   rw [blkAt_some hbb]
   refine hrb.moved (K := fun i => i ∈ l) (Nat.le_refl _) (fun id x hk hx => pA id x hk hx) hi (fun j hj => ?_) fun b m _ ho => ho
   have := List.all_eq_true.1 hcl i hi
   rw [blkAt_some hbb] at this
   have := List.all_eq_true.1 this j hj
   simpa using this
  ·obtain ⟨i, hi, e1, hn'⟩ := pB _ _ hn
   obtain ⟨j, hj, e2, hm'⟩ := pB _ _ hm
   rw [e1, e2, hrel.heap.inj i j b m1 m2 hzb hn' hm']
  ·obtain ⟨i, hi, rfl, hn⟩ := pB _ _ hn
   rw [hmk.1 i hi]; rfl
  ·have hil : i ∈ l := by
    have := List.all_eq_true.1 hlabs i (List.mem_append_left _ hi)
    simpa using this
   obtain ⟨g1, l0, g2⟩ := h.fix i hi
   have ho : out i = i := by rw [hout]; unfold outL; rw [if_pos (hn0 i hi)]
   have hx : ∃ x, φ i = some x := by
    obtain ⟨b, _, _, ⟨m, hm⟩, _⟩ := h.heap.blk i _ g2
    exact ⟨_, hm⟩
   obtain ⟨x, hx⟩ := hx
   have e1 := pA i x hil hx
   rw [ho] at e1
   have e2 := hmk.1 i hil
   rw [ho, blkAt_some g2] at e2
   exact ⟨by rw [e1, ← hx]; exact g1, _, e2⟩
 ·exact hq.elim
end Go.Vc
namespace Go.Vc
open Go
variable {C : Ctx}
theorem look_entry : ∀ (args : List PV) (k t : Nat), look t ((List.range' k args.length).zip args) = if k ≤ t then args.getD (t - k) .undef else .undef
 | [], k, t => by simp [look]
 | u :: r, k, t => by
  simp only [List.length_cons, List.range'_succ, List.zip_cons_cons, look, look_entry r (k + 1) t]
  by_cases h : t = k
  ·subst h; simp
  ·rw [if_neg h]
   by_cases h2 : k + 1 ≤ t
   ·rw [if_pos h2, if_pos (by omega)]
    have : t - k = t - (k + 1) + 1 := by omega
    rw [this]; simp
   ·rw [if_neg h2, if_neg (by omega)]
theorem boxes_look : ∀ (h : List (Nat × Blk)) (i : Nat), i ∈ boxes h → (keys h).Nodup → ∃ l, lookB i h = some (.box l)
 | [], i, hi, _ => by simp [boxes] at hi
 | (u, .box l) :: r, i, hi, hn => by
  simp only [boxes, List.mem_cons] at hi
  simp only [lookB]
  split
  ·exact ⟨l, rfl⟩
  ·rename_i hne
   exact boxes_look r i (hi.resolve_left hne) (by simp only [keys, List.map_cons, List.nodup_cons] at hn; exact hn.2)
 | (u, .row ..) :: r, i, hi, hn => by
  simp only [boxes] at hi
  simp only [keys, List.map_cons, List.nodup_cons] at hn
  obtain ⟨l, hl⟩ := boxes_look r i hi hn.2
  simp only [lookB]
  split
  ·rename_i he
   subst he
   exact absurd (key_look _ _ _ hl) hn.1
  ·exact ⟨l, hl⟩
 | (u, .fro ..) :: r, i, hi, hn => by
  simp only [boxes] at hi
  simp only [keys, List.map_cons, List.nodup_cons] at hn
  obtain ⟨l, hl⟩ := boxes_look r i hi hn.2
  simp only [lookB]
  split
  ·rename_i he
   subst he
   exact absurd (key_look _ _ _ hl) hn.1
  ·exact ⟨l, hl⟩
theorem callFunc_run {P : Program} {f : Nat} {fn : Func} {c : Code} (hf : P.funcs[f]? = some fn) (hname : (fn.name == "runtime.NumGoroutine") = false) (hb : fn.body = some c) (args : Array Value) (w : World) :
  (callFunc f args).run P w = .ok (.enter f args) w := by
 have hn2 : fn.name ≠ "runtime.NumGoroutine" := by simpa using hname
 simp [callFunc, Sem.run_bind, run_program, hf, hn2, hb]
theorem cspec_core (hT : TyOk C) {f : Nat} {fn : Func} {c : Code} (hf : C.P.funcs[f]? = some fn) (hb : fn.body = some c) (gv : Bool) {args : List PV} {h : List (Nat × Blk)}
  {Post : PV → List (Nat × Blk) → Prop} (hlen : args.length ≤ fn.ntmps) (hnd : (keys h).Nodup)
  (hwp : ∀ (E : Env) (Q' : Exit → Act → World → Prop) (a : Act) (w : World), (∀ e s a w, bodyQ C gv (fresh h) (boxes h) fn.results.toList Post e s → Holds C E s a w → Q' e.to a w) → (∀ ch a w, Q' (.panic ch) a w → False) → Holds C E (St.entry fn.ntmps args h) a w → c.wp C.P Q' a w) : CSpec C f args h Post := by
 intro w Z φ vs hbef
 obtain ⟨h1, h2, h3, h4, h5⟩ := hbef
 have hbl : ∀ i ∈ boxes h, i < fresh h := fun i hi => by obtain ⟨l, hl⟩ := boxes_look h i hi hnd; exact lookB_fresh _ _ _ hl
 let E : Env := ⟨w, ownOf Z φ, Z, φ, fun b ⟨⟨i, m, hi⟩, _⟩ => by
  obtain ⟨bb, hbb⟩ := Option.isSome_iff_exists.1 (h3.keys i _ hi)
  exact (h3.blk i bb hbb).lt b m hi, fun b hz => ⟨h4 b hz, fun ho => ho.2 hz⟩⟩
 have hrel : Rel C E Z φ (St.entry fn.ntmps args h) { tmps := ⟨vs⟩ ++ Array.replicate (fn.ntmps - (⟨vs⟩ : Array Value).size) undef, defers := [] } w := by
  refine ⟨by simp [St.entry]; omega, fun t => ?_, h3, h4, fun b hz => .inl hz, fun b hz => hz, ⟨rfl, rfl, rfl, Nat.le_refl _, fun b _ _ => rfl, fun b cs T hb => ⟨cs, hb, rfl⟩⟩, h5, rfl, fun i hi => ⟨rfl, boxes_look h i hi hnd⟩⟩
  show Rep _ (look t ((List.range args.length).zip args)) _
  rw [List.range_eq_range', look_entry, if_pos (Nat.zero_le _), Nat.sub_zero]
  by_cases ht : t < args.length
  ·have hv : t < vs.length := by omega
   have e1 : args[t]? = some (args.getD t .undef) := by rw [List.getD_eq_getElem?_getD, List.getElem?_eq_getElem ht]; rfl
   have e2 : vs[t]? = some (vs.getD t undef) := by rw [List.getD_eq_getElem?_getD, List.getElem?_eq_getElem hv]; rfl
   have := h2 t _ _ e1 e2
   have e3 : ((⟨vs⟩ : Array Value) ++ Array.replicate (fn.ntmps - (⟨vs⟩ : Array Value).size) undef).getD t undef = vs.getD t undef := by
    simp [Array.getD_eq_getD_getElem?, Array.getElem?_append_left, hv, List.getD]
   rw [e3]
   exact this
  ·have : args.getD t .undef = .undef := by rw [List.getD_eq_getElem?_getD, List.getElem?_eq_none (by omega)]; rfl
   rw [this]
   exact .undef _
 refine calls_of_wp hf hb (hwp E _ _ _ (fun e s a w' hq hh => ?_) (fun ch a w hp => ?_) ⟨Z, φ, hrel⟩)
 ·obtain ⟨Z2, φ2, hr⟩ := hh
  have key : s.kb = boxes h ∧ retWp C gv (fresh h) (boxes h) fn.results.toList Post s → a.defers = [] ∧ ∃ v, (results fn a.tmps).run C.P w' = .ok v w' ∧ ∃ v', Ending.returned v = .returned v' ∧ After w Z φ h Post v' w' := fun ⟨hkb, hq⟩ => by
   rw [← hkb] at hq
   obtain ⟨v, g1, r, h', φ', Z', g2, g3, g4, g5, g6, g7, g8⟩ := ret_sound hT hr (by rw [hkb]; exact hbl) hq
   refine ⟨hr.defers, v, g1, v, rfl, r, h', φ', Z', g2, g3, g4, fun i hi => g5 i (by rw [hkb]; exact hi), g6, g7, g8, hr.frame⟩
  cases e with
  | normal => exact key hq
  | exit id => exact hq.elim
  | ret => exact key hq
 ·obtain ⟨_, v, hv, _⟩ := hp
  cases hv
theorem spec_of_cspec {f : Nat} {fn : Func} {c : Code} (hf : C.P.funcs[f]? = some fn) (hname : (fn.name == "runtime.NumGoroutine") = false) (hb : fn.body = some c) {args : List PV} {h : List (Nat × Blk)} {Post : PV → List (Nat × Blk) → Prop}
  (hc : CSpec C f args h Post) : Spec C f args h Post := by
 refine ⟨fun w Z φ vs hbef o a next Q hn => ?_⟩
 rw [callFunc_run hf hname hb, Oper.upon_enter]
 exact Calls.mono (hc w Z φ vs hbef) fun e w' ⟨v, he, ha⟩ => by subst he; exact hn v w' ha
end Go.Vc
namespace Go.Vc
open Go
def tdOf : Option TypeDesc → TD
 | some (.int k) => .int k
 | some .bool => .bool
 | some .string => .str
 | some (.slice e) => .slice e
 | some (.array n e) => .arr n e
 | some (.struct F) => .struct (F.toList.map fun f => (f.offset, f.type))
 | some (.pointer e) => .ptr e
 | _ => .none
def szOf (P : Program) (t : Nat) : Nat :=
 match P.types[t]? with
 | none => 0
 | some i => match P.underlying t with
  | some _ => i.size
  | none => 0
def ctxOf (P : Program) (glob : Nat → PV) (give : Nat → Bool) (eqs : Nat → Bool) : Ctx where
 P := P
 ty t := match P.types[t]? with
  | none => .none
  | some _ => match szOf P t with
   | 0 => .none
   | _ => tdOf (P.underlying t)
 size t := szOf P t
 bytes t := match P.types[t]? with
  | some i => i.bytes
  | none => 0
 zero t := match P.types[t]? with
  | some i => match i.zero with
   | some z => z.cells.toList.map cellOf
   | none => []
  | none => []
 glob := glob
 give := give
 eqs := eqs
def structsOk (P : Program) : Bool := (List.range P.types.size).all fun t => match szOf P t with
 | 0 => true
 | _ => match P.underlying t with
  | some (.struct F) => F.toList.all fun f => szOf P f.type != 0
  | _ => true
theorem info_of {P : Program} {t : Nat} {i : TypeInfo} (h : P.types[t]? = some i) : P.info? t = some i := by
 have : t < P.types.size := (Array.getElem?_eq_some_iff.1 h).1
 unfold Tables.info?
 rw [if_pos this]
 exact h
def eqB (P : Program) (t : Nat) : Bool :=
 match P.underlying t with
 | some (.struct F) => !P.stoodInHeld t && !P.eqGuardType P.depth t && Nat.beq F.size (szOf P t) && (F.toList.zipIdx.all fun p => p.1.name != "_" && Nat.beq p.1.offset p.2 && Nat.beq (szOf P p.1.type) 1 && (P.types[p.1.type]?).isSome && (match P.underlying p.1.type with | some (.int _) => true | _ => false))
 | _ => false
theorem tyOk_ctxOf {P : Program} (hs : structsOk P = true) (glob : Nat → PV) (give : Nat → Bool) (eqs : Nat → Bool) (he : ∀ t, eqs t = true → eqB P t = true) : TyOk (ctxOf P glob give eqs) := by
 refine ⟨fun t => ?_, fun t ht => ?_, fun t ht => ?_, fun t ht ha d hd => ?_, fun t ht => ?_⟩
 ·cases hi : P.types[t]? with
  | none => simp [ctxOf, hi]
  | some i =>
   cases hu : P.underlying t with
   | none => simp [ctxOf, hi, hu, tdOf, szOf]
   | some d =>
    cases hz : szOf P t with
    | zero => simp [ctxOf, hi, hz]
    | succ m =>
    cases d <;> simp only [ctxOf, hi, hu, hz, tdOf]
    rename_i F
    refine ⟨F, rfl, rfl, fun p hp => ?_⟩
    have hlt : t < P.types.size := (Array.getElem?_eq_some_iff.1 hi).1
    have := List.all_eq_true.1 hs t (List.mem_range.2 hlt)
    rw [hz] at this
    simp only at this
    rw [hu] at this
    obtain ⟨f, hf, rfl⟩ := List.mem_map.1 hp
    have := List.all_eq_true.1 this f hf
    simpa using this
 ·simp only [ctxOf, szOf] at ht ⊢
  cases hi : P.types[t]? with
  | none => rw [hi] at ht; simp at ht
  | some i =>
   rw [hi] at ht
   simp only at ht
   cases hu : P.underlying t with
   | none => rw [hu] at ht; simp at ht
   | some d => exact ⟨i, info_of hi, by simp, by simp, by simp⟩
 ·simp only [ctxOf] at ht ⊢
  cases hi : P.types[t]? with
  | none => rw [hi] at ht; simp at ht
  | some i =>
   rw [hi] at ht
   simp only at ht
   cases hz : i.zero with
   | none => rw [hz] at ht; simp at ht
   | some z => exact ⟨i, z, info_of hi, hz, by simp [hz]⟩
 ·simp only [ctxOf] at ha hd ht
  cases hi : P.types[t]? with
  | none => simp [szOf, hi] at ht
  | some i =>
   cases hz : szOf P t with
   | zero => exact absurd hz ht
   | succ m =>
   rw [hi, hd, hz] at ha
   refine ⟨fun F hF => ?_, fun n e hF => ?_⟩
   ·subst hF; simp [tdOf, TD.agg] at ha
   ·subst hF; simp [tdOf, TD.agg] at ha
 ·have h := he t ht
  unfold eqB at h
  split at h
  ·rename_i F hF
   simp only [Bool.and_eq_true, Bool.not_eq_true'] at h
   obtain ⟨⟨⟨h1, h2⟩, h3⟩, h4⟩ := h
   refine ⟨F, hF, h1, h2, Nat.eq_of_beq_eq_true h3, fun i f hf => ?_⟩
   have hm : (f, i) ∈ F.toList.zipIdx := by
    rw [List.mem_zipIdx_iff_getElem?]
    exact hf
   have := List.all_eq_true.1 h4 _ hm
   simp only [Bool.and_eq_true, bne_iff_ne] at this
   obtain ⟨⟨⟨⟨q1, q2⟩, q3⟩, q4⟩, q5⟩ := this
   have q3' := Nat.eq_of_beq_eq_true q3
   refine ⟨q1, Nat.eq_of_beq_eq_true q2, q3', ?_⟩
   split at q5
   ·rename_i k hk
    refine ⟨k, ?_⟩
    obtain ⟨ii, hii⟩ := Option.isSome_iff_exists.1 q4
    simp only [ctxOf, hii, q3', hk, tdOf]
   ·cases q5
  ·cases h
end Go.Vc
