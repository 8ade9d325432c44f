/- What is proved here: contracts of functions of the program: of each function what it hands back and what it leaves in memory. Conditions: those that each theorem names. -/
import Derived.Test.YthhokabbanhllaaGreatDoorTBp
set_option linter.unusedVariables false
set_option linter.unusedSimpArgs false
set_option linter.unusedSectionVars false
namespace Go.Vc
open Go Go.Proofs
set_option maxRecDepth 100000
def Enc {α : Type} (p : List UInt8 → Except Int (α × List UInt8)) (a : α) (w : List UInt8) : Prop := (∀ r, p (w ++ r) = .ok (a, r)) ∧ ∀ k, k < w.length → p (w.take k) = .error 3
def thenP {α β : Type} (p : List UInt8 → Except Int (α × List UInt8)) (f : α → List UInt8 → Except Int (β × List UInt8)) (b : List UInt8) : Except Int (β × List UInt8) :=
 match p b with
 | .error e => .error e
 | .ok (a, r) => f a r
theorem Enc.bind {α β : Type} {p : List UInt8 → Except Int (α × List UInt8)} {f : α → List UInt8 → Except Int (β × List UInt8)} {a : α} {c : β} {w w' : List UInt8} (h1 : Enc p a w) (h2 : Enc (f a) c w') : Enc (thenP p f) c (w ++ w') := by
 refine ⟨fun r => ?_, fun k hk => ?_⟩
 ·unfold thenP
  rw [List.append_assoc, h1.1]
  exact h2.1 r
 ·unfold thenP
  by_cases h : k < w.length
  ·rw [List.take_append_of_le_length (by omega), h1.2 k h]
  ·rw [List.take_append, List.take_of_length_le (by omega), h1.1]
   exact h2.2 _ (by simp at hk; omega)
theorem Enc.pure {α : Type} (a : α) : Enc (fun b => .ok (a, b)) a [] := ⟨fun r => rfl, fun k hk => by simp at hk⟩
theorem Enc.map {α β : Type} {p : List UInt8 → Except Int (α × List UInt8)} {a : α} {w : List UInt8} {q : List UInt8 → Except Int (β × List UInt8)} {c : β} (h : Enc p a w) (h1 : ∀ b r, p b = .ok (a, r) → q b = .ok (c, r)) (h2 : ∀ b, p b = .error 3 → q b = .error 3) : Enc q c w :=
 ⟨fun r => h1 _ _ (h.1 r), fun k hk => h2 _ (h.2 k hk)⟩
theorem Enc.congr {α : Type} {p q : List UInt8 → Except Int (α × List UInt8)} {a : α} {w : List UInt8} (h : Enc p a w) (hpq : ∀ b, q b = p b) : Enc q a w :=
 ⟨fun r => by rw [hpq, h.1], fun k hk => by rw [hpq, h.2 k hk]⟩
theorem ub_nat (n : Nat) : ub (n : Int) = UInt8.ofNat n := by
 apply UInt8.toNat.inj
 have := ub_toNat (n : Int)
 rw [UInt8.toNat_ofNat']
 omega
theorem cons_enc {α : Type} {p q : List UInt8 → Except Int (α × List UInt8)} {a : α} {c : UInt8} {w : List UInt8} (h0 : p [] = .error 3) (h1 : ∀ r, p (c :: r) = q r) (h : Enc q a w) : Enc p a (c :: w) := by
 refine ⟨fun r => ?_, fun k hk => ?_⟩
 ·rw [List.cons_append, h1]; exact h.1 r
 ·cases k with
  | zero => exact h0
  | succ k => rw [List.take_succ_cons, h1]; exact h.2 k (by simp at hk; omega)
theorem takeP_enc (w : List UInt8) : Enc (takeP w.length) w w := by
 refine ⟨fun r => ?_, fun k hk => ?_⟩
 ·rw [takeP, if_neg (by simp), List.take_left' rfl, List.drop_left' rfl]
 ·rw [takeP, if_pos (by rw [List.length_take]; omega)]
theorem cnt_enc {m n : Nat} (hn : n ≤ m) (hm : m < 256) : Enc (cntP m) n [ub (n : Int)] := by
 have h : (UInt8.ofNat n).toNat = n := by rw [UInt8.toNat_ofNat']; omega
 refine cons_enc (q := fun r => .ok (n, r)) rfl (fun r => ?_) (.pure n)
 rw [ub_nat, cntP, h, if_neg (by omega)]
theorem text_enc {m : Nat} {s : List UInt8} (hn : s.length ≤ m) (hm : m < 256) : Enc (textP m) s (countedB s) := by
 have := (cnt_enc hn hm).bind (f := fun n r => takeP n r) (takeP_enc s)
 exact this.congr fun b => by unfold textP thenP; cases cntP m b <;> rfl
def mapP {α β : Type} (g : α → β) (p : Except Int (α × List UInt8)) : Except Int (β × List UInt8) :=
 match p with
 | .error e => .error e
 | .ok (a, r) => .ok (g a, r)
theorem Enc.mapP {α β : Type} (g : α → β) {p : List UInt8 → Except Int (α × List UInt8)} {a : α} {w : List UInt8} (h : Enc p a w) : Enc (fun b => Vc.mapP g (p b)) (g a) w :=
 ⟨fun r => by show Vc.mapP g (p (w ++ r)) = _; rw [h.1]; rfl, fun k hk => by show Vc.mapP g (p (w.take k)) = _; rw [h.2 k hk]; rfl⟩
theorem listP_then (f : VPar) (n : Nat) (b : List UInt8) : listP f (n + 1) b = thenP f (fun v r => mapP (fun l => v :: l) (listP f n r)) b := by
 simp only [listP, thenP]
 cases f b with
 | error e => rfl
 | ok p =>
  obtain ⟨v, r⟩ := p
  simp only
  cases listP f n r <;> rfl
theorem recP_then (f : VPar) (n : Nat) (b : List UInt8) : recP f (n + 1) b = thenP (textP 16) (fun s r => thenP f (fun v r => mapP (fun q => (s :: q.1, v :: q.2)) (recP f n r)) r) b := by
 simp only [recP, thenP]
 cases textP 16 b with
 | error e => rfl
 | ok p =>
  obtain ⟨s, r⟩ := p
  simp only
  cases f r with
  | error e => rfl
  | ok p =>
   obtain ⟨v, r⟩ := p
   simp only
   cases recP f n r <;> rfl
theorem list_enc {f : VPar} : ∀ (l : List V) (ns : List (List UInt8)), (∀ v ∈ l, Enc f v (writeV v)) → Enc (listP f l.length) l (writeVs false l ns)
 | [], _, _ => by
  rw [writeVs]
  exact (Enc.pure (α := List V) []).congr fun b => rfl
 | v :: l, ns, h => by
  have h1 := h v (by simp)
  have h2 := list_enc l ns.tail fun v hv => h v (by simp [hv])
  have h3 := (h1.bind (f := fun v r => mapP (fun l => v :: l) (listP f l.length r)) (h2.mapP fun l => v :: l)).congr fun b => listP_then f l.length b
  rw [writeVs]
  exact h3
theorem rec_enc {f : VPar} : ∀ (l : List V) (ns : List (List UInt8)), l.length = ns.length → (∀ s ∈ ns, s.length ≤ 16) → (∀ v ∈ l, Enc f v (writeV v)) → Enc (recP f l.length) (ns, l) (writeVs true l ns)
 | [], [], _, _, _ => by
  rw [writeVs]
  exact (Enc.pure (α := List (List UInt8) × List V) ([], [])).congr fun b => rfl
 | [], _ :: _, h, _, _ => by simp at h
 | _ :: _, [], h, _, _ => by simp at h
 | v :: l, s :: ns, hl, hs, h => by
  have h0 := text_enc (m := 16) (hs s (by simp)) (by omega)
  have h1 := h v (by simp)
  have h2 := rec_enc l ns (by simpa using hl) (fun s hs' => hs s (by simp [hs'])) fun v hv => h v (by simp [hv])
  have h3 := (h0.bind (f := fun s r => thenP f (fun v r => mapP (fun q => (s :: q.1, v :: q.2)) (recP f l.length r)) r)
   (h1.bind (f := fun v r => mapP (fun q => (s :: q.1, v :: q.2)) (recP f l.length r)) (h2.mapP fun q => (s :: q.1, v :: q.2)))).congr fun b => recP_then f l.length b
  rw [writeVs, List.append_assoc]
  exact h3
mutual
def nV : V → Prop
 | .mk _ n _ l _ => i64 n ∧ nVs l
def nVs : List V → Prop
 | [] => True
 | v :: l => nV v ∧ nVs l
end
mutual
theorem VP_nV : ∀ {v : V} {p : PV}, VP v p → nV v
 | .mk _ _ _ _ _, _, h => by
  simp only [VP] at h
  obtain ⟨z1, lp, t1, o1, z2, t2, o2, _, h1, _, _, h2⟩ := h
  exact ⟨h2, VPs_nV h1⟩
theorem VPs_nV : ∀ {l : List V} {lp : List PV}, VPs l lp → nVs l
 | [], _, _ => trivial
 | v :: l, lp, h => by
  simp only [VPs] at h
  obtain ⟨p, q, _, h1, h2⟩ := h
  exact ⟨VP_nV h1, VPs_nV h2⟩
end
theorem VA.nV {v : V} {z1 : Nat} {lp : List PV} {z2 : Nat} (h : VA v z1 lp z2) : nV v := by
 cases v
 exact ⟨h.n, VPs_nV h.l⟩
theorem nVs_mem : ∀ {l : List V} {v : V}, nVs l → v ∈ l → nV v
 | w :: l, v, h, hv => by
  rcases List.mem_cons.1 hv with rfl | hv
  ·exact h.1
  ·exact nVs_mem h.2 hv
theorem allVs_in : ∀ {l : List V} {v : V}, allVs l = true → v ∈ l → allV v = true
 | w :: l, v, h, hv => by
  simp only [allVs, Bool.and_eq_true] at h
  rcases List.mem_cons.1 hv with rfl | hv
  ·exact h.1
  ·exact allVs_in h.2 hv
theorem depthVs_in : ∀ {l : List V} {v : V}, v ∈ l → depthV v ≤ depthVs l
 | w :: l, v, hv => by
  simp only [depthVs]
  rcases List.mem_cons.1 hv with rfl | hv
  ·omega
  ·have := depthVs_in hv; omega
theorem rise_len : ∀ {ns : List (List UInt8)} {last : List UInt8}, rise last ns = true → ∀ s ∈ ns, s.length ≤ 16
 | [], _, _, s, hs => by simp at hs
 | n :: ns, last, h, s, hs => by
  simp only [rise, Bool.and_eq_true] at h
  rcases List.mem_cons.1 hs with rfl | hs
  ·have := h.1.2
   simp [isName] at this
   exact this.1.2
  ·exact rise_len h.2 s hs
theorem ownB_kind {k n : Int} {s : List UInt8} {m : Nat} {ns : List (List UInt8)} (h : ownB k n s m ns = true) : k = 0 ∨ k = 1 ∨ k = 2 ∨ k = 3 ∨ k = 4 ∨ k = 5 ∨ k = 6 := by
 unfold ownB at h
 split at h; · omega
 split at h; · omega
 split at h; · omega
 split at h; · omega
 split at h; · omega
 split at h; · omega
 split at h; · omega
 cases h
theorem ub_small {n : Int} (h0 : 0 ≤ n) (h1 : n < 256) : ((ub n).toNat : Int) = n := by rw [ub_toNat]; omega
theorem parse_enc : ∀ (d : Nat) (v : V), allV v = true → nV v → depthV v ≤ d → Enc (parseV d) v (writeV v) := by
 intro d
 induction d with
 | zero => intro v _ _ h; cases v; simp only [depthV] at h; omega
 | succ d ih =>
  intro v ha hn hd
  obtain ⟨k, n, s, l, ns⟩ := v
  simp only [allV, Bool.and_eq_true] at ha
  obtain ⟨ho, hal⟩ := ha
  simp only [nV] at hn
  obtain ⟨hn, hnl⟩ := hn
  simp only [depthV] at hd
  have hl : ∀ v ∈ l, Enc (parseV d) v (writeV v) := fun v hv => ih v (allVs_in hal hv) (nVs_mem hnl hv) (by have := depthVs_in hv; omega)
  have key : ∀ (q : Nat) (X : List UInt8), k = q → q ≤ 6 → writeV (.mk k n s l ns) = ub k :: X → Enc (bodyP (parseV d) q) (.mk k n s l ns) X → Enc (parseV (d + 1)) (.mk k n s l ns) (writeV (.mk k n s l ns)) := fun q X hk hq hw hb => by
   rw [hw]
   refine cons_enc (q := bodyP (parseV d) q) rfl (fun r => ?_) hb
   have h1 : (ub k).toNat = q := by have := ub_small (n := k) (by omega) (by omega); omega
   simp only [parseV, h1]
   rw [if_neg (by omega)]
  rcases ownB_kind ho with rfl | rfl | rfl | rfl | rfl | rfl | rfl
  ·simp [ownB] at ho
   obtain ⟨rfl, ⟨rfl, rfl⟩, rfl⟩ := ho
   exact key 0 [] rfl (by omega) rfl ((Enc.pure (α := V) _).congr fun b => rfl)
  ·simp [ownB] at ho
   obtain ⟨⟨rfl, rfl⟩, rfl⟩ := ho
   refine key 1 (be8 n) rfl (by omega) (by rw [writeV]; rfl) ?_
   have h8 := takeP_enc (be8 n)
   rw [be8_len] at h8
   refine h8.map (fun b r hb => ?_) (fun b hb => ?_)
   ·rw [bodyP, if_neg (by decide), if_pos rfl, hb]
    simp only
    rw [n8_be8 hn]
   ·rw [bodyP, if_neg (by decide), if_pos rfl, hb]
  ·simp [ownB] at ho
   obtain ⟨hn01, ⟨rfl, rfl⟩, rfl⟩ := ho
   refine key 2 [ub n] rfl (by omega) (by rw [writeV]; rfl) ?_
   refine (takeP_enc [ub n]).map (fun b r hb => ?_) (fun b hb => ?_)
   ·have hb : takeP 1 b = .ok ([ub n], r) := hb
    have h1 := ub_small (n := n) (by omega) (by omega)
    rw [bodyP, if_neg (by decide), if_neg (by decide), if_pos rfl, hb]
    refine (if_neg (show ¬ 1 < ([ub n].headD 0).toNat by show ¬ 1 < (ub n).toNat; omega)).trans ?_
    show Except.ok (V.mk 2 ((ub n).toNat : Int) [] [] [], r) = _
    rw [h1]
   ·have hb : takeP 1 b = .error 3 := hb
    rw [bodyP, if_neg (by decide), if_neg (by decide), if_pos rfl, hb]
  ·simp [ownB] at ho
   obtain ⟨⟨rfl, hs⟩, rfl, rfl⟩ := ho
   refine key 3 (countedB s) rfl (by omega) (by rw [writeV]; rfl) ?_
   refine (text_enc hs (by omega)).map (fun b r hb => ?_) (fun b hb => ?_)
   ·rw [bodyP, if_neg (by decide), if_neg (by decide), if_neg (by decide), if_pos rfl, hb]
   ·rw [bodyP, if_neg (by decide), if_neg (by decide), if_neg (by decide), if_pos rfl, hb]
  ·simp [ownB] at ho
   obtain ⟨⟨rfl, hs⟩, rfl, rfl⟩ := ho
   refine key 4 ([ub (l.length : Int)] ++ writeVs false l []) rfl (by omega) (by rw [writeV]; rfl) ?_
   refine ((cnt_enc (m := 32) hs (by omega)).bind (f := fun n r => listP (parseV d) n r) (list_enc l [] hl)).map (fun b r hb => ?_) (fun b hb => ?_)
   all_goals (
    rw [bodyP, if_neg (by decide), if_neg (by decide), if_neg (by decide), if_neg (by decide), if_pos rfl]
    unfold thenP at hb
    cases hc : cntP 32 b with
    | error e => rw [hc] at hb; first | (cases hb; rfl) | cases hb
    | ok p =>
     rw [hc] at hb
     simp only at hb ⊢
     rw [hb])
  ·simp [ownB] at ho
   obtain ⟨⟨⟨⟨rfl, hln⟩, hs⟩, rfl⟩, hr⟩ := ho
   refine key 5 ([ub (l.length : Int)] ++ writeVs true l ns) rfl (by omega) (by rw [writeV]; rfl) ?_
   refine ((cnt_enc (m := 8) hs (by omega)).bind (f := fun n r => recP (parseV d) n r) (rec_enc l ns hln (rise_len hr) hl)).map (fun b r hb => ?_) (fun b hb => ?_)
   all_goals (
    rw [bodyP, if_neg (by decide), if_neg (by decide), if_neg (by decide), if_neg (by decide), if_neg (by decide), if_pos rfl]
    unfold thenP at hb
    cases hc : cntP 8 b with
    | error e => rw [hc] at hb; first | (cases hb; rfl) | cases hb
    | ok p =>
     rw [hc] at hb
     simp only at hb ⊢
     rw [hb])
  ·simp [ownB] at ho
   obtain ⟨⟨hn0, hn1⟩, ⟨rfl, rfl⟩, rfl⟩ := ho
   refine key 6 [ub n] rfl (by omega) (by rw [writeV]; rfl) ?_
   refine (takeP_enc [ub n]).map (fun b r hb => ?_) (fun b hb => ?_)
   ·have hb : takeP 1 b = .ok ([ub n], r) := hb
    have h1 := ub_small (n := n) (by omega) (by omega)
    rw [bodyP, if_neg (by decide), if_neg (by decide), if_neg (by decide), if_neg (by decide), if_neg (by decide), if_neg (by decide), hb]
    simp only [List.headD_cons]
    rw [h1]
   ·have hb : takeP 1 b = .error 3 := hb
    rw [bodyP, if_neg (by decide), if_neg (by decide), if_neg (by decide), if_neg (by decide), if_neg (by decide), if_neg (by decide), hb]
theorem takeV_enc {v : V} (hm : mayV v = true) (hn : nV v) : Enc takeV v (writeV v) := by
 have hd : depthV v ≤ 8 := by
  have := (okV_iff.1 hm).1.1
  omega
 refine (parse_enc 8 v (allV_of hm) hn hd).map (fun b r hb => ?_) (fun b hb => ?_)
 ·rw [takeV, hb]; simp only; rw [if_pos hm]
 ·rw [takeV, hb]
end Go.Vc
