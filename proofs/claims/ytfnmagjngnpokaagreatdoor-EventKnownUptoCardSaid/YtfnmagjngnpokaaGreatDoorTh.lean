/- What is proved here: contracts of functions of the program: of each function what it hands back and what it leaves in memory. Conditions: those that each theorem names. -/
import Derived.Test.YtfnmagjngnpokaaGreatDoorTc
import Derived.Test.YtfnmagjngnpokaaGreatDoorWe
set_option linter.unusedVariables false
set_option linter.unusedSimpArgs false
set_option linter.unusedSectionVars false
namespace Go.Vc
open Go Go.Proofs
set_option maxRecDepth 100000
/-! What is written is read as it was, and what is read is written so. -/
theorem horner_be : ∀ (n x v : Nat), horner x (be n v) = x * 256 ^ n + v % 256 ^ n
  | 0, x, v => by simp [be, horner]; omega
  | n + 1, x, v => by
    show horner (x * 256 + (UInt8.ofNat (v / 256 ^ n)).toNat) (be n v) = _
    rw [horner_be n, UInt8.toNat_ofNat', show (2 : Nat) ^ 8 = 256 from rfl, Nat.pow_succ, Nat.mod_mul, Nat.add_mul, Nat.mul_assoc, Nat.mul_comm 256 (256 ^ n), Nat.mul_comm (v / 256 ^ n % 256) (256 ^ n)]
    omega
theorem horner_div : ∀ (xs : List UInt8) (x : Nat), horner x xs / 256 ^ xs.length = x
  | [], x => by simp [horner]
  | c :: r, x => by
    show horner (x * 256 + c.toNat) r / 256 ^ (r.length + 1) = x
    rw [Nat.pow_succ, ← Nat.div_div_eq_div_mul, horner_div r]
    have := c.toNat_lt
    omega
theorem be_horner : ∀ (xs : List UInt8) (x : Nat), be xs.length (horner x xs) = xs
  | [], x => rfl
  | c :: r, x => by
    show UInt8.ofNat (horner (x * 256 + c.toNat) r / 256 ^ r.length) :: be r.length (horner (x * 256 + c.toNat) r) = c :: r
    rw [be_horner r, horner_div r]
    congr 1
    apply UInt8.toNat.inj
    rw [UInt8.toNat_ofNat', show (2 : Nat) ^ 8 = 256 from rfl]
    have := c.toNat_lt
    omega
theorem head_fwd : ∀ n, n ≤ 8 → ∀ x, x ≤ 127 / 2 ^ n → ones (UInt8.ofNat x ||| UInt8.ofNat (255 - 255 / 2 ^ n)) = n ∧ ((UInt8.ofNat x ||| UInt8.ofNat (255 - 255 / 2 ^ n)) &&& UInt8.ofNat (127 / 2 ^ n)).toNat = x := by
  intro n hn
  have h : n = 0 ∨ n = 1 ∨ n = 2 ∨ n = 3 ∨ n = 4 ∨ n = 5 ∨ n = 6 ∨ n = 7 ∨ n = 8 := by omega
  rcases h with rfl | rfl | rfl | rfl | rfl | rfl | rfl | rfl | rfl <;> (intro x hx; have hx' := Nat.lt_succ_of_le hx; revert x; decide +kernel)
theorem head_bwd : ∀ c : UInt8, UInt8.ofNat (c &&& UInt8.ofNat (127 / 2 ^ ones c)).toNat ||| UInt8.ofNat (255 - 255 / 2 ^ ones c) = c ∧ (c &&& UInt8.ofNat (127 / 2 ^ ones c)).toNat ≤ 127 / 2 ^ ones c :=
  u8all (by decide +kernel)
theorem fol_head {v : Nat} (hv : v < 18446744073709551616) : v / 256 ^ fol v ≤ 127 / 2 ^ fol v := by
  have h8 := fol_le v
  have hl := (len_spec v).1
  have hf : fol v = min ((max (len v) 1 - 1) / 7) 8 := rfl
  have hv2 : fol v = 8 ∨ v < 2 ^ (7 * fol v + 7) := by
    by_cases h : fol v = 8
    · exact .inl h
    · refine .inr (Nat.lt_of_lt_of_le hl (Nat.pow_le_pow_right (by omega) ?_))
      omega
  generalize fol v = n at *
  have h : n = 0 ∨ n = 1 ∨ n = 2 ∨ n = 3 ∨ n = 4 ∨ n = 5 ∨ n = 6 ∨ n = 7 ∨ n = 8 := by omega
  rcases h with rfl | rfl | rfl | rfl | rfl | rfl | rfl | rfl | rfl
  all_goals (simp at hv2 ⊢; omega)
theorem fol_lt256 {v : Nat} (hv : v < 18446744073709551616) : v / 256 ^ fol v < 256 := by
  have := fol_head hv
  have : 127 / 2 ^ fol v ≤ 127 := Nat.div_le_self _ _
  omega
theorem wr_head {v : Nat} (hv : v < 18446744073709551616) : ∃ c, wr v = c :: be (fol v) v ∧ ones c = fol v ∧ (c &&& UInt8.ofNat (127 / 2 ^ fol v)).toNat = v / 256 ^ fol v := by
  obtain ⟨h1, h2⟩ := head_fwd (fol v) (fol_le v) (v / 256 ^ fol v) (fol_head hv)
  exact ⟨_, rfl, h1, h2⟩
/-- What is written is read. -/
theorem rdRaw_wr {v : Nat} (hv : v < 18446744073709551616) (r : List UInt8) : rdRaw (wr v ++ r) = (0, v, r) := by
  obtain ⟨c, h1, h2, h3⟩ := wr_head hv
  have hb := be_len (fol v) v
  rw [h1]
  have ho : ones ((c :: be (fol v) v ++ r).headD 0) = fol v := h2
  have hrd : rdVal (c :: be (fol v) v ++ r) (fol v) = v := by
    unfold rdVal
    show horner (c &&& UInt8.ofNat (127 / 2 ^ fol v)).toNat ((be (fol v) v ++ r).take (fol v)) = v
    rw [h3, List.take_left' hb, horner_be, Nat.mul_comm]
    exact Nat.div_add_mod _ _
  unfold rdRaw
  rw [ho, if_neg (by simp [hb]; omega), hrd, if_neg (by simp)]
  congr 2
  show ((c :: be (fol v) v) ++ r).drop (1 + fol v) = r
  exact List.drop_left' (by simp [hb]; omega)
/-- A beginning is too short. -/
theorem rdRaw_cut {v : Nat} (hv : v < 18446744073709551616) {k : Nat} (hk : k < (wr v).length) : rdRaw ((wr v).take k) = (3, 0, []) := by
  obtain ⟨c, h1, h2, h3⟩ := wr_head hv
  have hb := be_len (fol v) v
  rw [h1] at hk ⊢
  unfold rdRaw
  rw [if_pos]
  cases k with
  | zero => exact .inl rfl
  | succ k =>
    right
    rw [List.take_succ_cons]
    show (List.take k (be (fol v) v)).length + 1 ≤ ones c
    rw [h2, List.length_take]
    simp [hb] at hk
    omega
/-- What is read is what is written. -/
theorem rdRaw_inv {b : List UInt8} {v : Nat} {r : List UInt8} (h : rdRaw b = (0, v, r)) : b = wr v ++ r ∧ v < 18446744073709551616 := by
  have hv := rdRaw_lt h
  refine ⟨?_, hv⟩
  unfold rdRaw at h
  split at h
  · simp at h
  · rename_i hne
    split at h
    · simp at h
    · rename_i hf
      have hf : fol (rdVal b (ones (b.headD 0))) = ones (b.headD 0) := Classical.not_not.1 hf
      simp only [Prod.mk.injEq, true_and] at h
      obtain ⟨h1, h2⟩ := h
      cases b with
      | nil => exact absurd (.inl rfl) hne
      | cons c b =>
        have hlen : ones c < b.length + 1 := by
          have : ¬ (b.length + 1 ≤ ones c) := fun h => hne (.inr h)
          omega
        rw [h1] at hf
        have hf : fol v = ones c := hf
        obtain ⟨g1, g2⟩ := head_bwd c
        have hxl : (b.take (ones c)).length = ones c := by rw [List.length_take]; omega
        have hv1 : v = horner (c &&& UInt8.ofNat (127 / 2 ^ ones c)).toNat (b.take (ones c)) := h1.symm
        have e1 : v / 256 ^ ones c = (c &&& UInt8.ofNat (127 / 2 ^ ones c)).toNat := by
          have := horner_div (b.take (ones c)) (c &&& UInt8.ofNat (127 / 2 ^ ones c)).toNat
          rw [hxl, ← hv1] at this
          exact this
        have e2 : be (ones c) v = b.take (ones c) := by
          have := be_horner (b.take (ones c)) (c &&& UInt8.ofNat (127 / 2 ^ ones c)).toNat
          rw [hxl, ← hv1] at this
          exact this
        have hw : wr v = c :: b.take (ones c) := by
          unfold wr
          rw [hf, e1, e2, g1]
        rw [hw, ← h2]
        show c :: b = c :: (b.take (ones c) ++ (c :: b).drop (1 + ones c))
        rw [show 1 + ones c = ones c + 1 by omega, List.drop_succ_cons, List.take_append_drop]
end Go.Vc
namespace Go.Vc
open Go Go.Proofs
set_option maxRecDepth 100000
/-- A thing's bytes: read as they were written, whatever follows; a beginning is too short. -/
def Enc {α : Type} (p : List UInt8 → Except Int (α × List UInt8)) (a : α) (w : List UInt8) : Prop := (∀ r, p (w ++ r) = .ok (a, r)) ∧ ∀ k, k < w.length → p (w.take k) = .error 3
def thenP {α β : Type} (p : List UInt8 → Except Int (α × List UInt8)) (f : α → List UInt8 → Except Int (β × List UInt8)) (b : List UInt8) : Except Int (β × List UInt8) :=
  match p b with
  | .error e => .error e
  | .ok (a, r) => f a r
theorem Enc.bind {α β : Type} {p : List UInt8 → Except Int (α × List UInt8)} {f : α → List UInt8 → Except Int (β × List UInt8)} {a : α} {c : β} {w w' : List UInt8} (h1 : Enc p a w) (h2 : Enc (f a) c w') : Enc (thenP p f) c (w ++ w') := by
  refine ⟨fun r => ?_, fun k hk => ?_⟩
  · unfold thenP
    rw [List.append_assoc, h1.1]
    exact h2.1 r
  · unfold thenP
    by_cases h : k < w.length
    · rw [List.take_append_of_le_length (by omega), h1.2 k h]
    · rw [List.take_append, List.take_of_length_le (by omega), h1.1]
      exact h2.2 _ (by simp at hk; omega)
theorem Enc.pure {α : Type} (a : α) : Enc (fun b => .ok (a, b)) a [] := ⟨fun r => rfl, fun k hk => by simp at hk⟩
theorem Enc.map {α β : Type} {p : List UInt8 → Except Int (α × List UInt8)} {a : α} {w : List UInt8} {q : List UInt8 → Except Int (β × List UInt8)} {c : β} (h : Enc p a w) (h1 : ∀ b r, p b = .ok (a, r) → q b = .ok (c, r)) (h2 : ∀ b, p b = .error 3 → q b = .error 3) : Enc q c w :=
  ⟨fun r => h1 _ _ (h.1 r), fun k hk => h2 _ (h.2 k hk)⟩
theorem Enc.congr {α : Type} {p q : List UInt8 → Except Int (α × List UInt8)} {a : α} {w : List UInt8} (h : Enc p a w) (hpq : ∀ b, q b = p b) : Enc q a w :=
  ⟨fun r => by rw [hpq, h.1], fun k hk => by rw [hpq, h.2 k hk]⟩
theorem Enc.inv1 {α : Type} {p : List UInt8 → Except Int (α × List UInt8)} {a : α} {w : List UInt8} (h : Enc p a w) : p w = .ok (a, []) := by
  have := h.1 []
  rwa [List.append_nil] at this
/-! Numbers, ints, texts. -/
theorem num_enc {n : Int} (h0 : 0 ≤ n) (h1 : n ≤ 9007199254740991) : Enc (numE numG) n (wr n.toNat) := by
  have hv : n.toNat < 18446744073709551616 := by omega
  have hg : numG n.toNat = (n, 0) := by unfold numG; rw [if_neg (by omega)]; congr 1; omega
  refine ⟨fun r => numE_ok ?_, fun k hk => numE_err (n := 0) (r := []) ?_ (by decide)⟩
  · rw [rd_ok (rdRaw_wr hv r) (by rw [hg]), hg]
  · exact rd_err (by rw [rdRaw_cut hv hk]) (by decide)
theorem zag_zig {n : Int} (hn : i64 n) : zag (zig n) = n := by
  unfold i64 at hn
  unfold zag zig
  split <;> rename_i h <;> split <;> omega
theorem int_enc {n : Int} (hn : i64 n) : Enc (numE intG) n (wr (zig n)) := by
  have hv := zig_lt hn
  have hg : intG (zig n) = (n, 0) := by unfold intG; rw [zag_zig hn]
  refine ⟨fun r => numE_ok ?_, fun k hk => numE_err (n := 0) (r := []) ?_ (by decide)⟩
  · rw [rd_ok (rdRaw_wr hv r) (by rw [hg]), hg]
  · exact rd_err (by rw [rdRaw_cut hv hk]) (by decide)
theorem txt_if {most : Int} {b : List UInt8} {n : Int} {r : List UInt8} {e : Int} (hr : rdSpec numG b = (n, r, e)) :
    txt most b = if e ≠ 0 then ([], [], e) else if n > most then ([], [], 5) else if n > r.length then ([], [], 3) else (r.take n.toNat, r.drop n.toNat, 0) := by
  unfold txt; rw [hr]
theorem txt_enc {s : List UInt8} (hs : s.length ≤ 16) : Enc txtE s (wr s.length ++ s) := by
  have hn := num_enc (n := (s.length : Int)) (by omega) (by omega)
  rw [Int.toNat_natCast] at hn
  have key : ∀ b, txtE b = thenP (numE numG) (fun n r => if n > 16 then .error 5 else if n > r.length then .error 3 else .ok (r.take n.toNat, r.drop n.toNat)) b := fun b => by
    rcases hr : rdSpec numG b with ⟨n, r, e⟩
    have htx := txt_if (most := 16) hr
    unfold thenP
    by_cases he : e = 0
    · subst he
      rw [if_neg (c := (0 : Int) ≠ 0) (by decide)] at htx
      rw [numE_ok hr]
      simp only
      by_cases h1 : n > 16
      · rw [if_pos h1] at htx ⊢
        exact txtE_err htx (by decide)
      · rw [if_neg h1] at htx ⊢
        by_cases h2 : n > r.length
        · rw [if_pos h2] at htx ⊢
          exact txtE_err htx (by decide)
        · rw [if_neg h2] at htx ⊢
          exact txtE_ok htx
    · rw [if_pos he] at htx
      rw [numE_err hr he, txtE_err htx he]
  refine Enc.congr (hn.bind ⟨fun r => ?_, fun k hk => ?_⟩) key
  · rw [if_neg (by omega), if_neg (by simp; omega), Int.toNat_natCast, List.take_left' rfl, List.drop_left' rfl]
  · rw [if_neg (by omega), if_pos (by rw [List.length_take]; omega)]
theorem num_inv {b : List UInt8} {n : Int} {r : List UInt8} (h : numE numG b = .ok (n, r)) : b = wr n.toNat ++ r ∧ 0 ≤ n ∧ n ≤ 9007199254740991 := by
  unfold numE at h
  rcases hr : rdSpec numG b with ⟨n', r', e⟩
  rw [hr] at h
  simp only at h
  split at h
  · cases h
  · rename_i he
    have he : e = 0 := Classical.not_not.1 he
    subst he
    cases h
    have hp := num_pos hr
    refine ⟨?_, hp⟩
    rcases hq : rdRaw b with ⟨e, v, r2⟩
    by_cases he : e = 0
    · subst he
      by_cases hg : (numG v).2 = 0
      · rw [rd_ok hq hg] at hr
        simp only [Prod.mk.injEq, and_true] at hr
        obtain ⟨h1, rfl⟩ := hr
        have := (rdRaw_inv hq).1
        rw [this]
        congr 2
        unfold numG at h1 hg
        split at hg
        · simp at hg
        · rename_i hlt
          rw [if_neg hlt] at h1
          simp only at h1
          omega
      · rw [rd_bad hq hg] at hr
        simp only [Prod.mk.injEq] at hr
        exact absurd hr.2.2 hg
    · rw [rd_err (by rw [hq]) he] at hr
      simp only [Prod.mk.injEq] at hr
      exact absurd hr.2.2 he
theorem zig_zag {v : Nat} : zig (zag v) = v := by
  unfold zag zig
  split <;> split <;> omega
theorem int_inv {b : List UInt8} {n : Int} {r : List UInt8} (h : numE intG b = .ok (n, r)) : b = wr (zig n) ++ r ∧ i64 n := by
  unfold numE at h
  rcases hr : rdSpec intG b with ⟨n', r', e⟩
  rw [hr] at h
  simp only at h
  split at h
  · cases h
  · rename_i he
    have he : e = 0 := Classical.not_not.1 he
    subst he
    cases h
    refine ⟨?_, int_i64 hr⟩
    rcases hq : rdRaw b with ⟨e, v, r2⟩
    by_cases he : e = 0
    · subst he
      rw [rd_ok hq rfl] at hr
      simp only [intG, Prod.mk.injEq, and_true] at hr
      obtain ⟨h1, rfl⟩ := hr
      rw [← h1, zig_zag]
      exact (rdRaw_inv hq).1
    · rw [rd_err (by rw [hq]) he] at hr
      simp only [Prod.mk.injEq] at hr
      exact absurd hr.2.2 he
theorem txt_inv {b s r : List UInt8} (h : txtE b = .ok (s, r)) : b = wr s.length ++ s ++ r ∧ s.length ≤ 16 := by
  rcases hr : rdSpec numG b with ⟨n, r', e⟩
  have htx := txt_if (most := 16) hr
  by_cases he : e = 0
  · subst he
    rw [if_neg (c := (0 : Int) ≠ 0) (by decide)] at htx
    have hn := num_inv (numE_ok hr)
    by_cases h1 : n > 16
    · rw [if_pos h1] at htx; rw [txtE_err htx (by decide)] at h; cases h
    · rw [if_neg h1] at htx
      by_cases h2 : n > r'.length
      · rw [if_pos h2] at htx; rw [txtE_err htx (by decide)] at h; cases h
      · rw [if_neg h2] at htx
        rw [txtE_ok htx] at h
        cases h
        have hl : (r'.take n.toNat).length = n.toNat := by rw [List.length_take]; omega
        refine ⟨?_, by omega⟩
        rw [hl, List.append_assoc, List.take_append_drop]
        exact hn.1
  · rw [if_pos he] at htx
    rw [txtE_err htx he] at h
    cases h
end Go.Vc
namespace Go.Vc
open Go Go.Proofs
set_option maxRecDepth 100000
theorem ub_nat (n : Nat) : ub (n : Int) = UInt8.ofNat n := by
  apply UInt8.toNat.inj
  have := ub_toNat (n : Int)
  rw [UInt8.toNat_ofNat']
  omega
theorem ub_of (c : UInt8) : ub (c.toNat : Int) = c := by rw [ub_nat, UInt8.ofNat_toNat]
theorem cons_enc {α : Type} {p q : List UInt8 → Except Int (α × List UInt8)} {a : α} {c : UInt8} {w : List UInt8} (h0 : p [] = .error 3) (h1 : ∀ r, p (c :: r) = q r) (h : Enc q a w) : Enc p a (c :: w) := by
  refine ⟨fun r => ?_, fun k hk => ?_⟩
  · rw [List.cons_append, h1]; exact h.1 r
  · cases k with
    | zero => exact h0
    | succ k => rw [List.take_succ_cons, h1]; exact h.2 k (by simp at hk; omega)
theorem takeP_enc (w : List UInt8) : Enc (takeP w.length) w w := by
  refine ⟨fun r => ?_, fun k hk => ?_⟩
  · rw [takeP, if_neg (by simp), List.take_left' rfl, List.drop_left' rfl]
  · rw [takeP, if_pos (by rw [List.length_take]; omega)]
theorem cnt_enc {m n : Nat} (hn : n ≤ m) (hm : m < 256) : Enc (cntP m) n [ub (n : Int)] := by
  have h : (UInt8.ofNat n).toNat = n := by rw [UInt8.toNat_ofNat']; omega
  refine cons_enc (q := fun r => .ok (n, r)) rfl (fun r => ?_) (.pure n)
  rw [ub_nat, cntP, h, if_neg (by omega)]
theorem text_enc {m : Nat} {s : List UInt8} (hn : s.length ≤ m) (hm : m < 256) : Enc (textP m) s (countedB s) := by
  have := (cnt_enc hn hm).bind (f := fun n r => takeP n r) (takeP_enc s)
  exact this.congr fun b => by unfold textP thenP; cases cntP m b <;> rfl
def mapP {α β : Type} (g : α → β) (p : Except Int (α × List UInt8)) : Except Int (β × List UInt8) :=
  match p with
  | .error e => .error e
  | .ok (a, r) => .ok (g a, r)
theorem Enc.mapP {α β : Type} (g : α → β) {p : List UInt8 → Except Int (α × List UInt8)} {a : α} {w : List UInt8} (h : Enc p a w) : Enc (fun b => Vc.mapP g (p b)) (g a) w :=
  ⟨fun r => by show Vc.mapP g (p (w ++ r)) = _; rw [h.1]; rfl, fun k hk => by show Vc.mapP g (p (w.take k)) = _; rw [h.2 k hk]; rfl⟩
theorem listP_then (f : VPar) (n : Nat) (b : List UInt8) : listP f (n + 1) b = thenP f (fun v r => mapP (fun l => v :: l) (listP f n r)) b := by
  simp only [listP, thenP]
  cases f b with
  | error e => rfl
  | ok p =>
    obtain ⟨v, r⟩ := p
    simp only
    cases listP f n r <;> rfl
theorem recP_then (f : VPar) (n : Nat) (b : List UInt8) : recP f (n + 1) b = thenP (textP 16) (fun s r => thenP f (fun v r => mapP (fun q => (s :: q.1, v :: q.2)) (recP f n r)) r) b := by
  simp only [recP, thenP]
  cases textP 16 b with
  | error e => rfl
  | ok p =>
    obtain ⟨s, r⟩ := p
    simp only
    cases f r with
    | error e => rfl
    | ok p =>
      obtain ⟨v, r⟩ := p
      simp only
      cases recP f n r <;> rfl
theorem list_enc {f : VPar} : ∀ (l : List V) (ns : List (List UInt8)), (∀ v ∈ l, Enc f v (writeV v)) → Enc (listP f l.length) l (writeVs false l ns)
  | [], _, _ => by
    rw [writeVs]
    exact (Enc.pure (α := List V) []).congr fun b => rfl
  | v :: l, ns, h => by
    have h1 := h v (by simp)
    have h2 := list_enc l ns.tail fun v hv => h v (by simp [hv])
    have h3 := (h1.bind (f := fun v r => mapP (fun l => v :: l) (listP f l.length r)) (h2.mapP fun l => v :: l)).congr fun b => listP_then f l.length b
    rw [writeVs]
    exact h3
theorem rec_enc {f : VPar} : ∀ (l : List V) (ns : List (List UInt8)), l.length = ns.length → (∀ s ∈ ns, s.length ≤ 16) → (∀ v ∈ l, Enc f v (writeV v)) → Enc (recP f l.length) (ns, l) (writeVs true l ns)
  | [], [], _, _, _ => by
    rw [writeVs]
    exact (Enc.pure (α := List (List UInt8) × List V) ([], [])).congr fun b => rfl
  | [], _ :: _, h, _, _ => by simp at h
  | _ :: _, [], h, _, _ => by simp at h
  | v :: l, s :: ns, hl, hs, h => by
    have h0 := text_enc (m := 16) (hs s (by simp)) (by omega)
    have h1 := h v (by simp)
    have h2 := rec_enc l ns (by simpa using hl) (fun s hs' => hs s (by simp [hs'])) fun v hv => h v (by simp [hv])
    have h3 := (h0.bind (f := fun s r => thenP f (fun v r => mapP (fun q => (s :: q.1, v :: q.2)) (recP f l.length r)) r)
      (h1.bind (f := fun v r => mapP (fun q => (s :: q.1, v :: q.2)) (recP f l.length r)) (h2.mapP fun q => (s :: q.1, v :: q.2)))).congr fun b => recP_then f l.length b
    rw [writeVs, List.append_assoc]
    exact h3
mutual
/-- All its numbers are of 64 bits. -/
def nV : V → Prop
  | .mk _ n _ l _ => i64 n ∧ nVs l
def nVs : List V → Prop
  | [] => True
  | v :: l => nV v ∧ nVs l
end
mutual
theorem VP_nV : ∀ {v : V} {p : PV}, VP v p → nV v
  | .mk _ _ _ _ _, _, h => by
    simp only [VP] at h
    obtain ⟨z1, lp, t1, o1, z2, t2, o2, _, h1, _, _, h2⟩ := h
    exact ⟨h2, VPs_nV h1⟩
theorem VPs_nV : ∀ {l : List V} {lp : List PV}, VPs l lp → nVs l
  | [], _, _ => trivial
  | v :: l, lp, h => by
    simp only [VPs] at h
    obtain ⟨p, q, _, h1, h2⟩ := h
    exact ⟨VP_nV h1, VPs_nV h2⟩
end
theorem VA.nV {v : V} {z1 : Nat} {lp : List PV} {z2 : Nat} (h : VA v z1 lp z2) : nV v := by
  cases v
  exact ⟨h.n, VPs_nV h.l⟩
theorem nVs_mem : ∀ {l : List V} {v : V}, nVs l → v ∈ l → nV v
  | w :: l, v, h, hv => by
    rcases List.mem_cons.1 hv with rfl | hv
    · exact h.1
    · exact nVs_mem h.2 hv
theorem allVs_in : ∀ {l : List V} {v : V}, allVs l = true → v ∈ l → allV v = true
  | w :: l, v, h, hv => by
    simp only [allVs, Bool.and_eq_true] at h
    rcases List.mem_cons.1 hv with rfl | hv
    · exact h.1
    · exact allVs_in h.2 hv
theorem depthVs_in : ∀ {l : List V} {v : V}, v ∈ l → depthV v ≤ depthVs l
  | w :: l, v, hv => by
    simp only [depthVs]
    rcases List.mem_cons.1 hv with rfl | hv
    · omega
    · have := depthVs_in hv; omega
theorem rise_len : ∀ {ns : List (List UInt8)} {last : List UInt8}, rise last ns = true → ∀ s ∈ ns, s.length ≤ 16
  | [], _, _, s, hs => by simp at hs
  | n :: ns, last, h, s, hs => by
    simp only [rise, Bool.and_eq_true] at h
    rcases List.mem_cons.1 hs with rfl | hs
    · have := h.1.2
      simp [isName] at this
      exact this.1.2
    · exact rise_len h.2 s hs
theorem ownB_kind {k n : Int} {s : List UInt8} {m : Nat} {ns : List (List UInt8)} (h : ownB k n s m ns = true) : k = 0 ∨ k = 1 ∨ k = 2 ∨ k = 3 ∨ k = 4 ∨ k = 5 ∨ k = 6 := by
  unfold ownB at h
  split at h; · omega
  split at h; · omega
  split at h; · omega
  split at h; · omega
  split at h; · omega
  split at h; · omega
  split at h; · omega
  cases h
theorem ub_small {n : Int} (h0 : 0 ≤ n) (h1 : n < 256) : ((ub n).toNat : Int) = n := by rw [ub_toNat]; omega
theorem parse_enc : ∀ (d : Nat) (v : V), allV v = true → nV v → depthV v ≤ d → Enc (parseV d) v (writeV v) := by
  intro d
  induction d with
  | zero => intro v _ _ h; cases v; simp only [depthV] at h; omega
  | succ d ih =>
    intro v ha hn hd
    obtain ⟨k, n, s, l, ns⟩ := v
    simp only [allV, Bool.and_eq_true] at ha
    obtain ⟨ho, hal⟩ := ha
    simp only [nV] at hn
    obtain ⟨hn, hnl⟩ := hn
    simp only [depthV] at hd
    have hl : ∀ v ∈ l, Enc (parseV d) v (writeV v) := fun v hv => ih v (allVs_in hal hv) (nVs_mem hnl hv) (by have := depthVs_in hv; omega)
    have key : ∀ (q : Nat) (X : List UInt8), k = q → q ≤ 6 → writeV (.mk k n s l ns) = ub k :: X → Enc (bodyP (parseV d) q) (.mk k n s l ns) X → Enc (parseV (d + 1)) (.mk k n s l ns) (writeV (.mk k n s l ns)) := fun q X hk hq hw hb => by
      rw [hw]
      refine cons_enc (q := bodyP (parseV d) q) rfl (fun r => ?_) hb
      have h1 : (ub k).toNat = q := by have := ub_small (n := k) (by omega) (by omega); omega
      simp only [parseV, h1]
      rw [if_neg (by omega)]
    rcases ownB_kind ho with rfl | rfl | rfl | rfl | rfl | rfl | rfl
    · simp [ownB] at ho
      obtain ⟨rfl, ⟨rfl, rfl⟩, rfl⟩ := ho
      exact key 0 [] rfl (by omega) rfl ((Enc.pure (α := V) _).congr fun b => rfl)
    · simp [ownB] at ho
      obtain ⟨⟨rfl, rfl⟩, rfl⟩ := ho
      refine key 1 (be8 n) rfl (by omega) (by rw [writeV]; rfl) ?_
      have h8 := takeP_enc (be8 n)
      rw [be8_len] at h8
      refine h8.map (fun b r hb => ?_) (fun b hb => ?_)
      · rw [bodyP, if_neg (by decide), if_pos rfl, hb]
        simp only
        rw [n8_be8 hn]
      · rw [bodyP, if_neg (by decide), if_pos rfl, hb]
    · simp [ownB] at ho
      obtain ⟨hn01, ⟨rfl, rfl⟩, rfl⟩ := ho
      refine key 2 [ub n] rfl (by omega) (by rw [writeV]; rfl) ?_
      refine (takeP_enc [ub n]).map (fun b r hb => ?_) (fun b hb => ?_)
      · have hb : takeP 1 b = .ok ([ub n], r) := hb
        have h1 := ub_small (n := n) (by omega) (by omega)
        rw [bodyP, if_neg (by decide), if_neg (by decide), if_pos rfl, hb]
        refine (if_neg (show ¬ 1 < ([ub n].headD 0).toNat by show ¬ 1 < (ub n).toNat; omega)).trans ?_
        show Except.ok (V.mk 2 ((ub n).toNat : Int) [] [] [], r) = _
        rw [h1]
      · have hb : takeP 1 b = .error 3 := hb
        rw [bodyP, if_neg (by decide), if_neg (by decide), if_pos rfl, hb]
    · simp [ownB] at ho
      obtain ⟨⟨rfl, hs⟩, rfl, rfl⟩ := ho
      refine key 3 (countedB s) rfl (by omega) (by rw [writeV]; rfl) ?_
      refine (text_enc hs (by omega)).map (fun b r hb => ?_) (fun b hb => ?_)
      · rw [bodyP, if_neg (by decide), if_neg (by decide), if_neg (by decide), if_pos rfl, hb]
      · rw [bodyP, if_neg (by decide), if_neg (by decide), if_neg (by decide), if_pos rfl, hb]
    · simp [ownB] at ho
      obtain ⟨⟨rfl, hs⟩, rfl, rfl⟩ := ho
      refine key 4 ([ub (l.length : Int)] ++ writeVs false l []) rfl (by omega) (by rw [writeV]; rfl) ?_
      refine ((cnt_enc (m := 32) hs (by omega)).bind (f := fun n r => listP (parseV d) n r) (list_enc l [] hl)).map (fun b r hb => ?_) (fun b hb => ?_)
      all_goals (
        rw [bodyP, if_neg (by decide), if_neg (by decide), if_neg (by decide), if_neg (by decide), if_pos rfl]
        unfold thenP at hb
        cases hc : cntP 32 b with
        | error e => rw [hc] at hb; first | (cases hb; rfl) | cases hb
        | ok p =>
          rw [hc] at hb
          simp only at hb ⊢
          rw [hb])
    · simp [ownB] at ho
      obtain ⟨⟨⟨⟨rfl, hln⟩, hs⟩, rfl⟩, hr⟩ := ho
      refine key 5 ([ub (l.length : Int)] ++ writeVs true l ns) rfl (by omega) (by rw [writeV]; rfl) ?_
      refine ((cnt_enc (m := 8) hs (by omega)).bind (f := fun n r => recP (parseV d) n r) (rec_enc l ns hln (rise_len hr) hl)).map (fun b r hb => ?_) (fun b hb => ?_)
      all_goals (
        rw [bodyP, if_neg (by decide), if_neg (by decide), if_neg (by decide), if_neg (by decide), if_neg (by decide), if_pos rfl]
        unfold thenP at hb
        cases hc : cntP 8 b with
        | error e => rw [hc] at hb; first | (cases hb; rfl) | cases hb
        | ok p =>
          rw [hc] at hb
          simp only at hb ⊢
          rw [hb])
    · simp [ownB] at ho
      obtain ⟨⟨hn0, hn1⟩, ⟨rfl, rfl⟩, rfl⟩ := ho
      refine key 6 [ub n] rfl (by omega) (by rw [writeV]; rfl) ?_
      refine (takeP_enc [ub n]).map (fun b r hb => ?_) (fun b hb => ?_)
      · have hb : takeP 1 b = .ok ([ub n], r) := hb
        have h1 := ub_small (n := n) (by omega) (by omega)
        rw [bodyP, if_neg (by decide), if_neg (by decide), if_neg (by decide), if_neg (by decide), if_neg (by decide), if_neg (by decide), hb]
        simp only [List.headD_cons]
        rw [h1]
      · have hb : takeP 1 b = .error 3 := hb
        rw [bodyP, if_neg (by decide), if_neg (by decide), if_neg (by decide), if_neg (by decide), if_neg (by decide), if_neg (by decide), hb]
theorem takeV_enc {v : V} (hm : mayV v = true) (hn : nV v) : Enc takeV v (writeV v) := by
  have hd : depthV v ≤ 8 := by
    have := (okV_iff.1 hm).1.1
    omega
  refine (parse_enc 8 v (allV_of hm) hn hd).map (fun b r hb => ?_) (fun b hb => ?_)
  · rw [takeV, hb]; simp only; rw [if_pos hm]
  · rw [takeV, hb]
end Go.Vc
namespace Go.Vc
open Go Go.Proofs
set_option maxRecDepth 100000
theorem list_inv {f : VPar} (hf : ∀ b v r, f b = .ok (v, r) → b = writeV v ++ r) : ∀ (n : Nat) (b : List UInt8) (l : List V) (ns : List (List UInt8)) (r : List UInt8), listP f n b = .ok (l, r) → b = writeVs false l ns ++ r
  | 0, b, l, ns, r, h => by cases h; rw [writeVs]; rfl
  | n + 1, b, l, ns, r, h => by
    simp only [listP] at h
    split at h
    · cases h
    · rename_i v r1 hv
      split at h
      · cases h
      · rename_i l1 r2 hl
        cases h
        rw [writeVs, hf _ _ _ hv, list_inv hf n _ l1 ns.tail _ hl]
        simp
theorem rec_inv {f : VPar} (hf : ∀ b v r, f b = .ok (v, r) → b = writeV v ++ r) : ∀ (n : Nat) (b : List UInt8) (l : List V) (ns : List (List UInt8)) (r : List UInt8), recP f n b = .ok ((ns, l), r) → b = writeVs true l ns ++ r
  | 0, b, l, ns, r, h => by cases h; rw [writeVs]; rfl
  | n + 1, b, l, ns, r, h => by
    simp only [recP] at h
    split at h
    · cases h
    · rename_i s r0 hs
      obtain ⟨hb, _⟩ := text_ok hs
      split at h
      · cases h
      · rename_i v r1 hv
        split at h
        · cases h
        · rename_i ns1 l1 r2 hl
          cases h
          rw [writeVs, hb, hf _ _ _ hv, rec_inv hf n _ l1 ns1 _ hl, ← ub_nat]
          simp [countedB]
theorem list_length {f : VPar} : ∀ {n : Nat} {b : List UInt8} {l : List V} {r : List UInt8}, listP f n b = .ok (l, r) → l.length = n
  | 0, b, l, r, h => by cases h; rfl
  | n + 1, b, l, r, h => by
    simp only [listP] at h
    split at h
    · cases h
    · split at h
      · cases h
      · rename_i hl
        cases h
        rw [List.length_cons, list_length hl]
theorem rec_length {f : VPar} : ∀ {n : Nat} {b : List UInt8} {ns : List (List UInt8)} {l : List V} {r : List UInt8}, recP f n b = .ok ((ns, l), r) → l.length = n
  | 0, b, ns, l, r, h => by cases h; rfl
  | n + 1, b, ns, l, r, h => by
    simp only [recP] at h
    split at h
    · cases h
    · split at h
      · cases h
      · split at h
        · cases h
        · rename_i hl
          cases h
          rw [List.length_cons, rec_length hl]
theorem body_inv {f : VPar} (hf : ∀ b v r, f b = .ok (v, r) → b = writeV v ++ r) {c : UInt8} {b : List UInt8} {v : V} {r : List UInt8} (hc : ¬ 6 < c.toNat) (h : bodyP f c.toNat b = .ok (v, r)) : c :: b = writeV v ++ r := by
  have hub : ub (c.toNat : Int) = c := ub_of c
  unfold bodyP at h
  split at h
  · rename_i hk
    cases h
    rw [hk] at hub
    rw [← hub]; rfl
  split at h
  · rename_i hk
    split at h
    · cases h
    · rename_i l r1 hl
      cases h
      obtain ⟨rfl, h8⟩ := takeP_ok hl
      rw [hk] at hub
      rw [← hub, writeV, if_pos rfl, be8_n8 h8]
      rfl
  split at h
  · rename_i hk
    split at h
    · cases h
    · rename_i l r1 hl
      obtain ⟨rfl, h8⟩ := takeP_ok hl
      obtain ⟨x, rfl⟩ : ∃ x, l = [x] := by match l, h8 with | [x], _ => exact ⟨x, rfl⟩
      split at h
      · cases h
      · cases h
        rw [hk] at hub
        rw [← hub, writeV, if_neg (by decide), if_pos (.inl rfl)]
        show _ = ub 2 :: [ub (x.toNat : Int)] ++ r
        rw [ub_of]
        rfl
  split at h
  · rename_i hk
    split at h
    · cases h
    · rename_i l r1 hl
      cases h
      obtain ⟨rfl, _⟩ := text_ok hl
      rw [hk] at hub
      rw [← hub, writeV, if_neg (by decide), if_neg (by decide), if_pos rfl, ← ub_nat]
      simp [countedB]
  split at h
  · rename_i hk
    split at h
    · cases h
    · rename_i n r1 hn
      obtain ⟨rfl, _⟩ := cnt_ok hn
      split at h
      · cases h
      · rename_i l r2 hl
        cases h
        have hlen := list_length hl
        rw [hk] at hub
        rw [← hub, writeV, if_neg (by decide), if_neg (by decide), if_neg (by decide), if_pos (.inl rfl), list_inv hf _ _ l [] _ hl, ← ub_nat, hlen]
        rfl
  split at h
  · rename_i hk
    split at h
    · cases h
    · rename_i n r1 hn
      obtain ⟨rfl, _⟩ := cnt_ok hn
      split at h
      · cases h
      · rename_i ns l r2 hl
        cases h
        have hlen := rec_length hl
        rw [hk] at hub
        rw [← hub, writeV, if_neg (by decide), if_neg (by decide), if_neg (by decide), if_pos (.inr rfl), rec_inv hf _ _ l ns _ hl, ← ub_nat, hlen]
        rfl
  · rename_i h0 h1 h2 h3 h4 h5
    have hk : c.toNat = 6 := by omega
    split at h
    · cases h
    · rename_i l r1 hl
      obtain ⟨rfl, h8⟩ := takeP_ok hl
      obtain ⟨x, rfl⟩ : ∃ x, l = [x] := by match l, h8 with | [x], _ => exact ⟨x, rfl⟩
      cases h
      rw [hk] at hub
      rw [← hub, writeV, if_neg (by decide), if_pos (.inr rfl)]
      show _ = ub 6 :: [ub (x.toNat : Int)] ++ r
      rw [ub_of]
      rfl
theorem parse_inv : ∀ (d : Nat) (b : List UInt8) (v : V) (r : List UInt8), parseV d b = .ok (v, r) → b = writeV v ++ r
  | 0, [], v, r, h => by cases h
  | 0, _ :: _, v, r, h => by cases h
  | d + 1, [], v, r, h => by cases h
  | d + 1, c :: b, v, r, h => by
    simp only [parseV] at h
    split at h
    · cases h
    · rename_i hc
      exact body_inv (parse_inv d) hc h
theorem takeV_inv {b : List UInt8} {v : V} {r : List UInt8} (h : takeV b = .ok (v, r)) : b = writeV v ++ r := by
  unfold takeV at h
  split at h
  · cases h
  · rename_i v' r' hp
    split at h
    · cases h; exact parse_inv _ _ _ _ hp
    · cases h
/-! Events. -/
theorem V0_of {v : V} (h : allV v = true) (hk : v.k = 0) : v = V0 := by
  obtain ⟨k, n, s, l, ns⟩ := v
  simp only [allV, Bool.and_eq_true] at h
  obtain ⟨rfl, rfl, h3, rfl⟩ := ownB0 hk h.1
  have : l = [] := List.length_eq_zero_iff.1 h3
  subst this
  have hk : k = 0 := hk
  subst hk
  rfl
/-- What an event has, and what it has not. -/
structure Has (e : EV) : Prop where
  id0 : hb e.kind 1 = false → e.id = 0
  n0 : hb e.kind 2 = false → e.n = 0
  s0 : hb e.kind 4 = false → e.s = []
  v0 : hb e.kind 8 = false → e.v = V0
  id1 : hb e.kind 1 = true → 0 ≤ e.id ∧ e.id ≤ 9007199254740991
  s1 : hb e.kind 4 = true → e.s.length ≤ 16
theorem ev_has {e : EV} (h : evOk e = true) : Has e := by
  obtain ⟨k, fl, id, n, s, v⟩ := e
  simp only [evOk, Bool.and_eq_true] at h
  obtain ⟨⟨⟨hk, hf⟩, hm⟩, he⟩ := h
  have hv : v.k = 0 → v = V0 := V0_of (allV_of hm)
  refine ⟨fun h => ?_, fun h => ?_, fun h => ?_, fun h => ?_, fun h => num_id hk h (evB_num he), fun h => evB_s hk h he⟩
  all_goals (
    simp only at hk he h ⊢
    rcases kinds hk with rfl | rfl | rfl | rfl | rfl | rfl | rfl | rfl | rfl | rfl | rfl | rfl | rfl | rfl | rfl)
  all_goals first
  | (exact absurd h (by decide))
  | (simp [evB] at he
     first
     | omega
     | exact he.1.1.1.1
     | exact he.1.1.1.2
     | exact he.1.1.1
     | exact he.1.1.2
     | exact he.1.1
     | exact he.1.2
     | exact hv he.1.2
     | exact hv he.1.1.2)
end Go.Vc
namespace Go.Vc
open Go Go.Proofs
set_option maxRecDepth 100000
theorem t0_then (y : EV) (b : List UInt8) : t0 y b = thenP (numE numG) (fun n r => t1 { y with flow := n } r) b := rfl
theorem t1_then (y : EV) (b : List UInt8) : t1 y b = if hb y.kind 1 then thenP (numE numG) (fun n r => t2 { y with id := n } r) b else t2 y b := rfl
theorem t2_then (y : EV) (b : List UInt8) : t2 y b = if hb y.kind 2 then thenP (numE intG) (fun n r => t3 { y with n := n } r) b else t3 y b := rfl
theorem t3_then (y : EV) (b : List UInt8) : t3 y b = if hb y.kind 4 then thenP txtE (fun n r => t4 { y with s := n } r) b else t4 y b := rfl
theorem t4_then (y : EV) (b : List UInt8) : t4 y b = if hb y.kind 8 then thenP takeV (fun n r => t5 { y with v := n } r) b else t5 y b := rfl
theorem evBytes_r (e : EV) : evBytes e = 1 :: ub e.kind :: (wr e.flow.toNat ++ ((if hb e.kind 1 then wr e.id.toNat else []) ++ ((if hb e.kind 2 then wr (zig e.n) else []) ++ ((if hb e.kind 4 then wr e.s.length ++ e.s else []) ++ (if hb e.kind 8 then writeV e.v else []))))) := by
  unfold evBytes
  have hbi : ∀ (m : Int) (X : List UInt8), (bif bitsI .and .i64 (hasI e.kind) m != 0 then X else []) = if hb e.kind m then X else [] := fun m X => by
    show (bif hb e.kind m then X else []) = _
    cases hb e.kind m <;> rfl
  rw [hbi, hbi, hbi, hbi]
  simp only [List.append_assoc, List.cons_append, List.nil_append]
/-- An event's bytes: read as they were written; a beginning is too short. -/
theorem ev_enc {e : EV} (ho : evOk e = true) (hn : i64 e.n) (hv : nV e.v) : Enc evTake e (evBytes e) := by
  have hh := ev_has ho
  have ho' := ho
  simp only [evOk, Bool.and_eq_true] at ho'
  obtain ⟨⟨⟨hk, hf⟩, hm⟩, _⟩ := ho'
  obtain ⟨k, fl, id, n, s, v⟩ := e
  simp only at hk hf hm hn hv
  have hf' : 1 ≤ fl ∧ fl ≤ 8 := by simp [wi] at hf; exact hf
  have hk' : 1 ≤ k ∧ k ≤ 15 := by simp [wi] at hk; exact hk
  have e5 : Enc (t5 ⟨k, fl, id, n, s, v⟩) ⟨k, fl, id, n, s, v⟩ [] := (Enc.pure (α := EV) _).congr fun b => if_pos ho
  have e4 : Enc (t4 ⟨k, fl, id, n, s, V0⟩) ⟨k, fl, id, n, s, v⟩ (if hb k 8 then writeV v else []) := by
    cases hbb : hb k 8 with
    | true =>
      rw [if_pos rfl]
      have := (takeV_enc hm hv).bind (f := fun v r => t5 ⟨k, fl, id, n, s, v⟩ r) e5
      rw [List.append_nil] at this
      exact this.congr fun b => by rw [t4_then, if_pos hbb]
    | false =>
      rw [if_neg (by decide)]
      have hv0 : v = V0 := hh.v0 hbb
      rw [hv0] at e5 ⊢
      exact e5.congr fun b => by rw [t4_then, if_neg (by rw [hbb]; decide)]
  have e3 : Enc (t3 ⟨k, fl, id, n, [], V0⟩) ⟨k, fl, id, n, s, v⟩ ((if hb k 4 then wr s.length ++ s else []) ++ (if hb k 8 then writeV v else [])) := by
    cases hbb : hb k 4 with
    | true =>
      rw [if_pos rfl]
      exact ((txt_enc (hh.s1 hbb)).bind (f := fun s r => t4 ⟨k, fl, id, n, s, V0⟩ r) e4).congr fun b => by rw [t3_then, if_pos hbb]
    | false =>
      rw [if_neg (c := (false : Bool) = true) (by decide), List.nil_append]
      have hs0 : s = [] := hh.s0 hbb
      rw [hs0] at e4 ⊢
      exact e4.congr fun b => by rw [t3_then, if_neg (by rw [hbb]; decide)]
  have e2 : Enc (t2 ⟨k, fl, id, 0, [], V0⟩) ⟨k, fl, id, n, s, v⟩ ((if hb k 2 then wr (zig n) else []) ++ ((if hb k 4 then wr s.length ++ s else []) ++ (if hb k 8 then writeV v else []))) := by
    cases hbb : hb k 2 with
    | true =>
      rw [if_pos rfl]
      exact ((int_enc hn).bind (f := fun n r => t3 ⟨k, fl, id, n, [], V0⟩ r) e3).congr fun b => by rw [t2_then, if_pos hbb]
    | false =>
      rw [if_neg (c := (false : Bool) = true) (by decide), List.nil_append]
      have hn0 : n = 0 := hh.n0 hbb
      rw [hn0] at e3 ⊢
      exact e3.congr fun b => by rw [t2_then, if_neg (by rw [hbb]; decide)]
  have e1 : Enc (t1 ⟨k, fl, 0, 0, [], V0⟩) ⟨k, fl, id, n, s, v⟩ ((if hb k 1 then wr id.toNat else []) ++ ((if hb k 2 then wr (zig n) else []) ++ ((if hb k 4 then wr s.length ++ s else []) ++ (if hb k 8 then writeV v else [])))) := by
    cases hbb : hb k 1 with
    | true =>
      rw [if_pos rfl]
      have hi := hh.id1 hbb
      exact ((num_enc hi.1 hi.2).bind (f := fun id r => t2 ⟨k, fl, id, 0, [], V0⟩ r) e2).congr fun b => by rw [t1_then, if_pos hbb]
    | false =>
      rw [if_neg (c := (false : Bool) = true) (by decide), List.nil_append]
      have hi0 : id = 0 := hh.id0 hbb
      rw [hi0] at e2 ⊢
      exact e2.congr fun b => by rw [t1_then, if_neg (by rw [hbb]; decide)]
  have e0 := ((num_enc (n := fl) (by omega) (by omega)).bind (f := fun fl r => t1 ⟨k, fl, 0, 0, [], V0⟩ r) e1).congr (q := t0 ⟨k, 0, 0, 0, [], V0⟩) fun b => by rw [t0_then]
  have hu : ((ub k).toNat : Int) = k := ub_small (by omega) (by omega)
  have hev : ∀ r, evTake (1 :: ub k :: r) = t0 ⟨k, 0, 0, 0, [], V0⟩ r := fun r => by
    unfold evTake
    rw [if_neg (by simp), if_neg]
    · show t0 ⟨((ub k).toNat : Int), 0, 0, 0, [], V0⟩ r = _
      rw [hu]
    · show ¬ ((1 : UInt8) ≠ 1 ∨ wi ((ub k).toNat : Int) 1 15 = false)
      rw [hu, hk]
      decide
  rw [evBytes_r]
  refine ⟨fun r => ?_, fun j hj => ?_⟩
  · rw [List.cons_append, List.cons_append, hev]
    exact e0.1 r
  · match j, hj with
    | 0, _ => rfl
    | 1, _ => rfl
    | j + 2, hj =>
      rw [List.take_succ_cons, List.take_succ_cons, hev]
      exact e0.2 j (by simp at hj ⊢; omega)
/-- What is read is written so. -/
theorem thenP_ok {α β : Type} {p : List UInt8 → Except Int (α × List UInt8)} {f : α → List UInt8 → Except Int (β × List UInt8)} {b : List UInt8} {c : β} {r : List UInt8} (h : thenP p f b = .ok (c, r)) : ∃ a r', p b = .ok (a, r') ∧ f a r' = .ok (c, r) := by
  unfold thenP at h
  split at h
  · cases h
  · rename_i a r' hp
    exact ⟨a, r', hp, h⟩
theorem ev_inv {b : List UInt8} {e : EV} {r : List UInt8} (h : evTake b = .ok (e, r)) : b = evBytes e ++ r ∧ evOk e = true := by
  unfold evTake at h
  split at h
  · cases h
  · rename_i hl
    split at h
    · cases h
    · rename_i hk
      have hk1 : b.headD 0 = 1 := Classical.not_not.1 fun h => hk (.inl h)
      obtain ⟨c, k, r0, rfl⟩ : ∃ c k r, b = c :: k :: r := by
        match b, hl with
        | c :: k :: r, _ => exact ⟨c, k, r, rfl⟩
        | [], h => simp at h
        | [_], h => simp at h
      have hk1 : c = 1 := hk1
      subst hk1
      have h : t0 ⟨(k.toNat : Int), 0, 0, 0, [], V0⟩ r0 = .ok (e, r) := h
      rw [t0_then] at h
      obtain ⟨fl, r1, hp0, h⟩ := thenP_ok h
      obtain ⟨hb0, hfl⟩ := num_inv hp0
      -- Id
      have s1 : ∃ id r2, r1 = (if hb k.toNat 1 then wr id.toNat else []) ++ r2 ∧ t2 ⟨k.toNat, fl, id, 0, [], V0⟩ r2 = .ok (e, r) := by
        rw [t1_then] at h
        split at h
        · rename_i hbb
          obtain ⟨id, r2, hp, h⟩ := thenP_ok h
          exact ⟨id, r2, by rw [if_pos hbb]; exact (num_inv hp).1, h⟩
        · rename_i hbb
          exact ⟨0, r1, by rw [if_neg hbb]; rfl, h⟩
      obtain ⟨id, r2, hb1, h⟩ := s1
      have s2 : ∃ n r3, r2 = (if hb k.toNat 2 then wr (zig n) else []) ++ r3 ∧ t3 ⟨k.toNat, fl, id, n, [], V0⟩ r3 = .ok (e, r) := by
        rw [t2_then] at h
        split at h
        · rename_i hbb
          obtain ⟨n, r3, hp, h⟩ := thenP_ok h
          exact ⟨n, r3, by rw [if_pos hbb]; exact (int_inv hp).1, h⟩
        · rename_i hbb
          exact ⟨0, r2, by rw [if_neg hbb]; rfl, h⟩
      obtain ⟨n, r3, hb2, h⟩ := s2
      have s3 : ∃ s r4, r3 = (if hb k.toNat 4 then wr s.length ++ s else []) ++ r4 ∧ t4 ⟨k.toNat, fl, id, n, s, V0⟩ r4 = .ok (e, r) := by
        rw [t3_then] at h
        split at h
        · rename_i hbb
          obtain ⟨s, r4, hp, h⟩ := thenP_ok h
          exact ⟨s, r4, by rw [if_pos hbb]; exact (txt_inv hp).1, h⟩
        · rename_i hbb
          exact ⟨[], r3, by rw [if_neg hbb]; rfl, h⟩
      obtain ⟨s, r4, hb3, h⟩ := s3
      have s4 : ∃ v r5, r4 = (if hb k.toNat 8 then writeV v else []) ++ r5 ∧ t5 ⟨k.toNat, fl, id, n, s, v⟩ r5 = .ok (e, r) := by
        rw [t4_then] at h
        split at h
        · rename_i hbb
          obtain ⟨v, r5, hp, h⟩ := thenP_ok h
          exact ⟨v, r5, by rw [if_pos hbb]; exact takeV_inv hp, h⟩
        · rename_i hbb
          exact ⟨V0, r4, by rw [if_neg hbb]; rfl, h⟩
      obtain ⟨v, r5, hb4, h⟩ := s4
      unfold t5 at h
      split at h
      · rename_i ho
        cases h
        refine ⟨?_, ho⟩
        rw [evBytes_r, hb0, hb1, hb2, hb3, hb4]
        simp only [ub_of, List.cons_append, List.append_assoc]
      · cases h
end Go.Vc
