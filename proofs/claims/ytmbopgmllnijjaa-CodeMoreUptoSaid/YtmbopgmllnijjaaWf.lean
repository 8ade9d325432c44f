/- What is proved here: contracts of functions of the program: of each function what it hands back and what it leaves in memory. Conditions: those that each theorem names. -/
import Derived.Test.YtmbopgmllnijjaaWe
import Derived.Test.YtmbopgmllnijjaaFx
set_option linter.unusedVariables false
set_option linter.unusedSimpArgs false
set_option linter.unusedSectionVars false
namespace Go.Vc
open Go Go.Proofs
set_option maxRecDepth 100000
/-- What is taken off, unless there is an error already. -/
def lift {α : Type} (e : Int) (p : Except Int α) : Except Int α := if e ≠ 0 then .error e else p
theorem lift0 {α : Type} (p : Except Int α) : lift 0 p = p := rfl
theorem liftE {α : Type} {e : Int} (h : e ≠ 0) (p : Except Int α) : lift e p = .error e := if_pos h
def is345 (e : Int) : Prop := e = 3 ∨ e = 4 ∨ e = 5
theorem is345_ne {e : Int} (h : is345 e) : e ≠ 0 := by rcases h with rfl | rfl | rfl <;> decide
theorem cnt_err {m : Nat} {b : List UInt8} {e : Int} (h : cntP m b = .error e) : is345 e := by
  cases b with
  | nil => cases h; exact .inl rfl
  | cons c r => simp only [cntP] at h; split at h <;> cases h; exact .inr (.inr rfl)
theorem takeP_err {n : Nat} {b : List UInt8} {e : Int} (h : takeP n b = .error e) : e = 3 := by
  unfold takeP at h; split at h <;> cases h; rfl
theorem text_err {m : Nat} {b : List UInt8} {e : Int} (h : textP m b = .error e) : is345 e := by
  unfold textP at h
  split at h
  · rename_i e' he; cases h; exact cnt_err he
  · exact .inl (takeP_err h)
theorem list_err {f : VPar} (hf : ∀ b e, f b = .error e → is345 e) : ∀ (n : Nat) (b : List UInt8) (e : Int), listP f n b = .error e → is345 e
  | 0, b, e, h => by cases h
  | n + 1, b, e, h => by
    simp only [listP] at h
    split at h
    · rename_i e' he; cases h; exact hf _ _ he
    · split at h
      · rename_i e' he; cases h; exact list_err hf n _ _ he
      · cases h
theorem rec_err {f : VPar} (hf : ∀ b e, f b = .error e → is345 e) : ∀ (n : Nat) (b : List UInt8) (e : Int), recP f n b = .error e → is345 e
  | 0, b, e, h => by cases h
  | n + 1, b, e, h => by
    simp only [recP] at h
    split at h
    · rename_i e' he; cases h; exact text_err he
    · split at h
      · rename_i e' he; cases h; exact hf _ _ he
      · split at h
        · rename_i e' he; cases h; exact rec_err hf n _ _ he
        · cases h
theorem body_err {f : VPar} (hf : ∀ b e, f b = .error e → is345 e) {k : Nat} {r : List UInt8} {e : Int} (h : bodyP f k r = .error e) : is345 e := by
  unfold bodyP at h
  split at h
  · cases h
  split at h
  · split at h
    · rename_i e' he; cases h; exact .inl (takeP_err he)
    · cases h
  split at h
  · split at h
    · rename_i e' he; cases h; exact .inl (takeP_err he)
    · split at h
      · cases h; exact .inr (.inl rfl)
      · cases h
  split at h
  · split at h
    · rename_i e' he; cases h; exact text_err he
    · cases h
  split at h
  · split at h
    · rename_i e' he; cases h; exact cnt_err he
    · split at h
      · rename_i e' he; cases h; exact list_err hf _ _ _ he
      · cases h
  split at h
  · split at h
    · rename_i e' he; cases h; exact cnt_err he
    · split at h
      · rename_i e' he; cases h; exact rec_err hf _ _ _ he
      · cases h
  split at h
  · rename_i e' he; cases h; exact .inl (takeP_err he)
  · cases h
theorem parse_err : ∀ (d : Nat) (b : List UInt8) (e : Int), parseV d b = .error e → is345 e
  | 0, [], e, h => by cases h; exact .inl rfl
  | 0, _ :: _, e, h => by cases h; exact .inr (.inr rfl)
  | d + 1, [], e, h => by cases h; exact .inl rfl
  | d + 1, c :: r, e, h => by
    simp only [parseV] at h
    split at h
    · cases h; exact .inr (.inl rfl)
    · exact body_err (parse_err d) h
/-! How long what is left is, and how much was read. -/
theorem cnt_ok {m : Nat} {b : List UInt8} {n : Nat} {r : List UInt8} (h : cntP m b = .ok (n, r)) : b = UInt8.ofNat n :: r ∧ n ≤ m ∧ n < 256 := by
  cases b with
  | nil => cases h
  | cons c l =>
    simp only [cntP] at h
    split at h
    · cases h
    · cases h
      refine ⟨?_, by omega, c.toNat_lt⟩
      rw [UInt8.ofNat_toNat]
theorem takeP_ok {n : Nat} {b s r : List UInt8} (h : takeP n b = .ok (s, r)) : b = s ++ r ∧ s.length = n := by
  unfold takeP at h
  split at h
  · cases h
  · cases h
    refine ⟨(List.take_append_drop n b).symm, ?_⟩
    rw [List.length_take]; omega
theorem text_ok {m : Nat} {b s r : List UInt8} (h : textP m b = .ok (s, r)) : b = UInt8.ofNat s.length :: (s ++ r) ∧ s.length ≤ m ∧ s.length < 256 := by
  unfold textP at h
  split at h
  · cases h
  · rename_i n r' hc
    obtain ⟨rfl, h1, h2⟩ := cnt_ok hc
    obtain ⟨rfl, rfl⟩ := takeP_ok h
    exact ⟨rfl, h1, h2⟩
theorem list_bulk {f : VPar} (hf : ∀ b v r, f b = .ok (v, r) → bulkV v + r.length ≤ b.length) : ∀ (n : Nat) (b : List UInt8) (l : List V) (r : List UInt8), listP f n b = .ok (l, r) → bulkVs l + r.length ≤ b.length ∧ l.length = n
  | 0, b, l, r, h => by cases h; simp [bulkVs]
  | n + 1, b, l, r, h => by
    simp only [listP] at h
    split at h
    · cases h
    · rename_i v r1 hv
      split at h
      · cases h
      · rename_i l1 r2 hl
        cases h
        have h1 := hf _ _ _ hv
        have h2 := list_bulk hf n _ _ _ hl
        simp only [bulkVs, List.length_cons]
        omega
theorem rec_bulk {f : VPar} (hf : ∀ b v r, f b = .ok (v, r) → bulkV v + r.length ≤ b.length) : ∀ (n : Nat) (b : List UInt8) (ns : List (List UInt8)) (l : List V) (r : List UInt8), recP f n b = .ok ((ns, l), r) →
    nsBulk ns + bulkVs l + r.length ≤ b.length ∧ l.length = n ∧ ns.length = n
  | 0, b, ns, l, r, h => by cases h; simp [bulkVs, nsBulk]
  | n + 1, b, ns, l, r, h => by
    simp only [recP] at h
    split at h
    · cases h
    · rename_i s r0 hs
      obtain ⟨rfl, _⟩ := text_ok hs
      split at h
      · cases h
      · rename_i v r1 hv
        split at h
        · cases h
        · rename_i ns1 l1 r2 hl
          cases h
          have h1 := hf _ _ _ hv
          have h2 := rec_bulk hf n _ _ _ _ hl
          simp only [bulkVs, nsBulk, List.length_cons, List.length_append]
          omega
theorem body_bulk {f : VPar} (hf : ∀ b v r, f b = .ok (v, r) → bulkV v + r.length ≤ b.length) {k : Nat} {b : List UInt8} {v : V} {r : List UInt8} (h : bodyP f k b = .ok (v, r)) : bulkV v + r.length ≤ b.length + 1 := by
  unfold bodyP at h
  split at h
  · cases h; simp [bulkV, bulkVs, nsBulk]; omega
  split at h
  · split at h
    · cases h
    · rename_i l r1 hl
      cases h
      obtain ⟨rfl, _⟩ := takeP_ok hl
      simp [bulkV, bulkVs, nsBulk]; omega
  split at h
  · split at h
    · cases h
    · rename_i l r1 hl
      obtain ⟨rfl, _⟩ := takeP_ok hl
      split at h
      · cases h
      · cases h; simp [bulkV, bulkVs, nsBulk]; omega
  split at h
  · split at h
    · cases h
    · rename_i l r1 hl
      cases h
      obtain ⟨rfl, _⟩ := text_ok hl
      simp [bulkV, bulkVs, nsBulk]; omega
  split at h
  · split at h
    · cases h
    · rename_i n r1 hn
      obtain ⟨rfl, _⟩ := cnt_ok hn
      split at h
      · cases h
      · rename_i l r2 hl
        cases h
        have := list_bulk hf _ _ _ _ hl
        simp [bulkV, nsBulk]; omega
  split at h
  · split at h
    · cases h
    · rename_i n r1 hn
      obtain ⟨rfl, _⟩ := cnt_ok hn
      split at h
      · cases h
      · rename_i ns l r2 hl
        cases h
        have := rec_bulk hf _ _ _ _ _ hl
        simp [bulkV]; omega
  split at h
  · cases h
  · rename_i l r1 hl
    cases h
    obtain ⟨rfl, _⟩ := takeP_ok hl
    simp [bulkV, bulkVs, nsBulk]; omega
theorem parse_bulk : ∀ (d : Nat) (b : List UInt8) (v : V) (r : List UInt8), parseV d b = .ok (v, r) → bulkV v + r.length ≤ b.length
  | 0, [], v, r, h => by cases h
  | 0, _ :: _, v, r, h => by cases h
  | d + 1, [], v, r, h => by cases h
  | d + 1, c :: b, v, r, h => by
    simp only [parseV] at h
    split at h
    · cases h
    · exact body_bulk (parse_bulk d) h
/-! What the tape's functions do, told by the parser. -/
theorem failE_ne {e : Int} (h : e ≠ 0) (is : Bool) (e' : Int) : failE e is e' = e := if_pos h
theorem fail_e (z : Nat) (b : List UInt8) (t : Bool) (e e' : Int) (is : Bool) (he : e ≠ 0) (Post : PV → List (Nat × Blk) → Prop) (h : Post (.tup []) (tp z b t e)) : Spec K 101 [.ptr 0 0, .bool is, .int .i64 e'] (tp z b t e) Post :=
  fail_spec z b t e e' is Post (by rw [failE_ne he]; exact h)
theorem fail_t (z : Nat) (b : List UInt8) (t : Bool) (e' : Int) (is : Bool) (hi : is = true) (Post : PV → List (Nat × Blk) → Prop) (h : Post (.tup []) (tp z b t e')) : Spec K 101 [.ptr 0 0, .bool is, .int .i64 e'] (tp z b t 0) Post :=
  fail_spec z b t 0 e' is Post (by subst hi; exact h)
theorem fail_f (z : Nat) (b : List UInt8) (t : Bool) (e' : Int) (is : Bool) (hi : is = false) (Post : PV → List (Nat × Blk) → Prop) (h : Post (.tup []) (tp z b t 0)) : Spec K 101 [.ptr 0 0, .bool is, .int .i64 e'] (tp z b t 0) Post :=
  fail_spec z b t 0 e' is Post (by subst hi; exact h)
theorem off_c (z : Nat) (b : List UInt8) (t : Bool) (e : Int) (n : Nat) (hz : z = 1 ∨ b = []) (hb : b.length ≤ 1000000000) (hn : n ≤ 1000) (Post : PV → List (Nat × Blk) → Prop)
    (herr : ∀ e', lift e (takeP n b) = .error e' → ∀ z' t' b', b'.length ≤ b.length → (z = 1 ∨ b' = []) → Post (.sl z' [] false true) (tp z b' t' e'))
    (hok : ∀ s r, lift e (takeP n b) = .ok (s, r) → e = 0 → ∀ z' t', (z' = 1 ∨ s = []) → (z = 1 ∨ r = []) → Post (.sl z' (bs s) false true) (tp z r t' 0)) : Spec K 103 [.ptr 0 0, .int .i64 n] (tp z b t e) Post := by
  refine off_spec z b t e n hz hb hn Post fun z' t' hz' => ?_
  by_cases he : e = 0
  · subst he
    by_cases hl : b.length < n
    · have h1 : offE n b 0 = 3 := by simp [offE, failE, hl]
      rw [offB, offR, h1]
      exact herr 3 (by rw [lift0, takeP, if_pos hl]) z' t' b (Nat.le_refl _) hz
    · have h1 : offE n b 0 = 0 := by simp [offE, failE, hl]
      rw [offB, h1] at hz'
      rw [offB, offR, h1]
      exact hok (b.take n) (b.drop n) (by rw [lift0, takeP, if_neg hl]) rfl z' t' hz' (hz.imp id fun h => by rw [h]; simp)
  · have h1 : offE n b e = e := failE_ne he _ _
    rw [offB, offR, h1, if_pos he, if_pos he]
    exact herr e (liftE he _) z' t' b (Nat.le_refl _) hz
/-- One byte. -/
theorem byte_c (z : Nat) (b : List UInt8) (t : Bool) (e : Int) (hz : z = 1 ∨ b = []) (hb : b.length ≤ 1000000000) (Post : PV → List (Nat × Blk) → Prop)
    (herr : ∀ e', lift e (takeP 1 b) = .error e' → ∀ t' b', b'.length ≤ b.length → (z = 1 ∨ b' = []) → Post (.int .i64 0) (tp z b' t' e'))
    (hok : ∀ c r, b = c :: r → e = 0 → ∀ t', z = 1 → Post (.int .i64 c.toNat) (tp z r t' 0)) : Spec K 102 [.ptr 0 0] (tp z b t e) Post := by
  refine byte_spec z b t e hz hb Post fun t' => ?_
  by_cases he : e = 0
  · subst he
    cases b with
    | nil => exact herr 3 rfl t' [] (Nat.le_refl _) hz
    | cons c r =>
      have h1 : offE 1 (c :: r) 0 = 0 := by simp [offE, failE]
      rw [byteN, offR, h1]
      exact hok c r rfl rfl t' (hz.resolve_right (by simp))
  · have h1 : offE 1 b e = e := failE_ne he _ _
    rw [byteN, offR, h1, if_pos he, if_pos he]
    exact herr e (liftE he _) t' b (Nat.le_refl _) hz
theorem counts_c (z : Nat) (b : List UInt8) (t : Bool) (e : Int) (most : Nat) (hm : most ≤ 1000) (hz : z = 1 ∨ b = []) (hb : b.length ≤ 1000000000) (Post : PV → List (Nat × Blk) → Prop)
    (herr : ∀ e', lift e (cntP most b) = .error e' → ∀ t' b', b'.length ≤ b.length → (z = 1 ∨ b' = []) → Post (.int .i64 (0 : Nat)) (tp z b' t' e'))
    (hok : ∀ (n : Nat) r, lift e (cntP most b) = .ok (n, r) → e = 0 → ∀ t', z = 1 → Post (.int .i64 n) (tp z r t' 0)) : Spec K 105 [.ptr 0 0, .int .i64 most] (tp z b t e) Post := by
  refine counts_spec z b t e most hm hz hb Post fun t' => ?_
  by_cases he : e = 0
  · subst he
    cases b with
    | nil => exact herr 3 rfl t' [] (Nat.le_refl _) hz
    | cons c r =>
      have h1 : offE 1 (c :: r) 0 = 0 := by simp [offE, failE]
      have h2 : byteN (c :: r) 0 = c.toNat := by rw [byteN, h1]; rfl
      by_cases hc : most < c.toNat
      · have h3 : cntE most (c :: r) 0 = 5 := by rw [cntE, h1, h2]; simp [failE, hc]
        rw [cntN, h3, offR, h1]
        exact herr 5 (by rw [lift0, cntP, if_pos hc]) t' r (by simp) (.inl (hz.resolve_right (by simp)))
      · have h3 : cntE most (c :: r) 0 = 0 := by rw [cntE, h1, h2]; simp [failE, hc]
        rw [cntN, h3, offR, h1, h2]
        exact hok c.toNat r (by rw [lift0, cntP, if_neg hc]) rfl t' (hz.resolve_right (by simp))
  · have h1 : offE 1 b e = e := failE_ne he _ _
    have h3 : cntE most b e = e := by rw [cntE, h1]; exact failE_ne he _ _
    rw [cntN, offR, h3, h1, if_pos he, if_pos he]
    exact herr e (liftE he _) t' b (Nat.le_refl _) hz
theorem text_c (z : Nat) (b : List UInt8) (t : Bool) (e : Int) (most : Nat) (hm : most ≤ 1000) (hz : z = 1 ∨ b = []) (hb : b.length ≤ 1000000000) (Post : PV → List (Nat × Blk) → Prop)
    (herr : ∀ e', lift e (textP most b) = .error e' → ∀ t' b', b'.length ≤ b.length → (z = 1 ∨ b' = []) → Post (.str []) (tp z b' t' e'))
    (hok : ∀ s r, lift e (textP most b) = .ok (s, r) → e = 0 → ∀ t', z = 1 → Post (.str s) (tp z r t' 0)) : Spec K 104 [.ptr 0 0, .int .i64 most] (tp z b t e) Post := by
  refine is104.specW K_ok K_mix false (by simp) (by simp [keys]) ?_
  (conv => whnf); repeat ((first | (refine And.intro ?_ ?_; focus exact Cl3) | refine Both.T (by exact rfl) ?_ | refine Both.F (by exact rfl) ?_ | refine Both.GT (by exact rfl) (by exact rfl) ?_ | refine Both.GF (by exact rfl) ?_ | refine Both.GN (by exact rfl) ?_); conv => whnf)
  refine counts_c z b t e most hm hz hb _ (fun e' he' t' b' hb' hz' => ?_) (fun n r hnr he t' hz' => ?_)
  · have hne : e' ≠ 0 := by
      intro h0
      subst h0
      by_cases he : e = 0
      · subst he
        exact is345_ne (cnt_err he') rfl
      · rw [liftE he] at he'
        cases he'
        exact he rfl
    (conv => whnf); repeat ((first | (refine And.intro ?_ ?_; focus exact Cl3) | refine Both.T (by exact rfl) ?_ | refine Both.F (by exact rfl) ?_ | refine Both.GT (by exact rfl) (by exact rfl) ?_ | refine Both.GF (by exact rfl) ?_ | refine Both.GN (by exact rfl) ?_); conv => whnf)
    refine off_c z b' t' e' 0 hz' (by omega) (by omega) _ (fun e2 h2 z2 t2 b2 hb2 hz2 => ?_) (fun s r _ h0 => absurd h0 hne)
    rw [liftE hne] at h2
    cases h2
    (conv => whnf); repeat ((first | (refine And.intro ?_ ?_; focus exact Cl3) | refine Both.T (by exact rfl) ?_ | refine Both.F (by exact rfl) ?_ | refine Both.GT (by exact rfl) (by exact rfl) ?_ | refine Both.GF (by exact rfl) ?_ | refine Both.GN (by exact rfl) ?_); conv => whnf)
    refine herr e' ?_ t2 b2 (by omega) hz2
    by_cases he : e = 0
    · subst he
      rw [lift0] at he' ⊢
      unfold textP
      rw [he']
    · rw [liftE he] at he' ⊢
      cases he'
      rfl
  · subst he
    rw [lift0] at hnr
    obtain ⟨hbr, hn1, hn2⟩ := cnt_ok hnr
    (conv => whnf); repeat ((first | (refine And.intro ?_ ?_; focus exact Cl3) | refine Both.T (by exact rfl) ?_ | refine Both.F (by exact rfl) ?_ | refine Both.GT (by exact rfl) (by exact rfl) ?_ | refine Both.GF (by exact rfl) ?_ | refine Both.GN (by exact rfl) ?_); conv => whnf)
    refine off_c z r t' 0 n (.inl hz') (by rw [hbr] at hb; simp at hb; omega) (by omega) _ (fun e2 h2 z2 t2 b2 hb2 hz2 => ?_) (fun s r2 h2 _ z2 t2 hz2 hz3 => ?_)
    · (conv => whnf); repeat ((first | (refine And.intro ?_ ?_; focus exact Cl3) | refine Both.T (by exact rfl) ?_ | refine Both.F (by exact rfl) ?_ | refine Both.GT (by exact rfl) (by exact rfl) ?_ | refine Both.GF (by exact rfl) ?_ | refine Both.GN (by exact rfl) ?_); conv => whnf)
      refine herr e2 ?_ t2 b2 (by rw [hbr]; simp; omega) hz2
      rw [lift0] at h2 ⊢
      unfold textP
      rw [hnr]
      exact h2
    · (conv => whnf); repeat ((first | (refine And.intro ?_ ?_; focus exact Cl3) | refine Both.T (by exact rfl) ?_ | refine Both.F (by exact rfl) ?_ | refine Both.GT (by exact rfl) (by exact rfl) ?_ | refine Both.GF (by exact rfl) ?_ | refine Both.GN (by exact rfl) ?_); conv => whnf)
      refine ⟨bs_int _, ?_⟩
      (conv => whnf); repeat ((first | (refine And.intro ?_ ?_; focus exact Cl3) | refine Both.T (by exact rfl) ?_ | refine Both.F (by exact rfl) ?_ | refine Both.GT (by exact rfl) (by exact rfl) ?_ | refine Both.GF (by exact rfl) ?_ | refine Both.GN (by exact rfl) ?_); conv => whnf)
      rw [str_bs]
      refine hok s r2 ?_ rfl t2 hz'
      rw [lift0] at h2 ⊢
      unfold textP
      rw [hnr]
      exact h2
end Go.Vc
namespace Go.Vc
open Go Go.Proofs
set_option maxRecDepth 100000
/-- What came of taking something off: it, what is left, no error; or an error. -/
def Out {α : Type} (p : Except Int (α × List UInt8)) (a : α) (b : List UInt8) (e : Int) : Prop := p = .ok (a, b) ∧ e = 0 ∨ p = .error e ∧ is345 e
theorem lift_err {α : Type} {e e' : Int} {p : Except Int α} (he : e = 0 ∨ is345 e) (hp : ∀ e, p = .error e → is345 e) (h : lift e p = .error e') : is345 e' := by
  rcases he with rfl | he
  · exact hp _ h
  · rw [liftE (is345_ne he)] at h; cases h; exact he
theorem off_m (z : Nat) (b : List UInt8) (t : Bool) (e : Int) (n : Nat) (he : e = 0 ∨ is345 e) (hz : z = 1 ∨ b = []) (hb : b.length ≤ 1000000000) (hn : n ≤ 1000) (Post : PV → List (Nat × Blk) → Prop)
    (h : ∀ s b' e', Out (lift e (takeP n b)) s b' e' → (s = [] ∨ s.length = n) → ∀ z' t', b'.length ≤ b.length → (z = 1 ∨ b' = []) → (z' = 1 ∨ s = []) → Post (.sl z' (bs s) false true) (tp z b' t' e')) : Spec K 103 [.ptr 0 0, .int .i64 n] (tp z b t e) Post := by
  refine off_c z b t e n hz hb hn Post (fun e' he' z' t' b' hb' hz' => ?_) (fun s r hs _ z' t' hz' hz2 => ?_)
  · exact h [] b' e' (.inr ⟨he', lift_err he (fun e h => .inl (takeP_err h)) he'⟩) (.inl rfl) z' t' hb' hz' (.inr rfl)
  · have : lift e (takeP n b) = takeP n b := by
      by_cases h0 : e = 0
      · subst h0; rfl
      · rw [liftE h0] at hs; cases hs
    obtain ⟨hb2, hl⟩ := takeP_ok (this ▸ hs)
    exact h s r 0 (.inl ⟨hs, rfl⟩) (.inr hl) z' t' (by rw [hb2]; simp) hz2 hz'
theorem text_m (z : Nat) (b : List UInt8) (t : Bool) (e : Int) (most : Nat) (hm : most ≤ 1000) (he : e = 0 ∨ is345 e) (hz : z = 1 ∨ b = []) (hb : b.length ≤ 1000000000) (Post : PV → List (Nat × Blk) → Prop)
    (h : ∀ s b' e', Out (lift e (textP most b)) s b' e' → ∀ t', b'.length ≤ b.length → (z = 1 ∨ b' = []) → Post (.str s) (tp z b' t' e')) : Spec K 104 [.ptr 0 0, .int .i64 most] (tp z b t e) Post := by
  refine text_c z b t e most hm hz hb Post (fun e' he' t' b' hb' hz' => ?_) (fun s r hs h0 t' hz' => ?_)
  · exact h [] b' e' (.inr ⟨he', lift_err he (fun e h => text_err h) he'⟩) t' hb' hz'
  · subst h0
    obtain ⟨hb2, _⟩ := text_ok (lift0 (textP most b) ▸ hs)
    exact h s r 0 (.inl ⟨hs, rfl⟩) t' (by rw [hb2]; simp; omega) (.inl hz')
theorem counts_m (z : Nat) (b : List UInt8) (t : Bool) (e : Int) (most : Nat) (hm : most ≤ 1000) (he : e = 0 ∨ is345 e) (hz : z = 1 ∨ b = []) (hb : b.length ≤ 1000000000) (Post : PV → List (Nat × Blk) → Prop)
    (h : ∀ (n : Nat) b' e', Out (lift e (cntP most b)) n b' e' → n ≤ most → ∀ t', (e' ≠ 0 → n = 0) → b'.length ≤ b.length → (z = 1 ∨ b' = []) → Post (.int .i64 n) (tp z b' t' e')) : Spec K 105 [.ptr 0 0, .int .i64 most] (tp z b t e) Post := by
  refine counts_c z b t e most hm hz hb Post (fun e' he' t' b' hb' hz' => ?_) (fun s r hs h0 t' hz' => ?_)
  · exact h 0 b' e' (.inr ⟨he', lift_err he (fun e h => cnt_err h) he'⟩) (Nat.zero_le _) t' (fun _ => rfl) hb' hz'
  · subst h0
    obtain ⟨hb2, h2, _⟩ := cnt_ok (lift0 (cntP most b) ▸ hs)
    exact h s r 0 (.inl ⟨hs, rfl⟩) h2 t' (fun h => absurd rfl h) (by rw [hb2]; simp) (.inl hz')
/-- What is told of a value that was taken off. -/
structure VO (v : V) (z1 : Nat) (lp : List PV) (z2 : Nat) : Prop where
  l : VPs v.l lp
  z1 : z1 = 5 ∨ v.l = []
  z2 : z2 = 1 ∨ v.ns = []
  n : i64 v.n
theorem VO0 : VO V0 0 [] 0 := ⟨rfl, .inr rfl, .inr rfl, ⟨by decide, by decide⟩⟩
theorem VPs_snoc : ∀ {l : List V} {lp : List PV} {v : V} {p : PV}, VPs l lp → VP v p → VPs (l ++ [v]) (lp ++ [p])
  | [], lp, v, p, h, hv => by
    simp only [VPs] at h
    subst h
    exact ⟨p, [], rfl, hv, rfl⟩
  | w :: r, lp, v, p, h, hv => by
    simp only [VPs] at h
    obtain ⟨q, lq, rfl, h1, h2⟩ := h
    exact ⟨q, lq ++ [p], rfl, h1, VPs_snoc h2 hv⟩
theorem VO.vp {v : V} {z1 : Nat} {lp : List PV} {z2 : Nat} (h : VO v z1 lp z2) (t1 t2 : Bool) : VP v (.agg (vc v z1 lp t1 z2 t2)) := by
  cases v
  exact ⟨z1, lp, t1, true, z2, t2, true, rfl, h.l, h.z1, h.z2, h.n⟩
/-- The contract of taking a value off. -/
def ValC (d : Nat) : Prop := ∀ (b : List UInt8) (z : Nat) (t : Bool) (w : Int), w = 8 - (d : Int) → (z = 1 ∨ b = []) → b.length ≤ 1000000000 → ∀ Post : PV → List (Nat × Blk) → Prop,
  (∀ v b' e' t' z1 lp z2, VO v z1 lp z2 → b'.length ≤ b.length → (z = 1 ∨ b' = []) → Out (parseV d b) v b' e' → Post (.agg (vc v z1 lp false z2 false)) (tp z b' t' e')) → Spec K 92 [.ptr 0 0, .int .i64 w] (tp z b t 0) Post
theorem within_m (d : Nat) (hd : d ≤ 7) (IH : ValC d) (b : List UInt8) (e : Int) (z : Nat) (t : Bool) (w : Int) (hw : w = 8 - ((d + 1 : Nat) : Int)) (he : e = 0 ∨ is345 e) (hz : z = 1 ∨ b = []) (hb : b.length ≤ 1000000000) (Post : PV → List (Nat × Blk) → Prop)
    (h : ∀ v b' e' t' z1 lp z2, VO v z1 lp z2 → b'.length ≤ b.length → (z = 1 ∨ b' = []) → Out (lift e (parseV d b)) v b' e' → Post (.agg (vc v z1 lp false z2 false)) (tp z b' t' e')) :
    Spec K 106 [.ptr 0 0, .int .i64 w] (tp z b t e) Post := by
  refine is106.specW K_ok K_mix false (by simp) (by simp [keys]) ?_
  rcases he with rfl | he
  · (conv => whnf); repeat ((first | (refine And.intro ?_ ?_; focus exact Cl3) | refine Both.T (by exact rfl) ?_ | refine Both.F (by exact rfl) ?_ | refine Both.GT (by exact rfl) (by exact rfl) ?_ | refine Both.GF (by exact rfl) ?_ | refine Both.GN (by exact rfl) ?_); conv => whnf)
    rw [show IntKind.i64.wrap (w + 1) = w + 1 from wrap64 (by omega) (by omega)]
    refine IH b z t (w + 1) (by omega) hz hb _ fun v b' e' t' z1 lp z2 hv hb' hz' ho => ?_
    (conv => whnf); repeat ((first | (refine And.intro ?_ ?_; focus exact Cl3) | refine Both.T (by exact rfl) ?_ | refine Both.F (by exact rfl) ?_ | refine Both.GT (by exact rfl) (by exact rfl) ?_ | refine Both.GF (by exact rfl) ?_ | refine Both.GN (by exact rfl) ?_); conv => whnf)
    exact h v b' e' t' z1 lp z2 hv hb' hz' ho
  · have h1 : (e != 0) = true := by simpa using is345_ne he
    (conv => whnf); repeat ((first | (refine And.intro ?_ ?_; focus exact Cl3) | refine Both.T (by exact rfl) ?_ | refine Both.F (by exact rfl) ?_ | refine Both.GT (by exact rfl) (by exact rfl) ?_ | refine Both.GF (by exact rfl) ?_ | refine Both.GN (by exact rfl) ?_); conv => whnf)
    rw [h1]
    (conv => whnf); repeat ((first | (refine And.intro ?_ ?_; focus exact Cl3) | refine Both.T (by exact rfl) ?_ | refine Both.F (by exact rfl) ?_ | refine Both.GT (by exact rfl) (by exact rfl) ?_ | refine Both.GF (by exact rfl) ?_ | refine Both.GN (by exact rfl) ?_); conv => whnf)
    exact h V0 b e t 0 [] 0 VO0 (Nat.le_refl _) hz (.inr ⟨liftE (is345_ne he) _, he⟩)
def preL {α : Type} (l : List α) (p : Except Int (List α × List UInt8)) : Except Int (List α × List UInt8) :=
  match p with
  | .error e => .error e
  | .ok (l', r) => .ok (l ++ l', r)
theorem preL_nil {α : Type} (p : Except Int (List α × List UInt8)) : preL [] p = p := by cases p <;> rfl
theorem list_step {f : VPar} {l : List V} {e : Int} {n : Nat} {b : List UInt8} {v : V} {b' : List UInt8} {e' : Int} (h : Out (lift e (f b)) v b' e') : preL l (lift e (listP f (n + 1) b)) = preL (l ++ [v]) (lift e' (listP f n b')) := by
  by_cases he : e = 0
  · subst he
    rw [lift0] at h ⊢
    rcases h with ⟨h, rfl⟩ | ⟨h, h2⟩
    · rw [lift0, listP, h]
      simp only
      cases hl : listP f n b' with
      | error e => rfl
      | ok p => simp [preL]
    · rw [liftE (is345_ne h2), listP, h]
      rfl
  · rw [liftE he] at h ⊢
    rcases h with ⟨h, _⟩ | ⟨h, h2⟩
    · cases h
    · cases h
      rw [liftE he]
      rfl
theorem list_end {f : VPar} {l : List V} {e : Int} {b : List UInt8} (he : e = 0 ∨ is345 e) {p : Except Int (List V × List UInt8)} (h : p = preL l (lift e (listP f 0 b))) : Out p l b e := by
  rcases he with rfl | he
  · refine .inl ⟨?_, rfl⟩
    rw [h, lift0, listP, preL, List.append_nil]
  · refine .inr ⟨?_, he⟩
    rw [h, liftE (is345_ne he), preL]
def preR (ns : List (List UInt8)) (l : List V) (p : Except Int ((List (List UInt8) × List V) × List UInt8)) : Except Int ((List (List UInt8) × List V) × List UInt8) :=
  match p with
  | .error e => .error e
  | .ok ((ns', l'), r) => .ok ((ns ++ ns', l ++ l'), r)
theorem preR_nil (p : Except Int ((List (List UInt8) × List V) × List UInt8)) : preR [] [] p = p := by cases p <;> rfl
theorem rec_stepV {f : VPar} {ns : List (List UInt8)} {l : List V} {e : Int} {n : Nat} {b : List UInt8} {s : List UInt8} {b1 : List UInt8} {e1 : Int} {v : V} {b' : List UInt8} {e' : Int} (h1 : Out (lift e (textP 16 b)) s b1 e1) (h : Out (lift e1 (f b1)) v b' e') :
    preR ns l (lift e (recP f (n + 1) b)) = preR (ns ++ [s]) (l ++ [v]) (lift e' (recP f n b')) := by
  by_cases he : e = 0
  · subst he
    rw [lift0] at h1 ⊢
    rcases h1 with ⟨h1, rfl⟩ | ⟨h1, h2⟩
    · rw [lift0] at h
      rcases h with ⟨h, rfl⟩ | ⟨h, h2⟩
      · rw [lift0, recP, h1]
        simp only
        rw [h]
        simp only
        cases hl : recP f n b' with
        | error e => rfl
        | ok p => simp [preR]
      · rw [liftE (is345_ne h2), recP, h1]
        simp only
        rw [h]
        rfl
    · rw [liftE (is345_ne h2)] at h
      rcases h with ⟨h, _⟩ | ⟨h, h3⟩
      · cases h
      · cases h
        rw [liftE (is345_ne h2), recP, h1]
        rfl
  · rw [liftE he] at h1 ⊢
    rcases h1 with ⟨h1, _⟩ | ⟨h1, h2⟩
    · cases h1
    · cases h1
      rw [liftE he] at h
      rcases h with ⟨h, _⟩ | ⟨h, h3⟩
      · cases h
      · cases h
        rw [liftE he]
        rfl
theorem rec_end {f : VPar} {ns : List (List UInt8)} {l : List V} {e : Int} {b : List UInt8} (he : e = 0 ∨ is345 e) {p : Except Int ((List (List UInt8) × List V) × List UInt8)} (h : p = preR ns l (lift e (recP f 0 b))) : Out p (ns, l) b e := by
  rcases he with rfl | he
  · refine .inl ⟨?_, rfl⟩
    rw [h, lift0, recP, preR, List.append_nil, List.append_nil]
  · refine .inr ⟨?_, he⟩
    rw [h, liftE (is345_ne he), preR]
theorem Out.e {α : Type} {p : Except Int (α × List UInt8)} {a : α} {b : List UInt8} {e : Int} (h : Out p a b e) : e = 0 ∨ is345 e := h.imp (·.2) (·.2)
/-- What is behind a kind, told by what was taken off. -/
theorem Out.map {α β : Type} {p : Except Int (α × List UInt8)} {a : α} {b : List UInt8} {e : Int} {q : Except Int (β × List UInt8)} {c : β} (h : Out p a b e) (h1 : p = .ok (a, b) → q = .ok (c, b)) (h2 : ∀ e, p = .error e → q = .error e) : Out q c b e :=
  h.imp (fun h => ⟨h1 h.1, h.2⟩) (fun h => ⟨h2 _ h.1, h.2⟩)
end Go.Vc
