/- What is proved here: contracts of functions of the program: of each function what it hands back and what it leaves in memory. Conditions: those that each theorem names. -/
import Derived.Test.YtmbopgmllnijjaaWc
import Derived.Test.YtmbopgmllnijjaaFx
set_option linter.unusedVariables false
set_option linter.unusedSimpArgs false
set_option linter.unusedSectionVars false
namespace Go.Vc
open Go Go.Proofs
set_option maxRecDepth 100000
/-- A tape: bytes that are left, the first error. -/
abbrev tp (z : Nat) (b : List UInt8) (t : Bool) (e : Int) : List (Nat × Blk) := [(0, .box [.sl z (bs b) t true, .int .i64 e])]
def failE (e : Int) (is : Bool) (e' : Int) : Int := if e ≠ 0 then e else if is then e' else 0
theorem fail_spec (z : Nat) (b : List UInt8) (t : Bool) (e e' : Int) (is : Bool) (Post : PV → List (Nat × Blk) → Prop) (h : Post (.tup []) (tp z b t (failE e is e'))) : Spec K 101 [.ptr 0 0, .bool is, .int .i64 e'] (tp z b t e) Post := by
  refine is101.spec K_ok K_mix true (by simp) (by simp [keys]) ?_
  by_cases h0 : e = 0
  · subst h0
    cases is
    · (conv => whnf); repeat ((first | (refine And.intro ?_ ?_; focus exact Cl3) | refine Both.T (by exact rfl) ?_ | refine Both.F (by exact rfl) ?_ | refine Both.GT (by exact rfl) (by exact rfl) ?_ | refine Both.GF (by exact rfl) ?_ | refine Both.GN (by exact rfl) ?_); conv => whnf)
      exact h
    · (conv => whnf); repeat ((first | (refine And.intro ?_ ?_; focus exact Cl3) | refine Both.T (by exact rfl) ?_ | refine Both.F (by exact rfl) ?_ | refine Both.GT (by exact rfl) (by exact rfl) ?_ | refine Both.GF (by exact rfl) ?_ | refine Both.GN (by exact rfl) ?_); conv => whnf)
      exact h
  · have h1 : (e == 0) = false := by simpa using h0
    (conv => whnf); repeat ((first | (refine And.intro ?_ ?_; focus exact Cl3) | refine Both.T (by exact rfl) ?_ | refine Both.F (by exact rfl) ?_ | refine Both.GT (by exact rfl) (by exact rfl) ?_ | refine Both.GF (by exact rfl) ?_ | refine Both.GN (by exact rfl) ?_); conv => whnf)
    rw [h1]
    (conv => whnf); repeat ((first | (refine And.intro ?_ ?_; focus exact Cl3) | refine Both.T (by exact rfl) ?_ | refine Both.F (by exact rfl) ?_ | refine Both.GT (by exact rfl) (by exact rfl) ?_ | refine Both.GF (by exact rfl) ?_ | refine Both.GN (by exact rfl) ?_); conv => whnf)
    simpa [failE, h0] using h
/-- So many bytes, taken off. -/
def offE (n : Nat) (b : List UInt8) (e : Int) : Int := failE e (decide (b.length < n)) 3
def offB (n : Nat) (b : List UInt8) (e : Int) : List UInt8 := if offE n b e ≠ 0 then [] else b.take n
def offR (n : Nat) (b : List UInt8) (e : Int) : List UInt8 := if offE n b e ≠ 0 then b else b.drop n
theorem off_spec (z : Nat) (b : List UInt8) (t : Bool) (e : Int) (n : Nat) (hz : z = 1 ∨ b = []) (hb : b.length ≤ 1000000000) (hn : n ≤ 1000) (Post : PV → List (Nat × Blk) → Prop)
    (h : ∀ z' t', (z' = 1 ∨ offB n b e = []) → Post (.sl z' (bs (offB n b e)) false true) (tp z (offR n b e) t' (offE n b e))) : Spec K 103 [.ptr 0 0, .int .i64 n] (tp z b t e) Post := by
  refine is103.specW K_ok K_mix false (by simp) (by simp [keys]) ?_
  (conv => whnf); repeat ((first | (refine And.intro ?_ ?_; focus exact Cl3) | refine Both.T (by exact rfl) ?_ | refine Both.F (by exact rfl) ?_ | refine Both.GT (by exact rfl) (by exact rfl) ?_ | refine Both.GF (by exact rfl) ?_ | refine Both.GN (by exact rfl) ?_); conv => whnf)
  refine fail_spec z b t e 3 _ _ ?_
  rw [bs_len, show decide ((b.length : Int) < (n : Int)) = decide (b.length < n) from decide_eq_decide.2 (by omega)]
  have he : failE e (decide (b.length < n)) 3 = offE n b e := rfl
  rw [he]
  by_cases h0 : offE n b e = 0
  · have h1 : (offE n b e != 0) = false := by simpa using h0
    have hlen : n ≤ b.length := by
      by_cases hl : b.length < n
      · unfold offE failE at h0
        split at h0
        · rename_i h2; exact absurd h0 h2
        · simp [hl] at h0
      · omega
    have hz2 : z = 1 ∨ bs b = [] := hz.imp id fun h => by rw [h]; rfl
    have hb1 : True → (0 : Int) ≤ (n : Int) ∧ (n : Int) ≤ ((bs b).length : Int) := fun _ => ⟨by omega, by rw [bs_len]; omega⟩
    (conv => whnf); repeat ((first | (refine And.intro ?_ ?_; focus exact Cl3) | refine Both.T (by exact rfl) ?_ | refine Both.F (by exact rfl) ?_ | refine Both.GT (by exact rfl) (by exact rfl) ?_ | refine Both.GF (by exact rfl) ?_ | refine Both.GN (by exact rfl) ?_); conv => whnf)
    rw [h1]
    (conv => whnf); repeat ((first | (refine And.intro ?_ ?_; focus exact Cl3) | refine Both.T (by exact rfl) ?_ | refine Both.F (by exact rfl) ?_ | refine Both.GT (by exact rfl) (by exact rfl) ?_ | refine Both.GF (by exact rfl) ?_ | refine Both.GN (by exact rfl) ?_); conv => whnf)
    rw [Int.toNat_natCast, List.drop_zero, List.take_of_length_le (l := bs b) (i := (bs b).length) (Nat.le_refl _), bs_take, bs_drop]
    have e1 : offB n b e = b.take n := by rw [offB, if_neg (by rw [h0]; simp)]
    have e2 : offR n b e = b.drop n := by rw [offR, if_neg (by rw [h0]; simp)]
    rw [e1, e2] at h
    exact h z _ (hz.imp id fun h => by rw [h]; simp)
  · have h1 : (offE n b e != 0) = true := by simpa using h0
    (conv => whnf); repeat ((first | (refine And.intro ?_ ?_; focus exact Cl3) | refine Both.T (by exact rfl) ?_ | refine Both.F (by exact rfl) ?_ | refine Both.GT (by exact rfl) (by exact rfl) ?_ | refine Both.GF (by exact rfl) ?_ | refine Both.GN (by exact rfl) ?_); conv => whnf)
    rw [h1]
    (conv => whnf); repeat ((first | (refine And.intro ?_ ?_; focus exact Cl3) | refine Both.T (by exact rfl) ?_ | refine Both.F (by exact rfl) ?_ | refine Both.GT (by exact rfl) (by exact rfl) ?_ | refine Both.GF (by exact rfl) ?_ | refine Both.GN (by exact rfl) ?_); conv => whnf)
    have e1 : offB n b e = [] := by rw [offB, if_pos h0]
    have e2 : offR n b e = b := by rw [offR, if_pos h0]
    rw [e1, e2] at h
    exact h 0 t (.inr rfl)
/-- One byte, taken off. -/
def byteN (b : List UInt8) (e : Int) : Nat := if offE 1 b e ≠ 0 then 0 else (b.headD 0).toNat
theorem offE_len {n : Nat} {b : List UInt8} {e : Int} (h : offE n b e = 0) : n ≤ b.length := by
  by_cases hl : b.length < n
  · unfold offE failE at h
    split at h
    · rename_i h2; exact absurd h h2
    · simp [hl] at h
  · omega
theorem byte_spec (z : Nat) (b : List UInt8) (t : Bool) (e : Int) (hz : z = 1 ∨ b = []) (hb : b.length ≤ 1000000000) (Post : PV → List (Nat × Blk) → Prop)
    (h : ∀ t', Post (.int .i64 (byteN b e)) (tp z (offR 1 b e) t' (offE 1 b e))) : Spec K 102 [.ptr 0 0] (tp z b t e) Post := by
  refine is102.specW K_ok K_mix false (by simp) (by simp [keys]) ?_
  (conv => whnf); repeat ((first | (refine And.intro ?_ ?_; focus exact Cl3) | refine Both.T (by exact rfl) ?_ | refine Both.F (by exact rfl) ?_ | refine Both.GT (by exact rfl) (by exact rfl) ?_ | refine Both.GF (by exact rfl) ?_ | refine Both.GN (by exact rfl) ?_); conv => whnf)
  refine off_spec z b t e 1 hz hb (by omega) _ fun z' t' hz' => ?_
  (conv => whnf); repeat ((first | (refine And.intro ?_ ?_; focus exact Cl3) | refine Both.T (by exact rfl) ?_ | refine Both.F (by exact rfl) ?_ | refine Both.GT (by exact rfl) (by exact rfl) ?_ | refine Both.GF (by exact rfl) ?_ | refine Both.GN (by exact rfl) ?_); conv => whnf)
  rw [bs_len]
  by_cases h0 : offE 1 b e = 0
  · have hl := offE_len h0
    have e1 : offB 1 b e = [b.headD 0] := by
      rw [offB, if_neg (by rw [h0]; simp)]
      cases b with
      | nil => simp at hl
      | cons c r => rfl
    rw [e1]
    (conv => whnf); repeat ((first | (refine And.intro ?_ ?_; focus exact Cl3) | refine Both.T (by exact rfl) ?_ | refine Both.F (by exact rfl) ?_ | refine Both.GT (by exact rfl) (by exact rfl) ?_ | refine Both.GF (by exact rfl) ?_ | refine Both.GN (by exact rfl) ?_); conv => whnf)
    refine ⟨hz'.imp id fun h => (by rw [e1] at h; cases h), ?_⟩
    (conv => whnf); repeat ((first | (refine And.intro ?_ ?_; focus exact Cl3) | refine Both.T (by exact rfl) ?_ | refine Both.F (by exact rfl) ?_ | refine Both.GT (by exact rfl) (by exact rfl) ?_ | refine Both.GF (by exact rfl) ?_ | refine Both.GN (by exact rfl) ?_); conv => whnf)
    refine ⟨fun _ => ⟨by decide, by rw [bs_len]; simp⟩, ?_⟩
    (conv => whnf); repeat ((first | (refine And.intro ?_ ?_; focus exact Cl3) | refine Both.T (by exact rfl) ?_ | refine Both.F (by exact rfl) ?_ | refine Both.GT (by exact rfl) (by exact rfl) ?_ | refine Both.GF (by exact rfl) ?_ | refine Both.GN (by exact rfl) ?_); conv => whnf)
    rw [wrap64 (by omega) (by have := (b.headD 0).toNat_lt; omega)]
    have := h t'
    rw [byteN, if_neg (by rw [h0]; simp)] at this
    exact this
  · have e1 : offB 1 b e = [] := by rw [offB, if_pos h0]
    rw [e1]
    (conv => whnf); repeat ((first | (refine And.intro ?_ ?_; focus exact Cl3) | refine Both.T (by exact rfl) ?_ | refine Both.F (by exact rfl) ?_ | refine Both.GT (by exact rfl) (by exact rfl) ?_ | refine Both.GF (by exact rfl) ?_ | refine Both.GN (by exact rfl) ?_); conv => whnf)
    have := h t'
    rw [byteN, if_pos h0] at this
    exact this
/-- How many there are, so many at most. -/
def cntE (most : Nat) (b : List UInt8) (e : Int) : Int := failE (offE 1 b e) (decide (most < byteN b e)) 5
def cntN (most : Nat) (b : List UInt8) (e : Int) : Nat := if cntE most b e ≠ 0 then 0 else byteN b e
theorem byteN_lt (b : List UInt8) (e : Int) : byteN b e < 256 := by
  unfold byteN
  split
  · omega
  · exact (b.headD 0).toNat_lt
theorem counts_spec (z : Nat) (b : List UInt8) (t : Bool) (e : Int) (most : Nat) (hm : most ≤ 1000) (hz : z = 1 ∨ b = []) (hb : b.length ≤ 1000000000) (Post : PV → List (Nat × Blk) → Prop)
    (h : ∀ t', Post (.int .i64 (cntN most b e)) (tp z (offR 1 b e) t' (cntE most b e))) : Spec K 105 [.ptr 0 0, .int .i64 most] (tp z b t e) Post := by
  refine is105.specW K_ok K_mix false (by simp) (by simp [keys]) ?_
  (conv => whnf); repeat ((first | (refine And.intro ?_ ?_; focus exact Cl3) | refine Both.T (by exact rfl) ?_ | refine Both.F (by exact rfl) ?_ | refine Both.GT (by exact rfl) (by exact rfl) ?_ | refine Both.GF (by exact rfl) ?_ | refine Both.GN (by exact rfl) ?_); conv => whnf)
  refine byte_spec z b t e hz hb _ fun t' => ?_
  (conv => whnf); repeat ((first | (refine And.intro ?_ ?_; focus exact Cl3) | refine Both.T (by exact rfl) ?_ | refine Both.F (by exact rfl) ?_ | refine Both.GT (by exact rfl) (by exact rfl) ?_ | refine Both.GF (by exact rfl) ?_ | refine Both.GN (by exact rfl) ?_); conv => whnf)
  rw [show decide ((most : Int) < (byteN b e : Int)) = decide (most < byteN b e) from decide_eq_decide.2 (by omega)]
  refine fail_spec z (offR 1 b e) t' (offE 1 b e) 5 _ _ ?_
  have he : failE (offE 1 b e) (decide (most < byteN b e)) 5 = cntE most b e := rfl
  rw [he]
  (conv => whnf); repeat ((first | (refine And.intro ?_ ?_; focus exact Cl3) | refine Both.T (by exact rfl) ?_ | refine Both.F (by exact rfl) ?_ | refine Both.GT (by exact rfl) (by exact rfl) ?_ | refine Both.GF (by exact rfl) ?_ | refine Both.GN (by exact rfl) ?_); conv => whnf)
  have h' := h t'
  by_cases h0 : cntE most b e = 0
  · have h1 : (cntE most b e != 0) = false := by simpa using h0
    rw [h1]
    (conv => whnf); repeat ((first | (refine And.intro ?_ ?_; focus exact Cl3) | refine Both.T (by exact rfl) ?_ | refine Both.F (by exact rfl) ?_ | refine Both.GT (by exact rfl) (by exact rfl) ?_ | refine Both.GF (by exact rfl) ?_ | refine Both.GN (by exact rfl) ?_); conv => whnf)
    rw [cntN, if_neg (by rw [h0]; simp)] at h'
    exact h'
  · have h1 : (cntE most b e != 0) = true := by simpa using h0
    rw [h1]
    (conv => whnf); repeat ((first | (refine And.intro ?_ ?_; focus exact Cl3) | refine Both.T (by exact rfl) ?_ | refine Both.F (by exact rfl) ?_ | refine Both.GT (by exact rfl) (by exact rfl) ?_ | refine Both.GF (by exact rfl) ?_ | refine Both.GN (by exact rfl) ?_); conv => whnf)
    rw [cntN, if_pos h0] at h'
    exact h'
theorem text_tape_spec (z : Nat) (b : List UInt8) (t : Bool) (e : Int) (most : Nat) (hm : most ≤ 1000) (hz : z = 1 ∨ b = []) (hb : b.length ≤ 1000000000) (Post : PV → List (Nat × Blk) → Prop)
    (h : ∀ t', Post (.str (offB (cntN most b e) (offR 1 b e) (cntE most b e))) (tp z (offR (cntN most b e) (offR 1 b e) (cntE most b e)) t' (offE (cntN most b e) (offR 1 b e) (cntE most b e)))) : Spec K 104 [.ptr 0 0, .int .i64 most] (tp z b t e) Post := by
  refine is104.specW K_ok K_mix false (by simp) (by simp [keys]) ?_
  (conv => whnf); repeat ((first | (refine And.intro ?_ ?_; focus exact Cl3) | refine Both.T (by exact rfl) ?_ | refine Both.F (by exact rfl) ?_ | refine Both.GT (by exact rfl) (by exact rfl) ?_ | refine Both.GF (by exact rfl) ?_ | refine Both.GN (by exact rfl) ?_); conv => whnf)
  refine counts_spec z b t e most hm hz hb _ fun t' => ?_
  (conv => whnf); repeat ((first | (refine And.intro ?_ ?_; focus exact Cl3) | refine Both.T (by exact rfl) ?_ | refine Both.F (by exact rfl) ?_ | refine Both.GT (by exact rfl) (by exact rfl) ?_ | refine Both.GF (by exact rfl) ?_ | refine Both.GN (by exact rfl) ?_); conv => whnf)
  have hr : (offR 1 b e).length ≤ b.length := by unfold offR; split <;> simp
  have hc : cntN most b e ≤ 256 := by
    unfold cntN
    split
    · omega
    · have := byteN_lt b e; omega
  refine off_spec z (offR 1 b e) t' (cntE most b e) (cntN most b e) (hz.imp id fun h => by rw [h]; unfold offR; split <;> simp) (by omega) (by omega) _ fun z' t'' hz' => ?_
  (conv => whnf); repeat ((first | (refine And.intro ?_ ?_; focus exact Cl3) | refine Both.T (by exact rfl) ?_ | refine Both.F (by exact rfl) ?_ | refine Both.GT (by exact rfl) (by exact rfl) ?_ | refine Both.GF (by exact rfl) ?_ | refine Both.GN (by exact rfl) ?_); conv => whnf)
  refine ⟨bs_int _, ?_⟩
  (conv => whnf); repeat ((first | (refine And.intro ?_ ?_; focus exact Cl3) | refine Both.T (by exact rfl) ?_ | refine Both.F (by exact rfl) ?_ | refine Both.GT (by exact rfl) (by exact rfl) ?_ | refine Both.GF (by exact rfl) ?_ | refine Both.GN (by exact rfl) ?_); conv => whnf)
  rw [str_bs]
  exact h t''
end Go.Vc
namespace Go.Vc
open Go Go.Proofs
set_option maxRecDepth 100000
/-- An int of eight bytes. -/
def n8 (l : List UInt8) : Int := l.foldl (fun n c => bitsI .or .i64 (IntKind.i64.wrap (n * 2 ^ 8)) (c.toNat : Int)) 0
theorem wrap_def (n : Int) : IntKind.i64.wrap n = if 9223372036854775808 ≤ n % 18446744073709551616 then n % 18446744073709551616 - 18446744073709551616 else n % 18446744073709551616 := by
  show (if (true && decide (n % 18446744073709551616 ≥ 9223372036854775808)) = true then n % 18446744073709551616 - 18446744073709551616 else n % 18446744073709551616) = _
  by_cases h : 9223372036854775808 ≤ n % 18446744073709551616
  · rw [if_pos (by rw [decide_eq_true h]; rfl), if_pos h]
  · rw [if_neg (by rw [decide_eq_false (show ¬ (n % 18446744073709551616 ≥ 9223372036854775808) from h)]; decide), if_neg h]
theorem wrap_congr {a b : Int} (h : a % 18446744073709551616 = b % 18446744073709551616) : IntKind.i64.wrap a = IntKind.i64.wrap b := by
  rw [wrap_def, wrap_def, h]
theorem wrap_mod (a : Int) : IntKind.i64.wrap a % 18446744073709551616 = a % 18446744073709551616 := by
  rw [wrap_def]
  split <;> omega
theorem wrap_i64 (a : Int) : i64 (IntKind.i64.wrap a) := by
  unfold i64
  rw [wrap_def]
  split <;> constructor <;> omega
theorem ofInt_mod (a : Int) (N : Nat) (h : a % 18446744073709551616 = (N : Int) % 18446744073709551616) : BitVec.ofInt 64 a = BitVec.ofNat 64 N := by
  apply BitVec.eq_of_toNat_eq
  rw [BitVec.toNat_ofInt, BitVec.toNat_ofNat]
  have h' : a % ((2 ^ 64 : Nat) : Int) = (N : Int) % 18446744073709551616 := h
  rw [h']
  omega
theorem orW (N c : Nat) (hc : c < 256) : bitsI .or .i64 (IntKind.i64.wrap (IntKind.i64.wrap (N : Int) * 2 ^ 8)) (c : Int) = IntKind.i64.wrap ((N * 256 + c : Nat) : Int) := by
  have h1 : IntKind.i64.wrap (IntKind.i64.wrap (N : Int) * 2 ^ 8) % 18446744073709551616 = (IntKind.i64.wrap (N : Int) * 256) % 18446744073709551616 := wrap_mod (IntKind.i64.wrap (N : Int) * 2 ^ 8)
  have h2 := wrap_mod (N : Int)
  generalize hA : IntKind.i64.wrap (IntKind.i64.wrap (N : Int) * 2 ^ 8) = A at *
  generalize IntKind.i64.wrap (N : Int) = B at *
  unfold bitsI
  show IntKind.i64.wrap (((BitVec.ofInt 64 A ||| BitVec.ofInt 64 (c : Int)).toNat : Nat) : Int) = _
  rw [ofInt_mod A (N % 72057594037927936 * 256) (by omega), BitVec.ofInt_natCast, BitVec.toNat_or, BitVec.toNat_ofNat, BitVec.toNat_ofNat, Nat.mod_eq_of_lt (a := N % 72057594037927936 * 256) (by omega), Nat.mod_eq_of_lt (a := c) (by omega)]
  have := Nat.shiftLeft_add_eq_or_of_lt (i := 8) hc (N % 72057594037927936)
  rw [Nat.shiftLeft_eq] at this
  rw [show (256 : Nat) = 2 ^ 8 from rfl, ← this]
  apply wrap_congr
  omega
theorem n8_go : ∀ (l : List UInt8) (N : Nat), l.foldl (fun n c => bitsI .or .i64 (IntKind.i64.wrap (n * 2 ^ 8)) (c.toNat : Int)) (IntKind.i64.wrap (N : Int)) = IntKind.i64.wrap ((horner N l : Nat) : Int)
  | [], N => rfl
  | c :: r, N => by
    rw [List.foldl_cons, orW N c.toNat c.toNat_lt, n8_go r]
    rfl
theorem n8_eq (l : List UInt8) : n8 l = IntKind.i64.wrap ((horner 0 l : Nat) : Int) := n8_go l 0
theorem n8_i64 (l : List UInt8) : i64 (n8 l) := by rw [n8_eq]; exact wrap_i64 _
theorem n8_snoc (l : List UInt8) (i : Nat) (h : i < l.length) : n8 (l.take (i + 1)) = bitsI .or .i64 (IntKind.i64.wrap (n8 (l.take i) * 2 ^ 8)) (l[i].toNat : Int) := by
  unfold n8
  rw [List.take_add_one, List.getElem?_eq_getElem h, List.foldl_append]
  rfl
theorem ub_toNat (n : Int) : ((ub n).toNat : Int) = n % 256 := by
  unfold ub
  rw [UInt8.toNat_ofNat']
  omega
theorem n8_be8 {n : Int} (hn : i64 n) : n8 (be8 n) = n := by
  rw [n8_eq]
  have hh : ∀ a b c d e f g h : UInt8, horner 0 [a, b, c, d, e, f, g, h] = ((((((a.toNat * 256 + b.toNat) * 256 + c.toNat) * 256 + d.toNat) * 256 + e.toNat) * 256 + f.toNat) * 256 + g.toNat) * 256 + h.toNat := by
    intros; simp [horner]
  have hb : be8 n = [ub (n / 72057594037927936), ub (n / 281474976710656), ub (n / 1099511627776), ub (n / 4294967296), ub (n / 16777216), ub (n / 65536), ub (n / 256), ub (n / 1)] := rfl
  rw [hb, hh]
  have e0 := ub_toNat (n / 72057594037927936)
  have e1 := ub_toNat (n / 281474976710656)
  have e2 := ub_toNat (n / 1099511627776)
  have e3 := ub_toNat (n / 4294967296)
  have e4 := ub_toNat (n / 16777216)
  have e5 := ub_toNat (n / 65536)
  have e6 := ub_toNat (n / 256)
  have e7 := ub_toNat (n / 1)
  unfold i64 at hn
  generalize (ub (n / 72057594037927936)).toNat = x0 at *
  generalize (ub (n / 281474976710656)).toNat = x1 at *
  generalize (ub (n / 1099511627776)).toNat = x2 at *
  generalize (ub (n / 4294967296)).toNat = x3 at *
  generalize (ub (n / 16777216)).toNat = x4 at *
  generalize (ub (n / 65536)).toNat = x5 at *
  generalize (ub (n / 256)).toNat = x6 at *
  generalize (ub (n / 1)).toNat = x7 at *
  refine Eq.trans (wrap_congr (b := n) ?_) (wrap64 hn.1 hn.2)
  have r7 : n = 256 * (n / 256) + x7 := by omega
  have r6 : n / 256 = 256 * (n / 65536) + x6 := by omega
  have r5 : n / 65536 = 256 * (n / 16777216) + x5 := by omega
  have r4 : n / 16777216 = 256 * (n / 4294967296) + x4 := by omega
  have r3 : n / 4294967296 = 256 * (n / 1099511627776) + x3 := by omega
  have r2 : n / 1099511627776 = 256 * (n / 281474976710656) + x2 := by omega
  have r1 : n / 281474976710656 = 256 * (n / 72057594037927936) + x1 := by omega
  have r0 : n / 72057594037927936 = 256 * (n / 18446744073709551616) + x0 := by omega
  clear e0 e1 e2 e3 e4 e5 e6 e7 hn hh hb
  generalize n / 256 = y1 at *
  generalize n / 65536 = y2 at *
  generalize n / 16777216 = y3 at *
  generalize n / 4294967296 = y4 at *
  generalize n / 1099511627776 = y5 at *
  generalize n / 281474976710656 = y6 at *
  generalize n / 72057594037927936 = y7 at *
  generalize n / 18446744073709551616 = y8 at *
  omega
theorem be8_n8 {l : List UInt8} (hl : l.length = 8) : be8 (n8 l) = l := by
  match l, hl with
  | [a, b, c, d, e, f, g, h], _ =>
    have hh : horner 0 [a, b, c, d, e, f, g, h] = ((((((a.toNat * 256 + b.toNat) * 256 + c.toNat) * 256 + d.toNat) * 256 + e.toNat) * 256 + f.toNat) * 256 + g.toNat) * 256 + h.toNat := by
      simp [horner]
    have hm : n8 [a, b, c, d, e, f, g, h] % 18446744073709551616 = (horner 0 [a, b, c, d, e, f, g, h] : Nat) % 18446744073709551616 := by rw [n8_eq, wrap_mod]
    rw [hh] at hm
    generalize n8 [a, b, c, d, e, f, g, h] = n at hm
    have hb : be8 n = [ub (n / 72057594037927936), ub (n / 281474976710656), ub (n / 1099511627776), ub (n / 4294967296), ub (n / 16777216), ub (n / 65536), ub (n / 256), ub (n / 1)] := rfl
    rw [hb]
    have key : ∀ (m : Int) (x : UInt8), m % 256 = x.toNat → ub m = x := fun m x hx => by
      apply UInt8.toNat.inj
      have := ub_toNat m
      show (ub m).toNat = x.toNat
      omega
    have a0 := a.toNat_lt
    have b0 := b.toNat_lt
    have c0 := c.toNat_lt
    have d0 := d.toNat_lt
    have e0 := e.toNat_lt
    have f0 := f.toNat_lt
    have g0 := g.toNat_lt
    have h0 := h.toNat_lt
    rw [key (n / 72057594037927936) a (by omega), key (n / 281474976710656) b (by omega), key (n / 1099511627776) c (by omega), key (n / 4294967296) d (by omega), key (n / 16777216) e (by omega), key (n / 65536) f (by omega), key (n / 256) g (by omega), key (n / 1) h (by omega)]
/-! The parser of values. -/
def cntP (most : Nat) : List UInt8 → Except Int (Nat × List UInt8)
  | [] => .error 3
  | c :: r => if most < c.toNat then .error 5 else .ok (c.toNat, r)
def takeP (n : Nat) (b : List UInt8) : Except Int (List UInt8 × List UInt8) := if b.length < n then .error 3 else .ok (b.take n, b.drop n)
def textP (most : Nat) (b : List UInt8) : Except Int (List UInt8 × List UInt8) :=
  match cntP most b with
  | .error e => .error e
  | .ok (n, r) => takeP n r
abbrev VPar := List UInt8 → Except Int (V × List UInt8)
def listP (f : VPar) : Nat → List UInt8 → Except Int (List V × List UInt8)
  | 0, b => .ok ([], b)
  | n + 1, b => match f b with
    | .error e => .error e
    | .ok (v, r) => match listP f n r with
      | .error e => .error e
      | .ok (l, r) => .ok (v :: l, r)
def recP (f : VPar) : Nat → List UInt8 → Except Int ((List (List UInt8) × List V) × List UInt8)
  | 0, b => .ok (([], []), b)
  | n + 1, b => match textP 16 b with
    | .error e => .error e
    | .ok (s, r) => match f r with
      | .error e => .error e
      | .ok (v, r) => match recP f n r with
        | .error e => .error e
        | .ok ((ns, l), r) => .ok ((s :: ns, v :: l), r)
/-- What is behind a kind. -/
def bodyP (f : VPar) (k : Nat) (r : List UInt8) : Except Int (V × List UInt8) :=
  if k = 0 then .ok (.mk 0 0 [] [] [], r)
  else if k = 1 then match takeP 8 r with
    | .error e => .error e
    | .ok (l, r) => .ok (.mk 1 (n8 l) [] [] [], r)
  else if k = 2 then match takeP 1 r with
    | .error e => .error e
    | .ok (l, r) => if 1 < (l.headD 0).toNat then .error 4 else .ok (.mk 2 (l.headD 0).toNat [] [] [], r)
  else if k = 3 then match textP 64 r with
    | .error e => .error e
    | .ok (s, r) => .ok (.mk 3 0 s [] [], r)
  else if k = 4 then match cntP 32 r with
    | .error e => .error e
    | .ok (n, r) => match listP f n r with
      | .error e => .error e
      | .ok (l, r) => .ok (.mk 4 0 [] l [], r)
  else if k = 5 then match cntP 8 r with
    | .error e => .error e
    | .ok (n, r) => match recP f n r with
      | .error e => .error e
      | .ok ((ns, l), r) => .ok (.mk 5 0 [] l ns, r)
  else match takeP 1 r with
    | .error e => .error e
    | .ok (l, r) => .ok (.mk 6 (l.headD 0).toNat [] [] [], r)
/-- A value, so deep at most. -/
def parseV : Nat → VPar
  | _, [] => .error 3
  | 0, _ :: _ => .error 5
  | d + 1, c :: r => if 6 < c.toNat then .error 4 else bodyP (parseV d) c.toNat r
end Go.Vc
