/- What is proved here: contracts of functions of the program: of each function what it hands back and what it leaves in memory. Conditions: those that each theorem names. -/
import Derived.Test.YtmbopgmllnijjaaFb
import Derived.Test.YtmbopgmllnijjaaVx
set_option linter.unusedVariables false
set_option linter.unusedSimpArgs false
set_option linter.unusedSectionVars false
namespace Go.Vc
open Go Go.Proofs
set_option maxRecDepth 100000
/-- How many bits a number has. -/
def len (v : Nat) : Nat := if v = 0 then 0 else v.log2 + 1
theorem len_eq {v r : Nat} (h1 : v < 2 ^ r) (h2 : r = 0 ∨ 2 ^ (r - 1) ≤ v) : len v = r := by
  unfold len
  by_cases hv : v = 0
  · subst hv
    rcases h2 with rfl | h2
    · rfl
    · exact absurd h2 (by have := Nat.two_pow_pos (r - 1); omega)
  · rw [if_neg hv]
    have a1 := (Nat.log2_lt hv).2 h1
    rcases h2 with rfl | h2
    · simp at h1; omega
    · have : ¬ v.log2 < r - 1 := fun h => by have := (Nat.log2_lt hv).1 h; omega
      omega
theorem len_spec (v : Nat) : v < 2 ^ len v ∧ (len v = 0 ∨ 2 ^ (len v - 1) ≤ v) := by
  unfold len
  by_cases hv : v = 0
  · subst hv; simp
  · rw [if_neg hv]
    refine ⟨(Nat.log2_lt hv).1 (Nat.lt_succ_self _), .inr ?_⟩
    simpa using Nat.log2_self_le hv
theorem len_shift {v k : Nat} (h : 2 ^ k ≤ v) : len (v / 2 ^ k) + k = len v := by
  obtain ⟨h1, h2⟩ := len_spec (v / 2 ^ k)
  refine (len_eq ?_ ?_).symm
  · rw [Nat.pow_add]
    exact (Nat.div_lt_iff_lt_mul (Nat.two_pow_pos k)).1 h1
  · right
    have hp : 0 < v / 2 ^ k := Nat.div_pos h (Nat.two_pow_pos k)
    have h3 : len (v / 2 ^ k) ≠ 0 := fun h0 => by rw [h0] at h1; simp at h1; omega
    have h4 := h2.resolve_left h3
    have e : len (v / 2 ^ k) + k - 1 = len (v / 2 ^ k) - 1 + k := by omega
    rw [e, Nat.pow_add]
    exact (Nat.le_div_iff_mul_le (Nat.two_pow_pos k)).1 h4
theorem len_mono {a b : Nat} (h : a ≤ b) : len a ≤ len b := by
  obtain ⟨h1, h2⟩ := len_spec a
  obtain ⟨h3, h4⟩ := len_spec b
  rcases h2 with h2 | h2
  · omega
  · have : 2 ^ (len a - 1) < 2 ^ len b := by omega
    have := (Nat.pow_lt_pow_iff_right (by omega : 1 < 2)).1 this
    omega
theorem fdivN (v k : Nat) : Int.fdiv (v : Int) (2 ^ k) = ((v / 2 ^ k : Nat) : Int) := by
  rw [Int.fdiv_eq_ediv_of_nonneg _ (Int.pow_nonneg (by omega))]
  simp

theorem fd (v k : Nat) (x : Int) (kd : IntKind) (h : min x.toNat kd.bits = k) : Int.fdiv (v : Int) (2 ^ min x.toNat kd.bits) = ((v / 2 ^ k : Nat) : Int) := by rw [h]; exact fdivN v k
theorem wrap8 {n : Int} (h0 : 0 ≤ n) (h1 : n < 256) : IntKind.u8.wrap n = n := by
  simp only [IntKind.wrap, IntKind.bits, IntKind.signed]
  have : n % 2 ^ 8 = n := Int.emod_eq_of_lt h0 (by omega)
  simp only [this, Bool.false_and, Bool.false_eq_true, if_false]
theorem len8_le {x : Nat} (hx : x < 256) : len x ≤ 8 := Nat.le_trans (len_mono (show x ≤ 255 by omega)) (by decide)
theorem fin64 {X v : Nat} {a : Int} (hX : X < 256) (ha : a + (len X : Int) = len v) (h0 : 0 ≤ a) (h1 : a ≤ 56) : IntKind.i64.wrap (a + IntKind.i64.wrap (len X : Int)) = (len v : Int) := by
  have := len8_le hX
  rw [wrap64 (n := (len X : Int)) (by omega) (by omega), wrap64 (by omega) (by omega), ha]
/-- How many bytes follow. -/
def fol (v : Nat) : Nat := min ((max (len v) 1 - 1) / 7) 8
theorem len64_le {v : Nat} (hv : v < 18446744073709551616) : len v ≤ 64 := Nat.le_trans (len_mono (show v ≤ 18446744073709551615 by omega)) (by decide +kernel)
theorem tdiv7 (n : Nat) : Int.tdiv (n : Int) 7 = ((n / 7 : Nat) : Int) := by
  rw [Int.tdiv_eq_ediv_of_nonneg (by omega)]; omega
theorem fol_eq {l : Nat} (hl : l ≤ 64) : (if 8 < IntKind.i64.wrap ((IntKind.i64.wrap ((if 1 > (l : Int) then 1 else (l : Int)) - 1)).tdiv 7) then 8
      else IntKind.i64.wrap ((IntKind.i64.wrap ((if 1 > (l : Int) then 1 else (l : Int)) - 1)).tdiv 7)) = ((min ((max l 1 - 1) / 7) 8 : Nat) : Int) := by
  have e1 : (if 1 > (l : Int) then 1 else (l : Int)) - 1 = ((max l 1 - 1 : Nat) : Int) := by split <;> omega
  rw [e1, wrap64 (n := ((max l 1 - 1 : Nat) : Int)) (by omega) (by omega), tdiv7, wrap64 (by omega) (by omega)]
  split <;> omega
theorem fol_le (v : Nat) : fol v ≤ 8 := Nat.min_le_right _ _
/-- The last bytes of a number, the highest first. -/
def be : Nat → Nat → List UInt8
  | 0, _ => []
  | k + 1, v => UInt8.ofNat (v / 256 ^ k) :: be k v
theorem be_len (k v : Nat) : (be k v).length = k := by
  induction k with
  | zero => rfl
  | succ k ih => simp [be, ih]
theorem set_bs {l : List UInt8} {j : Nat} (hj : j < l.length) {x : Int} {c : UInt8} (hx : x = c.toNat) : (bs l).set j (putElem (nth (bs l) j) 0 [.int .u8 x]) = bs (l.set j c) := by
  rw [nth_bs hj]
  subst hx
  show (bs l).set j (PV.int .u8 c.toNat) = _
  simp [bs, List.map_set]
theorem wrapB (v : Nat) : IntKind.u8.wrap (v : Int) = ((UInt8.ofNat v).toNat : Int) := by
  have h2 : (UInt8.ofNat v).toNat = v % 256 := rfl
  rw [h2]
  simp only [IntKind.wrap, IntKind.bits, IntKind.signed, Bool.false_and, Bool.false_eq_true, if_false]
  omega
theorem rep_set (i m v : Nat) : (List.replicate (i + 1) (0 : UInt8) ++ be m v).set i (UInt8.ofNat (v / 256 ^ m)) = List.replicate i 0 ++ be (m + 1) v := by
  rw [List.replicate_succ', List.append_assoc, List.set_append_right _ _ (by simp)]
  simp [be]
/-- A whole's bytes. -/
def wr (v : Nat) : List UInt8 := (UInt8.ofNat (v / 256 ^ fol v) ||| UInt8.ofNat (255 - 255 / 2 ^ fol v)) :: be (fol v) v
theorem or8 (a b : UInt8) : bitsI .or .u8 (a.toNat : Int) (b.toNat : Int) = ((a ||| b).toNat : Int) := by
  have h : ∀ c : UInt8, BitVec.ofInt IntKind.u8.bits (c.toNat : Int) = c.toBitVec := fun c => by
    show BitVec.ofInt 8 (c.toBitVec.toNat : Int) = c.toBitVec
    rw [BitVec.ofInt_natCast, BitVec.ofNat_toNat, BitVec.setWidth_eq]
  unfold bitsI
  simp only [h]
  rw [wrapB]
  show ((UInt8.ofNat (a ||| b).toNat).toNat : Int) = _
  rw [UInt8.ofNat_toNat]
theorem mask_eq : ∀ n, n < 9 → bitsI BinOp.xor IntKind.u8 (if IntKind.u8.signed = true then -1 else IntKind.u8.max) (Int.fdiv 255 (2 ^ min n IntKind.u8.bits)) = ((UInt8.ofNat (255 - 255 / 2 ^ n)).toNat : Int) := by decide +kernel
end Go.Vc
namespace Go.Vc
open Go Go.Proofs
set_option maxRecDepth 100000
theorem wrapU {n : Int} (h0 : 0 ≤ n) (h1 : n < 18446744073709551616) : IntKind.u64.wrap n = n := by
  simp only [IntKind.wrap, IntKind.bits, IntKind.signed]
  have : n % 2 ^ 64 = n := Int.emod_eq_of_lt h0 (by omega)
  simp only [this, Bool.false_and, Bool.false_eq_true, if_false]
theorem isnil {a : List UInt8} {bb : Bool} (hb : bs a ≠ [] → bb = false) (h : bb = true) : a = [] := by
  cases a with
  | nil => rfl
  | cons c r => rw [hb (by simp [bs])] at h; cases h
/-- How many ones a byte begins with. -/
def ones (c : UInt8) : Nat := 8 - len (255 - c.toNat)
/-- The number in some bytes, behind what is in the first one. -/
def horner (v : Nat) (xs : List UInt8) : Nat := xs.foldl (fun v x => v * 256 + x.toNat) v
def rdVal (b : List UInt8) (n : Nat) : Nat := horner (b.headD 0 &&& UInt8.ofNat (127 / 2 ^ n)).toNat ((b.drop 1).take n)
/-- A whole, taken off bytes: an error, or the number and what is behind. -/
def rdRaw (b : List UInt8) : Int × Nat × List UInt8 :=
  if b = [] ∨ b.length ≤ ones (b.headD 0) then (3, 0, [])
  else if fol (rdVal b (ones (b.headD 0))) ≠ ones (b.headD 0) then (4, 0, [])
  else (0, rdVal b (ones (b.headD 0)), b.drop (1 + ones (b.headD 0)))
def rdSpec (g : Nat → Int × Int) (b : List UInt8) : Int × List UInt8 × Int :=
  if (rdRaw b).1 ≠ 0 then (0, [], (rdRaw b).1)
  else if (g (rdRaw b).2.1).2 ≠ 0 then (0, [], (g (rdRaw b).2.1).2)
  else ((g (rdRaw b).2.1).1, (rdRaw b).2.2, 0)
theorem rd_err {g : Nat → Int × Int} {b : List UInt8} {e : Int} (h : (rdRaw b).1 = e) (he : e ≠ 0) : rdSpec g b = (0, [], e) := by
  unfold rdSpec
  rw [h, if_pos he]
theorem rd_bad {g : Nat → Int × Int} {b : List UInt8} {v : Nat} {r : List UInt8} (h : rdRaw b = (0, v, r)) (he : (g v).2 ≠ 0) : rdSpec g b = (0, [], (g v).2) := by
  unfold rdSpec
  rw [h, if_neg (by simp), if_pos he]
theorem rd_ok {g : Nat → Int × Int} {b : List UInt8} {v : Nat} {r : List UInt8} (h : rdRaw b = (0, v, r)) (he : (g v).2 = 0) : rdSpec g b = ((g v).1, r, 0) := by
  unfold rdSpec
  rw [h, if_neg (by simp), if_neg (by simp [he])]
theorem not8 : ∀ n, n < 256 → bitsI BinOp.xor IntKind.u8 (if IntKind.u8.signed = true then -1 else IntKind.u8.max) ((n : Nat) : Int) = ((255 - n : Nat) : Int) := by decide +kernel
theorem and64 {a b : Nat} (ha : a < 18446744073709551616) (hb : b < 18446744073709551616) : bitsI .and .u64 (a : Int) (b : Int) = ((a &&& b : Nat) : Int) := by
  unfold bitsI
  simp only [BitVec.ofInt_natCast]
  show IntKind.u64.wrap (((BitVec.ofNat 64 a &&& BitVec.ofNat 64 b).toNat : Nat) : Int) = _
  rw [BitVec.toNat_and, BitVec.toNat_ofNat, BitVec.toNat_ofNat, Nat.mod_eq_of_lt (by omega), Nat.mod_eq_of_lt (by omega)]
  have := Nat.and_le_left (n := a) (m := b)
  exact wrapU (by omega) (by omega)
theorem or64 {a c : Nat} (ha : a * 256 + c < 18446744073709551616) (hc : c < 256) : bitsI .or .u64 ((a * 256 : Nat) : Int) (c : Int) = ((a * 256 + c : Nat) : Int) := by
  unfold bitsI
  simp only [BitVec.ofInt_natCast]
  show IntKind.u64.wrap (((BitVec.ofNat 64 (a * 256) ||| BitVec.ofNat 64 c).toNat : Nat) : Int) = _
  rw [BitVec.toNat_or, BitVec.toNat_ofNat, BitVec.toNat_ofNat, Nat.mod_eq_of_lt (by omega), Nat.mod_eq_of_lt (by omega)]
  have := Nat.shiftLeft_add_eq_or_of_lt (i := 8) hc a
  rw [Nat.shiftLeft_eq] at this
  rw [← this]
  exact wrapU (by omega) (by omega)
theorem bs_take (a : List UInt8) (n : Nat) : (bs a).take n = bs (a.take n) := by simp [bs, List.map_take]
theorem bs_drop (a : List UInt8) (n : Nat) : (bs a).drop n = bs (a.drop n) := by simp [bs, List.map_drop]
theorem horner_snoc (v : Nat) (xs : List UInt8) (i : Nat) (h : i < xs.length) : horner v (xs.take (i + 1)) = horner v (xs.take i) * 256 + xs[i].toNat := by
  unfold horner
  rw [List.take_add_one, List.getElem?_eq_getElem h, List.foldl_append]
  rfl
theorem horner_lt (v : Nat) (xs : List UInt8) : horner v xs < (v + 1) * 256 ^ xs.length := by
  induction xs generalizing v with
  | nil => simp [horner]
  | cons x r ih =>
    have := ih (v * 256 + x.toNat)
    have hx := x.toNat_lt
    show horner (v * 256 + x.toNat) r < _
    refine Nat.lt_of_lt_of_le this ?_
    rw [List.length_cons, Nat.pow_succ, Nat.mul_comm (256 ^ r.length) 256, ← Nat.mul_assoc]
    exact Nat.mul_le_mul_right _ (by omega)
theorem horner_room {v n : Nat} (hn : n ≤ 8) (hv : v ≤ 127 / 2 ^ n) (xs : List UInt8) (hx : xs.length ≤ n) : horner v xs < 18446744073709551616 := by
  refine Nat.lt_of_lt_of_le (horner_lt v xs) ?_
  have h1 : (v + 1) * 256 ^ xs.length ≤ (127 / 2 ^ n + 1) * 256 ^ n := Nat.mul_le_mul (by omega) (Nat.pow_le_pow_right (by omega) hx)
  refine Nat.le_trans h1 ?_
  have : ∀ n, n < 9 → (127 / 2 ^ n + 1) * 256 ^ n ≤ 18446744073709551616 := by decide +kernel
  exact this n (by omega)
theorem ones_le (c : UInt8) : ones c ≤ 8 := Nat.sub_le _ _
end Go.Vc
namespace Go.Vc
open Go Go.Proofs
set_option maxRecDepth 100000
def numG (v : Nat) : Int × Int := if 9007199254740991 < v then (0, 4) else (v, 0)
/-- An int, of a whole. -/
def zag (v : Nat) : Int := if v % 2 = 0 then ((v / 2 : Nat) : Int) else -1 - ((v / 2 : Nat) : Int)
def intG (v : Nat) : Int × Int := (zag v, 0)
theorem xor64 (a b : Nat) : bitsI .xor .u64 (a : Int) (b : Int) = (((BitVec.ofNat 64 a ^^^ BitVec.ofNat 64 b).toNat : Nat) : Int) := by
  unfold bitsI
  simp only [BitVec.ofInt_natCast]
  show IntKind.u64.wrap (((BitVec.ofNat 64 a ^^^ BitVec.ofNat 64 b).toNat : Nat) : Int) = _
  have := (BitVec.ofNat 64 a ^^^ BitVec.ofNat 64 b).isLt
  exact wrapU (by omega) (by omega)
theorem xor_zero {a : Nat} (ha : a < 18446744073709551616) : bitsI .xor .u64 (a : Int) 0 = (a : Int) := by
  have := xor64 a 0
  rw [show (((0 : Nat) : Int)) = 0 from rfl] at this
  rw [this]
  simp
  omega
theorem xor_ones {a : Nat} (ha : a < 18446744073709551616) : bitsI .xor .u64 (a : Int) 18446744073709551615 = ((18446744073709551615 - a : Nat) : Int) := by
  have := xor64 a 18446744073709551615
  rw [show (((18446744073709551615 : Nat) : Int)) = 18446744073709551615 from rfl] at this
  rw [this]
  have h2 : BitVec.ofNat 64 a ^^^ BitVec.ofNat 64 18446744073709551615 = ~~~ BitVec.ofNat 64 a := by
    rw [show BitVec.ofNat 64 18446744073709551615 = BitVec.allOnes 64 from rfl, BitVec.xor_allOnes]
  rw [h2, BitVec.toNat_not, BitVec.toNat_ofNat, Nat.mod_eq_of_lt (by omega)]
theorem wrap64hi {n : Int} (h0 : 9223372036854775808 ≤ n) (h1 : n < 18446744073709551616) : IntKind.i64.wrap n = n - 18446744073709551616 := by
  simp only [IntKind.wrap, IntKind.bits, IntKind.signed]
  have : n % 2 ^ 64 = n := Int.emod_eq_of_lt (by omega) (by omega)
  simp only [this, Bool.true_and, decide_eq_true_eq]
  rw [if_pos (by omega)]; rfl
end Go.Vc
namespace Go.Vc
open Go Go.Proofs
set_option maxRecDepth 100000
theorem str_bs (a : List UInt8) : (bs a).map PV.u8 = a := by
  unfold bs
  rw [List.map_map]
  conv => rhs; rw [← List.map_id a]
  refine List.map_congr_left fun c _ => ?_
  show UInt8.ofNat ((c.toNat : Int)).toNat = c
  rw [Int.toNat_natCast, UInt8.ofNat_toNat]
theorem bs_int (a : List UInt8) : ∀ u ∈ bs a, ∃ n, u = .int .u8 n := fun u hu => by
  obtain ⟨c, _, rfl⟩ := List.mem_map.1 hu
  exact ⟨_, rfl⟩
theorem num_pos {b : List UInt8} {n : Int} {r : List UInt8} (h : rdSpec numG b = (n, r, 0)) : 0 ≤ n ∧ n ≤ 9007199254740991 := by
  unfold rdSpec at h
  split at h
  · rename_i h0
    simp only [Prod.mk.injEq] at h
    exact absurd h.2.2 h0
  · split at h
    · rename_i h1
      simp only [Prod.mk.injEq] at h
      exact absurd h.2.2 h1
    · simp only [Prod.mk.injEq] at h
      obtain ⟨rfl, _⟩ := h
      unfold numG
      split <;> simp <;> omega
theorem rd_rest {g : Nat → Int × Int} {b : List UInt8} {n : Int} {r : List UInt8} {e : Int} (h : rdSpec g b = (n, r, e)) : r.length ≤ b.length := by
  have h2 : (rdRaw b).2.2.length ≤ b.length := by
    unfold rdRaw
    split
    · simp
    · split
      · simp
      · simp
  unfold rdSpec at h
  split at h
  · simp only [Prod.mk.injEq] at h; rw [← h.2.1]; simp
  · split at h
    · simp only [Prod.mk.injEq] at h; rw [← h.2.1]; simp
    · simp only [Prod.mk.injEq] at h; rw [← h.2.1]; exact h2
def txt (most : Int) (b : List UInt8) : List UInt8 × List UInt8 × Int :=
  let (n, r, e) := rdSpec numG b
  if e ≠ 0 then ([], [], e) else if n > most then ([], [], 5) else if n > r.length then ([], [], 3) else (r.take n.toNat, r.drop n.toNat, 0)
end Go.Vc
namespace Go.Vc
open Go Go.Proofs
set_option maxRecDepth 100000
/-- An int as a whole. -/
def zig (n : Int) : Nat := if 0 ≤ n then 2 * n.toNat else 2 * (-1 - n).toNat + 1
theorem wrapUm (n : Int) : IntKind.u64.wrap n = n % 18446744073709551616 := by
  simp only [IntKind.wrap, IntKind.bits, IntKind.signed, Bool.false_and, Bool.false_eq_true, if_false]
  rfl
theorem zig_lt {n : Int} (hn : -9223372036854775808 ≤ n ∧ n ≤ 9223372036854775807) : zig n < 18446744073709551616 := by unfold zig; split <;> omega
theorem zig_eq {n : Int} (hn : -9223372036854775808 ≤ n ∧ n ≤ 9223372036854775807) : bitsI BinOp.xor IntKind.u64 (IntKind.u64.wrap (IntKind.u64.wrap n * 2 ^ min (Int.toNat 1) IntKind.u64.bits)) (IntKind.u64.wrap (n.fdiv (2 ^ min (Int.toNat 63) IntKind.i64.bits))) = (zig n : Int) := by
  rw [show (2 : Int) ^ min (Int.toNat 1) IntKind.u64.bits = 2 from rfl, show (2 : Int) ^ min (Int.toNat 63) IntKind.i64.bits = 9223372036854775808 from rfl, Int.fdiv_eq_ediv_of_nonneg _ (by omega)]
  simp only [wrapUm]
  unfold zig
  by_cases h0 : 0 ≤ n
  · rw [if_pos h0]
    have e1 : n / 9223372036854775808 % 18446744073709551616 = 0 := by omega
    have e2 : n % 18446744073709551616 * 2 % 18446744073709551616 = ((2 * n.toNat : Nat) : Int) := by omega
    rw [e1, e2, xor_zero (by omega)]
  · rw [if_neg h0]
    have e1 : n / 9223372036854775808 % 18446744073709551616 = 18446744073709551615 := by omega
    have e2 : n % 18446744073709551616 * 2 % 18446744073709551616 = ((18446744073709551615 - (2 * (-1 - n).toNat + 1) : Nat) : Int) := by omega
    rw [e1, e2, xor_ones (by omega)]
    omega
theorem wr_len (v : Nat) : (wr v).length = 1 + fol v := by simp [wr, be_len]; omega
theorem srcStr (s : List UInt8) : s.map (fun c => PV.int .u8 c.toNat) = bs s := rfl
end Go.Vc
namespace Go.Vc
open Go Go.Proofs
set_option maxRecDepth 100000
/-- An int of 64 bits. -/
def i64 (n : Int) : Prop := -9223372036854775808 ≤ n ∧ n ≤ 9223372036854775807
/-- A value. -/
inductive V where
  | mk (k n : Int) (s : List UInt8) (l : List V) (ns : List (List UInt8))
def V.k : V → Int | .mk k _ _ _ _ => k
def V.n : V → Int | .mk _ n _ _ _ => n
def V.s : V → List UInt8 | .mk _ _ s _ _ => s
def V.l : V → List V | .mk _ _ _ l _ => l
def V.ns : V → List (List UInt8) | .mk _ _ _ _ ns => ns
def strs (ns : List (List UInt8)) : List PV := ns.map PV.str
mutual
/-- A value, as its cells. -/
def VP : V → PV → Prop
  | .mk k n s l ns, p => ∃ z1 lp t1 o1 z2 t2 o2, p = .agg [.int .i64 k, .int .i64 n, .str s, .sl z1 lp t1 o1, .sl z2 (strs ns) t2 o2] ∧ VPs l lp ∧ (z1 = 5 ∨ l = []) ∧ (z2 = 1 ∨ ns = []) ∧ i64 n
def VPs : List V → List PV → Prop
  | [], lp => lp = []
  | v :: r, lp => ∃ p q, lp = p :: q ∧ VP v p ∧ VPs r q
end
theorem VP.out : ∀ {v : V} {p : PV}, VP v p → ∃ z1 lp t1 o1 z2 t2 o2, p = .agg [.int .i64 v.k, .int .i64 v.n, .str v.s, .sl z1 lp t1 o1, .sl z2 (strs v.ns) t2 o2] ∧ VPs v.l lp ∧ (z1 = 5 ∨ v.l = []) ∧ (z2 = 1 ∨ v.ns = []) ∧ i64 v.n
  | .mk _ _ _ _ _, _, h => h
theorem V.eta : ∀ v : V, V.mk v.k v.n v.s v.l v.ns = v
  | .mk _ _ _ _ _ => rfl
theorem VPs_len : ∀ {l : List V} {lp : List PV}, VPs l lp → lp.length = l.length
  | [], lp, h => by simp only [VPs] at h; subst h; rfl
  | v :: r, lp, h => by
    simp only [VPs] at h
    obtain ⟨p, q, rfl, _, h2⟩ := h
    simp [VPs_len h2]
theorem VPs_nth : ∀ {l : List V} {lp : List PV}, VPs l lp → ∀ {i : Nat} (hi : i < l.length), VP l[i] (nth lp i)
  | v :: r, lp, h, 0, hi => by
    simp only [VPs] at h
    obtain ⟨p, q, rfl, h1, _⟩ := h
    exact h1
  | v :: r, lp, h, i + 1, hi => by
    simp only [VPs] at h
    obtain ⟨p, q, rfl, _, h2⟩ := h
    exact VPs_nth h2 (i := i) (by simpa using hi)
theorem strs_len (ns : List (List UInt8)) : (strs ns).length = ns.length := by simp [strs]
theorem nth_strs {ns : List (List UInt8)} {i : Nat} (h : i < ns.length) : nth (strs ns) i = .str ns[i] := by
  unfold nth strs
  rw [List.getD_eq_getElem?_getD, List.getElem?_map, List.getElem?_eq_getElem h]; rfl

theorem bare_spec (a b c : Bool) (k n : Int) (s : List UInt8) (z1 z2 : Nat) (lp np : List PV) (t1 t2 : Bool) (Post : PV → List (Nat × Blk) → Prop)
    (h : Post (.bool ((a || s.isEmpty) && (b || lp.isEmpty) && (c || np.isEmpty))) []) :
    Spec K 95 [.agg [.bool a, .bool b, .bool c], .agg [.int .i64 k, .int .i64 n, .str s, .sl z1 lp t1 true, .sl z2 np t2 true]] [] Post := by
  refine is95.specW K_ok K_mix false (by simp) (by simp [keys]) ?_
  (conv => whnf); repeat ((refine And.intro ?_ ?_; focus exact Cl1); conv => whnf)
  refine (congrArg (fun r => Post (.bool r) []) ?_).mpr h
  have e1 : (s == ({ data := #[] } : ByteArray).data.toList) = s.isEmpty := by cases s <;> rfl
  have e2 : ∀ l : List PV, ((l.length : Int) == 0) = l.isEmpty := fun l => by cases l <;> simp; omega
  rw [e1, e2, e2]
  cases a <;> cases b <;> cases c <;> simp

/-- May a byte stand in a name? -/
def inName (first : Bool) (c : UInt8) : Bool := (decide (97 ≤ c.toNat) && decide (c.toNat ≤ 122)) || (!first && (c.toNat == 95 || (decide (48 ≤ c.toNat) && decide (c.toNat ≤ 57))))
def inNames : Bool → List UInt8 → Bool
  | _, [] => true
  | f, c :: r => inName f c && inNames false r
def isName (s : List UInt8) : Bool := !s.isEmpty && decide (s.length ≤ 16) && inNames true s
theorem inName_eq (i : Nat) (x : Nat) (c : UInt8) (hx : x = c.toNat) : (bif !bif decide (97 ≤ (x : Int)) then decide ((x : Int) ≤ 122) else false then
          bif (i : Int) == 0 then true
          else
            bif (x : Int) != 95 then bif decide ((x : Int) < 48) then true else decide (57 < (x : Int)) else false
        else false) = !inName (i == 0) c := by
  subst hx
  have e0 : ((i : Int) == 0) = (i == 0) := by cases i <;> simp; omega
  have e1 : decide (97 ≤ (c.toNat : Int)) = decide (97 ≤ c.toNat) := decide_eq_decide.2 (by omega)
  have e2 : decide ((c.toNat : Int) ≤ 122) = decide (c.toNat ≤ 122) := decide_eq_decide.2 (by omega)
  have e3 : ((c.toNat : Int) != 95) = !(c.toNat == 95) := by
    have : ((c.toNat : Int) == 95) = (c.toNat == 95) := by rw [Bool.eq_iff_iff]; simp; omega
    rw [bne, this]
  have e4 : decide ((c.toNat : Int) < 48) = !decide (48 ≤ c.toNat) := by
    rw [Bool.eq_iff_iff]; simp; omega
  have e5 : decide (57 < (c.toNat : Int)) = !decide (c.toNat ≤ 57) := by
    rw [Bool.eq_iff_iff]; simp; omega
  rw [e0, e1, e2, e3, e4, e5]
  unfold inName
  cases decide (97 ≤ c.toNat) <;> cases decide (c.toNat ≤ 122) <;> cases (i == 0) <;> cases (c.toNat == 95) <;> cases decide (48 ≤ c.toNat) <;> cases decide (c.toNat ≤ 57) <;> rfl
theorem named_spec (s : List UInt8) (Post : PV → List (Nat × Blk) → Prop) (h : Post (.bool (isName s)) []) : Spec K 109 [.str s] [] Post := by
  refine is109.specW K_ok K_mix false (by simp) (by simp [keys]) ?_
  (conv => whnf); repeat ((refine And.intro ?_ ?_; focus exact Cl1); conv => whnf)
  have e1 : (s == ({ data := #[] } : ByteArray).data.toList) = s.isEmpty := by cases s <;> rfl
  rw [e1]
  refine ⟨fun hc => ?_, fun hc => ?_⟩
  · (conv => whnf); repeat ((refine And.intro ?_ ?_; focus exact Cl1); conv => whnf)
    have : isName s = false := by
      unfold isName
      cases he : s.isEmpty with
      | true => rfl
      | false =>
        rw [he] at hc
        have : 16 < (s.length : Int) := of_decide_eq_true hc
        have : ¬ s.length ≤ 16 := by omega
        simp [this]
    rwa [this] at h
  · have hne : s.isEmpty = false := by cases he : s.isEmpty with | true => rw [he] at hc; cases hc | false => rfl
    have hlen : s.length ≤ 16 := by
      rw [hne] at hc
      have : ¬ 16 < (s.length : Int) := of_decide_eq_false hc
      omega
    have hnm : isName s = inNames true s := by simp [isName, hne, hlen]
    rw [hnm] at h
    (conv => whnf); repeat ((refine And.intro ?_ ?_; focus exact Cl1); conv => whnf)
    refine ⟨by omega, rfl, ?_⟩
    (conv => whnf); repeat ((refine And.intro ?_ ?_; focus exact Cl1); conv => whnf)
    rw [show s.map (fun c => PV.int .u8 c.toNat) = bs s from rfl]
    refine ⟨Nat, fun i => ⟨46, [(16, .int .i64 i), (15, .int .i64 s.length), (14, .sl 1 (bs s) false false), (2, .bool false)], [], []⟩, fun i => i ≤ s.length ∧ inNames true s = inNames (i == 0) (s.drop i), fun i => s.length - i,
      ⟨[], 0, ⟨Nat.zero_le _, rfl⟩, ?_⟩, fun i ⟨hi, hin⟩ => ?_⟩
    · simp [meets, ghosts, St.le, St.get, look, keys, PV.labs, labsL, bs_len]
    · (conv => whnf); repeat ((refine And.intro ?_ ?_; focus exact Cl1); conv => whnf)
      refine ⟨fun h1 => ?_, fun h1 => ?_⟩
      · have hix : i < s.length := by have := of_decide_eq_true h1; omega
        (conv => whnf); repeat ((refine And.intro ?_ ?_; focus exact Cl1); conv => whnf)
        refine ⟨fun _ => ⟨by omega, by rw [bs_len]; omega⟩, ?_⟩
        (conv => whnf); repeat ((refine And.intro ?_ ?_; focus exact Cl1); conv => whnf)
        rw [Int.toNat_natCast, nth_bs hix]
        (conv => whnf); repeat ((refine And.intro ?_ ?_; focus exact Cl1); conv => whnf)
        rw [inName_eq i _ s[i] rfl]
        have hdr : s.drop i = s[i] :: s.drop (i + 1) := List.drop_eq_getElem_cons hix
        refine ⟨fun h2 => ?_, fun h2 => ?_⟩
        · (conv => whnf); repeat ((refine And.intro ?_ ?_; focus exact Cl1); conv => whnf)
          rw [hin, hdr] at h
          have : inName (i == 0) s[i] = false := by simpa using h2
          rw [inNames, this] at h
          exact h
        · (conv => whnf); repeat ((refine And.intro ?_ ?_; focus exact Cl1); conv => whnf)
          have : inName (i == 0) s[i] = true := by simpa using h2
          rw [wrap64 (by omega) (by omega)]
          refine ⟨[], i + 1, ⟨hix, ?_⟩, by show s.length - (i + 1) < s.length - i; omega, ?_⟩
          · rw [hin, hdr, inNames, this]; simp
          · simp [meets, ghosts, St.le, St.get, look, keys, PV.labs, labsL]
      · have hix : i = s.length := by have := of_decide_eq_false h1; omega
        (conv => whnf); repeat ((refine And.intro ?_ ?_; focus exact Cl1); conv => whnf)
        rw [hin, hix, List.drop_length] at h
        exact h
end Go.Vc
namespace Go.Vc
open Go Go.Proofs
set_option maxRecDepth 100000
def rise : List UInt8 → List (List UInt8) → Bool
  | _, [] => true
  | last, s :: r => !(Op.bytesLess s last || s == last) && isName s && rise s r
theorem rising_spec (ns : List (List UInt8)) (z : Nat) (t : Bool) (hz : z = 1 ∨ ns = []) (hl : ns.length ≤ 1000000000000) (Post : PV → List (Nat × Blk) → Prop) (h : Post (.bool (rise [] ns)) []) : Spec K 96 [.sl z (strs ns) t true] [] Post := by
  refine is96.specW K_ok K_mix false (by simp) (by simp [keys]) ?_
  have hz2 : z = 1 ∨ strs ns = [] := hz.imp (fun h => h) fun h => by rw [h]; rfl
  (conv => whnf); repeat ((refine And.intro ?_ ?_; focus exact Cl1); conv => whnf)
  refine ⟨Nat × List UInt8, fun x => ⟨22, [(8, .int .i64 x.1), (7, .int .i64 ns.length), (6, .sl z (strs ns) t true), (3, .str x.2), (2, .bool false)], [], []⟩, fun x => x.1 ≤ ns.length ∧ rise [] ns = rise x.2 (ns.drop x.1), fun x => ns.length - x.1,
    ⟨[], (0, []), ⟨Nat.zero_le _, rfl⟩, ?_⟩, fun ⟨i, last⟩ ⟨hi, hin⟩ => ?_⟩
  · simp [meets, ghosts, St.le, St.get, look, keys, PV.labs, labsL, strs_len]
  · (conv => whnf); repeat ((refine And.intro ?_ ?_; focus exact Cl1); conv => whnf)
    refine ⟨fun h1 => ?_, fun h1 => ?_⟩
    · have hix : i < ns.length := by have := of_decide_eq_true h1; omega
      have hdr : ns.drop i = ns[i] :: ns.drop (i + 1) := List.drop_eq_getElem_cons hix
      (conv => whnf); repeat ((refine And.intro ?_ ?_; focus exact Cl1); conv => whnf)
      refine ⟨hz2, fun _ => ⟨by omega, by rw [strs_len]; omega⟩, ?_⟩
      (conv => whnf); repeat ((refine And.intro ?_ ?_; focus exact Cl1); conv => whnf)
      rw [Int.toNat_natCast, nth_strs hix]
      (conv => whnf); repeat ((refine And.intro ?_ ?_; focus exact Cl1); conv => whnf)
      refine ⟨fun _ hL => ?_, fun hL => ?_⟩
      · rw [hL]
        (conv => whnf); repeat ((refine And.intro ?_ ?_; focus exact Cl1); conv => whnf)
        refine named_spec ns[i] _ ?_
        (conv => whnf); repeat ((refine And.intro ?_ ?_; focus exact Cl1); conv => whnf)
        refine ⟨fun h2 => ?_, fun h2 => ?_⟩
        · have hnm : isName ns[i] = false := by simpa using h2
          (conv => whnf); repeat ((refine And.intro ?_ ?_; focus exact Cl1); conv => whnf)
          simp only [hdr] at hin
          rw [hin] at h
          simpa [rise, hnm] using h
        · have hnm : isName ns[i] = true := by simpa using h2
          (conv => whnf); repeat ((refine And.intro ?_ ?_; focus exact Cl1); conv => whnf)
          rw [wrap64 (by omega) (by omega)]
          refine ⟨[], (i + 1, ns[i]), ⟨hix, ?_⟩, by show ns.length - (i + 1) < ns.length - i; omega, ?_⟩
          · simp only [hdr] at hin
            rw [hin, rise, hnm, hL]; rfl
          · simp [meets, ghosts, St.le, St.get, look, keys, PV.labs, labsL]
      · have hL' := hL rfl
        rw [hL']
        (conv => whnf); repeat ((refine And.intro ?_ ?_; focus exact Cl1); conv => whnf)
        refine ⟨fun h2 => ?_, fun h2 => by cases h2⟩
        (conv => whnf); repeat ((refine And.intro ?_ ?_; focus exact Cl1); conv => whnf)
        simp only [hdr] at hin
        have hL2 : (Op.bytesLess ns[i] last || ns[i] == last) = true := hL'
        rw [hin, rise, hL2] at h
        exact h
    · have hix : i = ns.length := by have := of_decide_eq_false h1; omega
      (conv => whnf); repeat ((refine And.intro ?_ ?_; focus exact Cl1); conv => whnf)
      simp only [hix, List.drop_length] at hin
      rw [hin] at h
      exact h
end Go.Vc
namespace Go.Vc
open Go Go.Proofs
set_option maxRecDepth 100000
/-- May a value be, but for what it holds? -/
def ownB (k n : Int) (s : List UInt8) (ll : Nat) (ns : List (List UInt8)) : Bool :=
  if k = 0 then n == 0 && (s.isEmpty && ll == 0 && ns.isEmpty)
  else if k = 1 then s.isEmpty && ll == 0 && ns.isEmpty
  else if k = 2 then (n == 0 || n == 1) && (s.isEmpty && ll == 0 && ns.isEmpty)
  else if k = 6 then (decide (1 ≤ n) && decide (n ≤ 64)) && (s.isEmpty && ll == 0 && ns.isEmpty)
  else if k = 3 then n == 0 && decide (s.length ≤ 64) && (ll == 0 && ns.isEmpty)
  else if k = 4 then n == 0 && decide (ll ≤ 32) && (s.isEmpty && ns.isEmpty)
  else if k = 5 then n == 0 && ll == ns.length && decide (ll ≤ 8) && s.isEmpty && rise [] ns
  else false
theorem clearB (x : BitVec 64) : x &&& ~~~ (1#64) = (x >>> 1) <<< 1 := by
  apply BitVec.eq_of_getLsbD_eq
  intro i hi
  rw [BitVec.getLsbD_and, BitVec.getLsbD_not, BitVec.getLsbD_shiftLeft, BitVec.getLsbD_ushiftRight, BitVec.getLsbD_one]
  rcases i with _ | i
  · simp
  · have h1 : 1 + (i + 1 - 1) = i + 1 := by omega
    rw [h1]
    simp [hi]
theorem clear1 (n : Int) (hn : -9223372036854775808 ≤ n ∧ n ≤ 9223372036854775807) : (bitsI .andNot .i64 n 1 == 0) = (n == 0 || n == 1) := by
  have hx : (BitVec.ofInt 64 n).toNat = (n % 18446744073709551616).toNat := by simp [BitVec.toNat_ofInt]
  have e : bitsI .andNot .i64 n 1 = IntKind.i64.wrap (((BitVec.ofInt 64 n).toNat / 2 * 2 : Nat) : Int) := by
    unfold bitsI
    show IntKind.i64.wrap ((BitVec.ofInt 64 n &&& ~~~ (1#64)).toNat : Int) = _
    rw [clearB, BitVec.toNat_shiftLeft, BitVec.toNat_ushiftRight, Nat.shiftLeft_eq, Nat.shiftRight_eq_div_pow]
    have := (BitVec.ofInt 64 n).isLt
    congr 2
    omega
  rw [e, hx, Bool.eq_iff_iff]
  generalize hm : (n % 18446744073709551616).toNat / 2 * 2 = m
  have hm2 : m < 18446744073709551616 := by omega
  have hw : (IntKind.i64.wrap (m : Int) = 0) ↔ m = 0 := by
    by_cases hs : m < 9223372036854775808
    · rw [wrap64 (by omega) (by omega)]; omega
    · rw [wrap64hi (by omega) (by omega)]; omega
  simp only [beq_iff_eq, Bool.or_eq_true, hw]
  omega
set_option maxHeartbeats 8000000 in
theorem own_spec (k n : Int) (s : List UInt8) (z1 z2 : Nat) (lp : List PV) (ns : List (List UInt8)) (t1 t2 : Bool) (hz : z2 = 1 ∨ ns = []) (hn : ns.length ≤ 1000000000000) (hn2 : -9223372036854775808 ≤ n ∧ n ≤ 9223372036854775807) (Post : PV → List (Nat × Blk) → Prop)
    (h : Post (.bool (ownB k n s lp.length ns)) []) : Spec K 79 [.agg [.int .i64 k, .int .i64 n, .str s, .sl z1 lp t1 true, .sl z2 (strs ns) t2 true]] [] Post := by
  refine is79.specW K_ok K_mix false (by simp) (by simp [keys]) ?_
  have es : ∀ l : List PV, l.isEmpty = (l.length == 0) := fun l => by cases l <;> rfl
  have en : (strs ns).isEmpty = ns.isEmpty := by cases ns <;> rfl
  (conv => whnf); repeat ((refine And.intro ?_ ?_; focus exact Cl1); conv => whnf)
  refine ⟨fun h0 => ?_, fun h0 => ?_⟩
  · have h0' : k = 0 := by simpa using h0
    subst h0'
    (conv => whnf); repeat ((refine And.intro ?_ ?_; focus exact Cl1); conv => whnf)
    refine ⟨fun _ h1 => ?_, fun h1 => ?_⟩
    · rw [h1]
      (conv => whnf); repeat ((refine And.intro ?_ ?_; focus exact Cl1); conv => whnf)
      refine bare_spec false false false 0 n s z1 z2 lp (strs ns) t1 t2 _ ?_
      (conv => whnf); repeat ((refine And.intro ?_ ?_; focus exact Cl1); conv => whnf)
      refine (congrArg (fun r => Post (.bool r) []) ?_).mpr h
      rw [es, en]
      simp [ownB, h1]
    · have h1' := h1 rfl
      rw [h1']
      (conv => whnf); repeat ((refine And.intro ?_ ?_; focus exact Cl1); conv => whnf)
      refine (congrArg (fun r => Post (.bool r) []) ?_).mpr h
      simp [ownB, h1']
  · have h0' : k ≠ 0 := by simpa using h0
    (conv => whnf); repeat ((refine And.intro ?_ ?_; focus exact Cl1); conv => whnf)
    refine ⟨fun h2 => ?_, fun h2 => ?_⟩
    · have h2' : k = 1 := by simpa using h2
      subst h2'
      (conv => whnf); repeat ((refine And.intro ?_ ?_; focus exact Cl1); conv => whnf)
      refine bare_spec false false false 1 n s z1 z2 lp (strs ns) t1 t2 _ ?_
      (conv => whnf); repeat ((refine And.intro ?_ ?_; focus exact Cl1); conv => whnf)
      refine (congrArg (fun r => Post (.bool r) []) ?_).mpr h
      rw [es, en]
      simp [ownB]
    · have h2' : k ≠ 1 := by simpa using h2
      (conv => whnf); repeat ((refine And.intro ?_ ?_; focus exact Cl1); conv => whnf)
      refine ⟨fun h3 => ?_, fun h3 => ?_⟩
      · have h3' : k = 2 := by simpa using h3
        subst h3'
        (conv => whnf); repeat ((refine And.intro ?_ ?_; focus exact Cl1); conv => whnf)
        rw [clear1 n hn2]
        refine ⟨fun _ h1 => ?_, fun h1 => ?_⟩
        · rw [h1]
          (conv => whnf); repeat ((refine And.intro ?_ ?_; focus exact Cl1); conv => whnf)
          refine bare_spec false false false 2 n s z1 z2 lp (strs ns) t1 t2 _ ?_
          (conv => whnf); repeat ((refine And.intro ?_ ?_; focus exact Cl1); conv => whnf)
          refine (congrArg (fun r => Post (.bool r) []) ?_).mpr h
          rw [es, en]
          simp [ownB, h1]
        · have h1' := h1 rfl
          rw [h1']
          (conv => whnf); repeat ((refine And.intro ?_ ?_; focus exact Cl1); conv => whnf)
          refine (congrArg (fun r => Post (.bool r) []) ?_).mpr h
          simp [ownB, h1']
      · have h3' : k ≠ 2 := by simpa using h3
        (conv => whnf); repeat ((refine And.intro ?_ ?_; focus exact Cl1); conv => whnf)
        refine ⟨fun h4 => ?_, fun h4 => ?_⟩
        · have h4' : k = 6 := by simpa using h4
          subst h4'
          (conv => whnf); repeat ((refine And.intro ?_ ?_; focus exact Cl1); conv => whnf)
          refine ⟨fun _ h1 => ?_, fun h1 => ?_⟩
          · rw [h1]
            (conv => whnf); repeat ((refine And.intro ?_ ?_; focus exact Cl1); conv => whnf)
            refine bare_spec false false false 6 n s z1 z2 lp (strs ns) t1 t2 _ ?_
            (conv => whnf); repeat ((refine And.intro ?_ ?_; focus exact Cl1); conv => whnf)
            refine (congrArg (fun r => Post (.bool r) []) ?_).mpr h
            rw [es, en]
            simp at h1
            simp [ownB, h1]
            try (intros; omega)
          · have h1' := h1 rfl
            rw [h1']
            (conv => whnf); repeat ((refine And.intro ?_ ?_; focus exact Cl1); conv => whnf)
            refine (congrArg (fun r => Post (.bool r) []) ?_).mpr h
            simp at h1'
            simp [ownB]
            intros
            omega
        · have h4' : k ≠ 6 := by simpa using h4
          (conv => whnf); repeat ((refine And.intro ?_ ?_; focus exact Cl1); conv => whnf)
          refine ⟨fun h5 => ?_, fun h5 => ?_⟩
          · have h5' : k = 3 := by simpa using h5
            subst h5'
            (conv => whnf); repeat ((refine And.intro ?_ ?_; focus exact Cl1); conv => whnf)
            refine ⟨fun _ h1 => ?_, fun h1 => ?_⟩
            · rw [h1]
              (conv => whnf); repeat ((refine And.intro ?_ ?_; focus exact Cl1); conv => whnf)
              refine bare_spec true false false 3 n s z1 z2 lp (strs ns) t1 t2 _ ?_
              (conv => whnf); repeat ((refine And.intro ?_ ?_; focus exact Cl1); conv => whnf)
              refine (congrArg (fun r => Post (.bool r) []) ?_).mpr h
              rw [es, en]
              simp at h1
              simp [ownB, h1]
              try (intros; omega)
            · have h1' := h1 rfl
              rw [h1']
              (conv => whnf); repeat ((refine And.intro ?_ ?_; focus exact Cl1); conv => whnf)
              refine (congrArg (fun r => Post (.bool r) []) ?_).mpr h
              simp at h1'
              simp [ownB]
              intros
              omega
          · have h5' : k ≠ 3 := by simpa using h5
            (conv => whnf); repeat ((refine And.intro ?_ ?_; focus exact Cl1); conv => whnf)
            refine ⟨fun h6 => ?_, fun h6 => ?_⟩
            · have h6' : k = 4 := by simpa using h6
              subst h6'
              (conv => whnf); repeat ((refine And.intro ?_ ?_; focus exact Cl1); conv => whnf)
              refine ⟨fun _ h1 => ?_, fun h1 => ?_⟩
              · rw [h1]
                (conv => whnf); repeat ((refine And.intro ?_ ?_; focus exact Cl1); conv => whnf)
                refine bare_spec false true false 4 n s z1 z2 lp (strs ns) t1 t2 _ ?_
                (conv => whnf); repeat ((refine And.intro ?_ ?_; focus exact Cl1); conv => whnf)
                refine (congrArg (fun r => Post (.bool r) []) ?_).mpr h
                rw [es, en]
                simp at h1
                simp [ownB, h1]
                try (intros; omega)
              · have h1' := h1 rfl
                rw [h1']
                (conv => whnf); repeat ((refine And.intro ?_ ?_; focus exact Cl1); conv => whnf)
                refine (congrArg (fun r => Post (.bool r) []) ?_).mpr h
                simp at h1'
                simp [ownB]
                intros
                omega
            · have h6' : k ≠ 4 := by simpa using h6
              (conv => whnf); repeat ((refine And.intro ?_ ?_; focus exact Cl1); conv => whnf)
              refine ⟨fun h7 => ?_, fun h7 => ?_⟩
              · have h7' : k = 5 := by simpa using h7
                subst h7'
                (conv => whnf); repeat ((refine And.intro ?_ ?_; focus exact Cl1); conv => whnf)
                refine ⟨fun _ h1 => ?_, fun h1 => ?_⟩
                · rw [h1]
                  (conv => whnf); repeat ((refine And.intro ?_ ?_; focus exact Cl1); conv => whnf)
                  refine bare_spec false true true 5 n s z1 z2 lp (strs ns) t1 t2 _ ?_
                  (conv => whnf); repeat ((refine And.intro ?_ ?_; focus exact Cl1); conv => whnf)
                  rw [es, en] at *
                  simp at h1
                  refine ⟨fun _ h8 => ?_, fun h8 => ?_⟩
                  · rw [h8]
                    (conv => whnf); repeat ((refine And.intro ?_ ?_; focus exact Cl1); conv => whnf)
                    refine rising_spec ns z2 t2 hz hn _ ?_
                    (conv => whnf); repeat ((refine And.intro ?_ ?_; focus exact Cl1); conv => whnf)
                    refine (congrArg (fun r => Post (.bool r) []) ?_).mpr h
                    have h8' : s = [] := by simpa using h8
                    have h9 : lp.length = ns.length := by have := h1.1.2; rw [strs_len] at this; exact_mod_cast this
                    have h10 : ns.length ≤ 8 := by omega
                    simp [ownB, h1, h8', h9, h10]
                  · have h8' := h8 rfl
                    rw [h8']
                    (conv => whnf); repeat ((refine And.intro ?_ ?_; focus exact Cl1); conv => whnf)
                    refine (congrArg (fun r => Post (.bool r) []) ?_).mpr h
                    have h9 : ¬ s = [] := by simpa using h8'
                    simp [ownB, h9]
                · have h1' := h1 rfl
                  rw [h1']
                  (conv => whnf); repeat ((refine And.intro ?_ ?_; focus exact Cl1); conv => whnf)
                  refine ⟨fun _ h8 => (by cases h8), fun h8 => ?_⟩
                  (conv => whnf); repeat ((refine And.intro ?_ ?_; focus exact Cl1); conv => whnf)
                  refine (congrArg (fun r => Post (.bool r) []) ?_).mpr h
                  rw [strs_len] at h1'
                  have h9 : ¬ (n = 0 ∧ lp.length = ns.length ∧ lp.length ≤ 8) := fun hh => by simp [hh.1, hh.2.1] at h1'; omega
                  simp [ownB]
                  intro a b c
                  exact absurd ⟨a, b, c⟩ h9
              · have h7' : k ≠ 5 := by simpa using h7
                (conv => whnf); repeat ((refine And.intro ?_ ?_; focus exact Cl1); conv => whnf)
                refine (congrArg (fun r => Post (.bool r) []) ?_).mpr h
                simp [ownB, h0', h2', h3', h4', h5', h6', h7']
end Go.Vc
namespace Go.Vc
open Go Go.Proofs
set_option maxRecDepth 100000
def nsLen : List (List UInt8) → Nat
  | [] => 0
  | s :: r => s.length + nsLen r
mutual
def sizeV : V → Nat
  | .mk _ _ s l ns => 1 + s.length + nsLen ns + sizeVs l
def sizeVs : List V → Nat
  | [] => 0
  | v :: r => sizeV v + sizeVs r
end
mutual
def depthV : V → Nat
  | .mk _ _ _ l _ => 1 + depthVs l
def depthVs : List V → Nat
  | [] => 0
  | v :: r => max (depthV v) (depthVs r)
end
mutual
def allV : V → Bool
  | .mk k n s l ns => ownB k n s l.length ns && allVs l
def allVs : List V → Bool
  | [] => true
  | v :: r => allV v && allVs r
end
def okV (v : V) (w : Nat) (left : Int) : Bool := decide (w + depthV v ≤ 8) && decide ((sizeV v : Int) ≤ left) && allV v
def okVs (l : List V) (w : Nat) (left : Int) : Bool := decide (w + depthVs l ≤ 8) && decide ((sizeVs l : Int) ≤ left) && allVs l
theorem okV_iff {v : V} {w : Nat} {left : Int} : okV v w left = true ↔ (w + depthV v ≤ 8 ∧ (sizeV v : Int) ≤ left) ∧ allV v = true := by simp [okV]
theorem okVs_iff {v : List V} {w : Nat} {left : Int} : okVs v w left = true ↔ (w + depthVs v ≤ 8 ∧ (sizeVs v : Int) ≤ left) ∧ allVs v = true := by simp [okVs]
theorem okVs_cons (v : V) (r : List V) (w : Nat) (left : Int) : okVs (v :: r) w left = (okV v w left && okVs r w (left - sizeV v)) := by
  rw [Bool.eq_iff_iff]
  simp only [okVs_iff, okV_iff, depthVs, sizeVs, allVs, Bool.and_eq_true, Int.natCast_add]
  constructor
  · rintro ⟨⟨h1, h2⟩, h3, h4⟩
    exact ⟨⟨⟨by omega, by omega⟩, h3⟩, ⟨by omega, by omega⟩, h4⟩
  · rintro ⟨⟨⟨h1, h2⟩, h3⟩, ⟨h4, h5⟩, h6⟩
    exact ⟨⟨by omega, by omega⟩, h3, h6⟩
theorem okV_mk (k n : Int) (s : List UInt8) (l : List V) (ns : List (List UInt8)) (w : Nat) (left : Int) :
    okV (.mk k n s l ns) w left = (decide (w < 8) && decide (0 ≤ left - (1 + s.length) - nsLen ns) && ownB k n s l.length ns && okVs l (w + 1) (left - (1 + s.length) - nsLen ns)) := by
  rw [Bool.eq_iff_iff]
  simp only [okVs_iff, okV_iff, depthV, sizeV, allV, Bool.and_eq_true, decide_eq_true_eq, Int.natCast_add]
  constructor
  · rintro ⟨⟨h1, h2⟩, h3, h4⟩
    exact ⟨⟨⟨by omega, by omega⟩, h3⟩, ⟨by omega, by omega⟩, h4⟩
  · rintro ⟨⟨⟨h1, h2⟩, h3⟩, ⟨h4, h5⟩, h6⟩
    exact ⟨⟨by omega, by omega⟩, h3, h6⟩
theorem sizeVs_mem : ∀ {l : List V} {i : Nat} (hi : i < l.length), sizeV l[i] ≤ sizeVs l
  | v :: r, 0, hi => by simp [sizeVs]
  | v :: r, i + 1, hi => by
    have := sizeVs_mem (l := r) (i := i) (by simpa using hi)
    simp only [sizeVs, List.getElem_cons_succ]; omega
theorem sizeV_pos : ∀ v : V, 0 < sizeV v
  | .mk _ _ _ _ _ => by simp only [sizeV]; omega
theorem len_sizeVs : ∀ l : List V, l.length ≤ sizeVs l
  | [] => by simp [sizeVs]
  | v :: r => by
    have := len_sizeVs r
    have := sizeV_pos v
    simp only [sizeVs, List.length_cons]; omega
theorem sizeVs_drop : ∀ (l : List V) (i : Nat), sizeVs (l.drop i) ≤ sizeVs l
  | [], i => by simp [sizeVs]
  | v :: r, 0 => by simp
  | v :: r, i + 1 => by
    have := sizeVs_drop r i
    simp only [List.drop_succ_cons, sizeVs]; omega
theorem nsLen_drop : ∀ (l : List (List UInt8)) (i : Nat), nsLen (l.drop i) ≤ nsLen l
  | [], i => by simp [nsLen]
  | v :: r, 0 => by simp
  | v :: r, i + 1 => by
    have := nsLen_drop r i
    simp only [List.drop_succ_cons, nsLen]; omega
def nsBulk : List (List UInt8) → Nat
  | [] => 0
  | s :: r => 1 + s.length + nsBulk r
mutual
def bulkV : V → Nat
  | .mk _ _ s l ns => 1 + s.length + nsBulk ns + bulkVs l
def bulkVs : List V → Nat
  | [] => 0
  | v :: r => bulkV v + bulkVs r
end
theorem bulkV_pos : ∀ v : V, 0 < bulkV v
  | .mk _ _ _ _ _ => by simp only [bulkV]; omega
theorem nsBulk_le : ∀ ns : List (List UInt8), nsLen ns ≤ nsBulk ns ∧ ns.length ≤ nsBulk ns
  | [] => by simp [nsLen, nsBulk]
  | s :: r => by have := nsBulk_le r; simp only [nsLen, nsBulk, List.length_cons]; omega
mutual
theorem size_bulk : ∀ v : V, sizeV v ≤ bulkV v
  | .mk _ _ s l ns => by
    have := sizes_bulk l
    have := nsBulk_le ns
    simp only [sizeV, bulkV]; omega
theorem sizes_bulk : ∀ l : List V, sizeVs l ≤ bulkVs l
  | [] => by simp [sizeVs, bulkVs]
  | v :: r => by
    have := size_bulk v
    have := sizes_bulk r
    simp only [sizeVs, bulkVs]; omega
end
theorem bulkVs_mem : ∀ {l : List V} {i : Nat} (hi : i < l.length), bulkV l[i] ≤ bulkVs l
  | v :: r, 0, hi => by simp [bulkVs]
  | v :: r, i + 1, hi => by
    have := bulkVs_mem (l := r) (i := i) (by simpa using hi)
    simp only [bulkVs, List.getElem_cons_succ]; omega
theorem nsLen_mem : ∀ {l : List (List UInt8)} {i : Nat} (hi : i < l.length), l[i].length ≤ nsLen l
  | v :: r, 0, hi => by simp [nsLen]
  | v :: r, i + 1, hi => by
    have := nsLen_mem (l := r) (i := i) (by simpa using hi)
    simp only [nsLen, List.getElem_cons_succ]; omega
/-- What the check of a value hands back. -/
def fitsR (v : V) (w : Nat) (left : Int) : PV := .tup [.int .i64 (if okV v w left then left - sizeV v else 0), .bool (okV v w left)]
set_option maxHeartbeats 8000000 in
theorem fits_spec (N : Nat) : ∀ (k n : Int) (s : List UInt8) (l : List V) (ns : List (List UInt8)), bulkV (.mk k n s l ns) ≤ N → N ≤ 100000000000 → ∀ (z1 z2 : Nat) (lp : List PV) (t1 t2 : Bool) (w : Nat) (left : Int) (Post : PV → List (Nat × Blk) → Prop),
    VPs l lp → (z1 = 5 ∨ l = []) → (z2 = 1 ∨ ns = []) → i64 n → w ≤ 100 → -1000000000000 ≤ left → left ≤ 1000000000000 → Post (fitsR (.mk k n s l ns) w left) [] →
    Spec K 68 [.agg [.int .i64 k, .int .i64 n, .str s, .sl z1 lp t1 true, .sl z2 (strs ns) t2 true], .int .i64 w, .int .i64 left] [] Post := by
  induction N with
  | zero => intro k n s l ns h; exact absurd (bulkV_pos (.mk k n s l ns)) (by omega)
  | succ N ih =>
    intro k n s l ns hs hN z1 z2 lp t1 t2 w left Post hl hz1 hz2 hn hw hl1 hl2 h
    have hz2' : z2 = 1 ∨ strs ns = [] := hz2.imp (fun h => h) fun h => by rw [h]; rfl
    have hlp := VPs_len hl
    have hz1' : z1 = 5 ∨ lp = [] := hz1.imp (fun h => h) fun h => by rw [h] at hlp; exact List.length_eq_zero_iff.1 hlp
    have hs' := hs
    simp only [bulkV] at hs'
    have hnb := nsBulk_le ns
    have hlb := len_sizeVs l
    have hsb := sizes_bulk l
    refine is68.specW K_ok K_mix false (by simp) (by simp [keys]) ?_
    (conv => whnf); repeat ((refine And.intro ?_ ?_; focus exact Cl1); conv => whnf)
    refine ⟨Nat × Int, fun x => ⟨63, [(21, .int .i64 x.1), (20, .int .i64 ns.length), (19, .sl z2 (strs ns) t2 true), (2, .int .i64 x.2), (7, .bool false), (6, .int .i64 0), (3, .ptr 0 0), (1, .int .i64 w)], [(0, .box [.int .i64 k, .int .i64 n, .str s, .sl z1 lp t1 true, .sl z2 (strs ns) t2 true])], []⟩, fun x => x.1 ≤ ns.length ∧ x.2 - nsLen (ns.drop x.1) = left - (1 + s.length) - nsLen ns, fun x => ns.length - x.1,
      ⟨[], (0, left - (1 + s.length)), ⟨Nat.zero_le _, rfl⟩, ?_⟩, fun x hI => ?_⟩
    · rw [wrap64 (n := 1 + (s.length : Int)) (by omega) (by omega), wrap64 (by omega) (by omega)]
      simp [meets, ghosts, St.le, St.get, look, keys, PV.labs, labsL, lookB, Blk.labs, strs_len]
    · obtain ⟨i, L⟩ := x
      obtain ⟨hi, hL⟩ := hI
      simp only at hi hL
      have hdb := nsLen_drop ns i
      (conv => whnf); repeat ((refine And.intro ?_ ?_; focus exact Cl1); conv => whnf)
      refine ⟨fun h1 => ?_, fun h1 => ?_⟩
      · have hix : i < ns.length := by have := of_decide_eq_true h1; omega
        have hdr : ns.drop i = ns[i] :: ns.drop (i + 1) := List.drop_eq_getElem_cons hix
        have hm := nsLen_mem hix
        (conv => whnf); repeat ((refine And.intro ?_ ?_; focus exact Cl1); conv => whnf)
        refine ⟨hz2', fun _ => ⟨by omega, by rw [strs_len]; omega⟩, ?_⟩
        (conv => whnf); repeat ((refine And.intro ?_ ?_; focus exact Cl1); conv => whnf)
        rw [Int.toNat_natCast, nth_strs hix]
        (conv => whnf); repeat ((refine And.intro ?_ ?_; focus exact Cl1); conv => whnf)
        rw [wrap64 (by omega) (by omega), wrap64 (by omega) (by omega)]
        refine ⟨[], (i + 1, L - ns[i].length), ⟨hix, ?_⟩, by show ns.length - (i + 1) < ns.length - i; omega, ?_⟩
        · rw [hdr] at hL
          simp only [nsLen] at hL ⊢
          omega
        · simp [meets, ghosts, St.le, St.get, look, keys, PV.labs, labsL, lookB, Blk.labs]
      · have hix : i = ns.length := by have := of_decide_eq_false h1; omega
        have hL' : L = left - (1 + s.length) - nsLen ns := by simpa [hix, nsLen] using hL
        have hok := okV_mk k n s l ns w left
        rw [← hL'] at hok
        (conv => whnf); repeat ((refine And.intro ?_ ?_; focus exact Cl1); conv => whnf)
        refine ⟨fun _ h2 => ?_, fun h2 => ?_⟩
        · rw [h2]
          (conv => whnf); repeat ((refine And.intro ?_ ?_; focus exact Cl1); conv => whnf)
          refine own_spec k n s z1 z2 lp ns t1 t2 hz2 (by omega) hn _ ?_
          (conv => whnf); repeat ((refine And.intro ?_ ?_; focus exact Cl1); conv => whnf)
          rw [hlp]
          refine ⟨fun h3 => ?_, fun h3 => ?_⟩
          · have h3' : ownB k n s l.length ns = false := by simpa using h3
            (conv => whnf); repeat ((refine And.intro ?_ ?_; focus exact Cl1); conv => whnf)
            have : okV (.mk k n s l ns) w left = false := by rw [hok, h3']; simp
            simpa [fitsR, this] using h
          · have h3' : ownB k n s l.length ns = true := by simpa using h3
            have hw8 : w < 8 ∧ 0 ≤ L := by
              have h2' : (bif decide (8 ≤ (w : Int)) then true else decide (L < 0)) = false := h2
              by_cases h9 : (8 : Int) ≤ w
              · simp [h9] at h2'
              · simp [h9] at h2'
                omega
            have hok2 : okV (.mk k n s l ns) w left = okVs l (w + 1) L := by rw [hok, h3']; simp [hw8]
            (conv => whnf); repeat ((refine And.intro ?_ ?_; focus exact Cl1); conv => whnf)
            refine ⟨Nat × Int, fun x => ⟨63, [(44, .int .i64 x.1), (43, .int .i64 l.length), (2, .int .i64 x.2), (7, .bool false), (6, .int .i64 0), (3, .ptr 0 0), (1, .int .i64 w)], [(0, .box [.int .i64 k, .int .i64 n, .str s, .sl z1 lp t1 true, .sl z2 (strs ns) t2 true])], []⟩,
              fun x => x.1 ≤ l.length ∧ 0 ≤ x.2 ∧ x.2 ≤ 1000000000000 ∧ okV (.mk k n s l ns) w left = okVs (l.drop x.1) (w + 1) x.2 ∧ x.2 - sizeVs (l.drop x.1) = left - sizeV (.mk k n s l ns), fun x => l.length - x.1,
              ⟨[], (0, L), ⟨Nat.zero_le _, hw8.2, (by show L ≤ _; omega), hok2, (by simp only [List.drop_zero, sizeV]; omega)⟩, ?_⟩, fun x hI => ?_⟩
            · simp [meets, ghosts, St.le, St.get, look, keys, PV.labs, labsL, lookB, Blk.labs, hlp]
            · clear hL' hok hok2 hL hi h2 h1 h3
              have hw7 := hw8.1
              clear hw8 hdb
              clear hix
              clear L i
              obtain ⟨i, L⟩ := x
              obtain ⟨hi, hL0, hL1, hok, hsz⟩ := hI
              simp only at hi hL0 hL1 hok hsz
              (conv => whnf); repeat ((refine And.intro ?_ ?_; focus exact Cl1); conv => whnf)
              refine ⟨fun h1 => ?_, fun h1 => ?_⟩
              · have hix : i < l.length := by have := of_decide_eq_true h1; omega
                have hdr : l.drop i = l[i] :: l.drop (i + 1) := List.drop_eq_getElem_cons hix
                obtain ⟨y1, mp, u1, o1, y2, u2, o2, hp, hq, g1, g2, g3⟩ := (VPs_nth hl hix).out
                have hbm := bulkVs_mem hix
                rw [← V.eta l[i]] at hbm
                (conv => whnf); repeat ((refine And.intro ?_ ?_; focus exact Cl1); conv => whnf)
                refine ⟨hz1', fun _ => ⟨by omega, by rw [hlp]; omega⟩, ?_⟩
                (conv => whnf); repeat ((refine And.intro ?_ ?_; focus exact Cl1); conv => whnf)
                rw [Int.toNat_natCast, hp]
                (conv => whnf); repeat ((refine And.intro ?_ ?_; focus exact Cl1); conv => whnf)
                rw [wrap64 (by omega) (by omega)]
                refine ih _ _ _ _ _ (by omega) (by omega) y1 y2 mp u1 u2 (w + 1) L _ hq g1 g2 g3 (by omega) (by omega) (by omega) ?_
                rw [V.eta] at hbm ⊢
                rw [hdr, okVs_cons] at hok
                simp only [hdr, sizeVs] at hsz
                (conv => whnf); repeat ((refine And.intro ?_ ?_; focus exact Cl1); conv => whnf)
                refine ⟨fun h2 => ?_, fun h2 => ?_⟩
                · have h2' : okV l[i] (w + 1) L = false := by simpa using h2
                  (conv => whnf); repeat ((refine And.intro ?_ ?_; focus exact Cl1); conv => whnf)
                  have : okV (.mk k n s l ns) w left = false := by rw [hok, h2']; rfl
                  simpa [fitsR, this] using h
                · have h2' : okV l[i] (w + 1) L = true := by simpa using h2
                  have h3 := (okV_iff.1 h2').1.2
                  (conv => whnf); repeat ((refine And.intro ?_ ?_; focus exact Cl1); conv => whnf)
                  rw [wrap64 (by omega) (by omega)]
                  refine ⟨[], (i + 1, L - sizeV l[i]), ⟨hix, by show 0 ≤ L - (sizeV l[i] : Int); omega, by show L - (sizeV l[i] : Int) ≤ _; omega, by rw [hok, h2']; rfl, by show L - (sizeV l[i] : Int) - (sizeVs (l.drop (i + 1)) : Int) = _; omega⟩, by show l.length - (i + 1) < l.length - i; omega, ?_⟩
                  simp [meets, ghosts, St.le, St.get, look, keys, PV.labs, labsL, lookB, Blk.labs, h2']
              · have hix : i = l.length := by have := of_decide_eq_false h1; omega
                (conv => whnf); repeat ((refine And.intro ?_ ?_; focus exact Cl1); conv => whnf)
                simp only [hix, List.drop_length, okVs, depthVs, sizeVs, allVs] at hok hsz
                have : okV (.mk k n s l ns) w left = true := by rw [hok]; simp; omega
                have e : L = left - sizeV (.mk k n s l ns) := by rw [← hsz]; simp
                simpa [fitsR, this, e] using h
        · have h2' := h2 rfl
          rw [h2']
          (conv => whnf); repeat ((refine And.intro ?_ ?_; focus exact Cl1); conv => whnf)
          refine ⟨fun h3 => ?_, fun h3 => by cases h3⟩
          (conv => whnf); repeat ((refine And.intro ?_ ?_; focus exact Cl1); conv => whnf)
          have : okV (.mk k n s l ns) w left = false := by
            have h2' : (bif decide (8 ≤ (w : Int)) then true else decide (L < 0)) = true := h2'
            rw [hok]
            by_cases h9 : (8 : Int) ≤ w
            · have : ¬ w < 8 := by omega
              simp [this]
            · have : ¬ 0 ≤ L := by simp [h9] at h2'; omega
              simp [this]
          simpa [fitsR, this] using h
end Go.Vc
