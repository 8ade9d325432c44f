/- What is proved here: contracts of functions of the program: of each function what it hands back and what it leaves in memory. Conditions: those that each theorem names. -/
import Derived.Test.YtfnmagjngnpokaaGreatDoorTc
import Derived.Test.YtfnmagjngnpokaaGreatDoorWf
set_option linter.unusedVariables false
set_option linter.unusedSimpArgs false
set_option linter.unusedSectionVars false
namespace Go.Vc
open Go Go.Proofs
set_option maxRecDepth 100000
theorem one_bit : ∀ n, n < 256 → ∀ i, i < 8 → i ≤ 8 - len (255 - n) → (bitsI .and .u8 (Int.fdiv (n : Int) (2 ^ (7 - i))) 1 == 1) = decide (i < 8 - len (255 - n)) := by decide +kernel
theorem and8 (a b : UInt8) : bitsI .and .u8 (a.toNat : Int) (b.toNat : Int) = ((a &&& b).toNat : Int) := by
  unfold bitsI
  simp only [BitVec.ofInt_natCast]
  show IntKind.u8.wrap (((BitVec.ofNat 8 a.toNat &&& BitVec.ofNat 8 b.toNat).toNat : Nat) : Int) = _
  have ha := a.toNat_lt
  have hb := b.toNat_lt
  rw [BitVec.toNat_and, BitVec.toNat_ofNat, BitVec.toNat_ofNat, Nat.mod_eq_of_lt (by omega), Nat.mod_eq_of_lt (by omega), UInt8.toNat_and]
  have := Nat.and_le_left (n := a.toNat) (m := b.toNat)
  exact wrap8 (by omega) (by omega)
theorem nth0 {b : List UInt8} (hb : b ≠ []) : nth (bs b) (Int.toNat 0) = .int .u8 ((b.headD 0).toNat : Int) := by
  cases b with
  | nil => exact absurd rfl hb
  | cons c r => rfl
theorem Both.E' {b c : Bool} {p q : Prop} (h : b = c) (hc : Both (c = true → p) (c = false → q)) : Both (b = true → p) (b = false → q) := by rw [h]; exact hc
theorem one_bit' (c : UInt8) (i : Nat) (h8 : i < 8) (hi : i ≤ ones c) : (bitsI .and .u8 (Int.fdiv (c.toNat : Int) (2 ^ min (IntKind.i64.wrap (7 - (i : Int))).toNat IntKind.u8.bits)) 1 == 1) = decide (i < ones c) := by
  rw [wrap64 (n := 7 - (i : Int)) (by omega) (by omega), show (7 - (i : Int)).toNat = 7 - i by omega, show min (7 - i) IntKind.u8.bits = 7 - i from Nat.min_eq_left (by show 7 - i ≤ 8; omega)]
  exact one_bit c.toNat c.toNat_lt i h8 hi
set_option maxHeartbeats 4000000 in
theorem takeR_spec (b : List UInt8) (z : Nat) (t : Bool) (hz : z = 1 ∨ b = []) (hb : b.length ≤ 1000000000) (Post : PV → List (Nat × Blk) → Prop)
    (h : ∀ v r e n, rdRaw b = (e, v, r) → (e = 0 → r = b.drop n ∧ n ≤ b.length) → Post (.tup [.int .u64 (v : Nat), .int .i64 (n : Nat), .int .i64 e]) []) : Spec K 80 [.sl z (bs b) t true] [] Post := by
  refine is80.specW K_ok K_mix false (by simp) (by simp [keys]) ?_
  (conv => whnf); repeat ((first | (refine And.intro ?_ ?_; focus exact Cl3) | refine Both.T (by exact rfl) ?_ | refine Both.F (by exact rfl) ?_ | refine Both.GT (by exact rfl) (by exact rfl) ?_ | refine Both.GF (by exact rfl) ?_ | refine Both.GN (by exact rfl) ?_); conv => whnf)
  rw [bs_len]
  by_cases hl : b = []
  · subst hl
    (conv => whnf); repeat ((first | (refine And.intro ?_ ?_; focus exact Cl3) | refine Both.T (by exact rfl) ?_ | refine Both.F (by exact rfl) ?_ | refine Both.GT (by exact rfl) (by exact rfl) ?_ | refine Both.GF (by exact rfl) ?_ | refine Both.GN (by exact rfl) ?_); conv => whnf)
    exact h 0 [] 3 0 (by simp [rdRaw]) (fun h => by cases h)
  · have hz1 : z = 1 := hz.resolve_right hl
    subst hz1
    have hlen : 0 < b.length := List.length_pos_iff.2 hl
    rw [show ((b.length : Int) == 0) = false by simpa using hl]
    (conv => whnf); repeat ((first | (refine And.intro ?_ ?_; focus exact Cl3) | refine Both.T (by exact rfl) ?_ | refine Both.F (by exact rfl) ?_ | refine Both.GT (by exact rfl) (by exact rfl) ?_ | refine Both.GF (by exact rfl) ?_ | refine Both.GN (by exact rfl) ?_); conv => whnf)
    refine ⟨Nat, fun i => ⟨61, [(5, .int .i64 i), (0, .sl 1 (bs b) t true)], [], []⟩, fun i => i ≤ ones (b.headD 0), fun i => 8 - i, ⟨[], 0, Nat.zero_le _, ?_⟩, fun i hi => ?_⟩
    · simp [meets, ghosts, St.le, St.get, look, keys, PV.labs, labsL]
    · have hi : i ≤ ones (b.headD 0) := hi
      have ho := ones_le (b.headD 0)
      by_cases hlt : i < ones (b.headD 0)
      · have h8 : i < 8 := by omega
        have hd : decide ((i : Int) < 8) = true := decide_eq_true (by omega)
        conv => (arg 5; dsimp only)
        (conv => whnf); repeat ((first | (refine And.intro ?_ ?_; focus exact Cl3) | refine Both.T (by exact rfl) ?_ | refine Both.F (by exact rfl) ?_ | refine Both.GT (by exact rfl) (by exact rfl) ?_ | refine Both.GF (by exact rfl) ?_ | refine Both.GN (by exact rfl) ?_); conv => whnf)
        rw [hd]
        refine ⟨fun _ => ⟨by decide, by rw [bs_len]; omega⟩, ?_⟩
        (conv => whnf); repeat ((first | (refine And.intro ?_ ?_; focus exact Cl3) | refine Both.T (by exact rfl) ?_ | refine Both.F (by exact rfl) ?_ | refine Both.GT (by exact rfl) (by exact rfl) ?_ | refine Both.GF (by exact rfl) ?_ | refine Both.GN (by exact rfl) ?_); conv => whnf)
        rw [nth0 hl]
        (conv => whnf); repeat ((first | (refine And.intro ?_ ?_; focus exact Cl3) | refine Both.T (by exact rfl) ?_ | refine Both.F (by exact rfl) ?_ | refine Both.GT (by exact rfl) (by exact rfl) ?_ | refine Both.GF (by exact rfl) ?_ | refine Both.GN (by exact rfl) ?_); conv => whnf)
        refine ⟨fun _ => by rw [wrap64 (n := 7 - (i : Int)) (by omega) (by omega)]; omega, ?_⟩
        (conv => whnf); repeat ((first | (refine And.intro ?_ ?_; focus exact Cl3) | refine Both.T (by exact rfl) ?_ | refine Both.F (by exact rfl) ?_ | refine Both.GT (by exact rfl) (by exact rfl) ?_ | refine Both.GF (by exact rfl) ?_ | refine Both.GN (by exact rfl) ?_); conv => whnf)
        refine Both.E' (one_bit' _ i h8 hi) ?_
        rw [decide_eq_true hlt]
        (conv => whnf); repeat ((first | (refine And.intro ?_ ?_; focus exact Cl3) | refine Both.T (by exact rfl) ?_ | refine Both.F (by exact rfl) ?_ | refine Both.GT (by exact rfl) (by exact rfl) ?_ | refine Both.GF (by exact rfl) ?_ | refine Both.GN (by exact rfl) ?_); conv => whnf)
        rw [wrap64 (n := (i : Int) + 1) (by omega) (by omega)]
        refine ⟨[], i + 1, hlt, by show 8 - (i + 1) < 8 - i; omega, ?_⟩
        simp [meets, ghosts, St.le, St.get, look, keys, PV.labs, labsL]
      · have hi2 : i = ones (b.headD 0) := by omega
        clear hlt hi
        subst hi2
        rcases Nat.lt_or_ge (ones (b.headD 0)) 8 with h8 | h8
        case' inl =>
          have hd : decide (((ones (b.headD 0) : Nat) : Int) < 8) = true := decide_eq_true (by omega)
          conv => (arg 5; dsimp only)
          (conv => whnf); repeat ((first | (refine And.intro ?_ ?_; focus exact Cl3) | refine Both.T (by exact rfl) ?_ | refine Both.F (by exact rfl) ?_ | refine Both.GT (by exact rfl) (by exact rfl) ?_ | refine Both.GF (by exact rfl) ?_ | refine Both.GN (by exact rfl) ?_); conv => whnf)
          rw [hd]
          refine ⟨fun _ => ⟨by decide, by rw [bs_len]; omega⟩, ?_⟩
          (conv => whnf); repeat ((first | (refine And.intro ?_ ?_; focus exact Cl3) | refine Both.T (by exact rfl) ?_ | refine Both.F (by exact rfl) ?_ | refine Both.GT (by exact rfl) (by exact rfl) ?_ | refine Both.GF (by exact rfl) ?_ | refine Both.GN (by exact rfl) ?_); conv => whnf)
          rw [nth0 hl]
          (conv => whnf); repeat ((first | (refine And.intro ?_ ?_; focus exact Cl3) | refine Both.T (by exact rfl) ?_ | refine Both.F (by exact rfl) ?_ | refine Both.GT (by exact rfl) (by exact rfl) ?_ | refine Both.GF (by exact rfl) ?_ | refine Both.GN (by exact rfl) ?_); conv => whnf)
          refine ⟨fun _ => by rw [wrap64 (n := 7 - ((ones (b.headD 0) : Nat) : Int)) (by omega) (by omega)]; omega, ?_⟩
          (conv => whnf); repeat ((first | (refine And.intro ?_ ?_; focus exact Cl3) | refine Both.T (by exact rfl) ?_ | refine Both.F (by exact rfl) ?_ | refine Both.GT (by exact rfl) (by exact rfl) ?_ | refine Both.GF (by exact rfl) ?_ | refine Both.GN (by exact rfl) ?_); conv => whnf)
          refine Both.E' (one_bit' _ _ h8 (Nat.le_refl _)) ?_
          rw [decide_eq_false (Nat.lt_irrefl _)]
          (conv => whnf); repeat ((first | (refine And.intro ?_ ?_; focus exact Cl3) | refine Both.T (by exact rfl) ?_ | refine Both.F (by exact rfl) ?_ | refine Both.GT (by exact rfl) (by exact rfl) ?_ | refine Both.GF (by exact rfl) ?_ | refine Both.GN (by exact rfl) ?_); conv => whnf)
        case' inr =>
          have hd : decide (((ones (b.headD 0) : Nat) : Int) < 8) = false := decide_eq_false (by omega)
          conv => (arg 5; dsimp only)
          (conv => whnf); repeat ((first | (refine And.intro ?_ ?_; focus exact Cl3) | refine Both.T (by exact rfl) ?_ | refine Both.F (by exact rfl) ?_ | refine Both.GT (by exact rfl) (by exact rfl) ?_ | refine Both.GF (by exact rfl) ?_ | refine Both.GN (by exact rfl) ?_); conv => whnf)
          rw [hd]
          (conv => whnf); repeat ((first | (refine And.intro ?_ ?_; focus exact Cl3) | refine Both.T (by exact rfl) ?_ | refine Both.F (by exact rfl) ?_ | refine Both.GT (by exact rfl) (by exact rfl) ?_ | refine Both.GF (by exact rfl) ?_ | refine Both.GN (by exact rfl) ?_); conv => whnf)
          rw [nth0 hl]
          (conv => whnf); repeat ((first | (refine And.intro ?_ ?_; focus exact Cl3) | refine Both.T (by exact rfl) ?_ | refine Both.F (by exact rfl) ?_ | refine Both.GT (by exact rfl) (by exact rfl) ?_ | refine Both.GF (by exact rfl) ?_ | refine Both.GN (by exact rfl) ?_); conv => whnf)
        all_goals (
          rw [bs_len, wrap64 (n := 1 + ((ones (b.headD 0) : Nat) : Int)) (by omega) (by omega)]
          by_cases hle : b.length ≤ ones (b.headD 0)
          · rw [decide_eq_true (show (b.length : Int) < 1 + ((ones (b.headD 0) : Nat) : Int) by omega)]
            (conv => whnf); repeat ((first | (refine And.intro ?_ ?_; focus exact Cl3) | refine Both.T (by exact rfl) ?_ | refine Both.F (by exact rfl) ?_ | refine Both.GT (by exact rfl) (by exact rfl) ?_ | refine Both.GF (by exact rfl) ?_ | refine Both.GN (by exact rfl) ?_); conv => whnf)
            exact h 0 [] 3 0 (by rw [rdRaw, if_pos (.inr hle)]) (fun h => by cases h)
          · rw [decide_eq_false (show ¬ (b.length : Int) < 1 + ((ones (b.headD 0) : Nat) : Int) by omega)]
            have hnot : ¬ (b = [] ∨ b.length ≤ ones (b.headD 0)) := fun h => by
              rcases h with h | h
              · exact hl h
              · omega
            have hraw : rdRaw b = if fol (rdVal b (ones (b.headD 0))) ≠ ones (b.headD 0) then (4, 0, []) else (0, rdVal b (ones (b.headD 0)), b.drop (1 + ones (b.headD 0))) := by rw [rdRaw, if_neg hnot]
            obtain ⟨v0, hv0⟩ : ∃ v0, v0 = ((b.headD 0) &&& UInt8.ofNat (127 / 2 ^ ones (b.headD 0))).toNat := ⟨_, rfl⟩
            have hv0l : v0 ≤ 127 / 2 ^ ones (b.headD 0) := by
              rw [hv0, UInt8.toNat_and]
              refine Nat.le_trans Nat.and_le_right ?_
              have : 127 / 2 ^ ones (b.headD 0) ≤ 127 := Nat.div_le_self _ _
              rw [UInt8.toNat_ofNat', Nat.mod_eq_of_lt (by omega)]
              exact Nat.le_refl _
            obtain ⟨n, hn⟩ : ∃ n, n = ones (b.headD 0) := ⟨_, rfl⟩
            rw [← hn] at hraw hle hv0 hv0l hnot ho hd h8 ⊢
            have hval : rdVal b n = horner v0 ((b.drop 1).take n) := by rw [rdVal, hv0]
            clear hn
            have hv127 : v0 ≤ 127 := Nat.le_trans hv0l (Nat.div_le_self _ _)
            by_cases h7 : n < 7
            · have hd7 : decide ((n : Int) < 7) = true := decide_eq_true (by omega)
              (conv => whnf); repeat ((first | (refine And.intro ?_ ?_; focus exact Cl3) | refine Both.T (by exact rfl) ?_ | refine Both.F (by exact rfl) ?_ | refine Both.GT (by exact rfl) (by exact rfl) ?_ | refine Both.GF (by exact rfl) ?_ | refine Both.GN (by exact rfl) ?_); conv => whnf)
              rw [hd7]
              (conv => whnf); repeat ((first | (refine And.intro ?_ ?_; focus exact Cl3) | refine Both.T (by exact rfl) ?_ | refine Both.F (by exact rfl) ?_ | refine Both.GT (by exact rfl) (by exact rfl) ?_ | refine Both.GF (by exact rfl) ?_ | refine Both.GN (by exact rfl) ?_); conv => whnf)
              refine ⟨fun _ => ⟨by decide, by rw [bs_len]; omega⟩, ?_⟩
              (conv => whnf); repeat ((first | (refine And.intro ?_ ?_; focus exact Cl3) | refine Both.T (by exact rfl) ?_ | refine Both.F (by exact rfl) ?_ | refine Both.GT (by exact rfl) (by exact rfl) ?_ | refine Both.GF (by exact rfl) ?_ | refine Both.GN (by exact rfl) ?_); conv => whnf)
              rw [nth0 hl]
              (conv => whnf); repeat ((first | (refine And.intro ?_ ?_; focus exact Cl3) | refine Both.T (by exact rfl) ?_ | refine Both.F (by exact rfl) ?_ | refine Both.GT (by exact rfl) (by exact rfl) ?_ | refine Both.GF (by exact rfl) ?_ | refine Both.GN (by exact rfl) ?_); conv => whnf)
              have h127 : Int.fdiv 127 (2 ^ min ((n : Nat) : Int).toNat IntKind.u8.bits) = ((UInt8.ofNat (127 / 2 ^ n)).toNat : Int) := by
                have : 127 / 2 ^ n ≤ 127 := Nat.div_le_self _ _
                have h1 : Int.fdiv 127 (2 ^ min ((n : Nat) : Int).toNat IntKind.u8.bits) = ((127 / 2 ^ n : Nat) : Int) := fd 127 n _ .u8 (by rw [Int.toNat_natCast]; show min _ 8 = _; omega)
                rw [h1, UInt8.toNat_ofNat', Nat.mod_eq_of_lt (by omega)]
              rw [h127, and8, ← hv0, wrapU (n := (v0 : Int)) (by omega) (by omega)]
              refine ⟨Nat, fun j => ⟨61, [(7, .int .i64 (j + 1 : Nat)), (6, .int .u64 (horner v0 (((b.drop 1).take n).take j) : Nat)), (5, .int .i64 n), (0, .sl 1 (bs b) t true)], [], []⟩, fun j => j ≤ n, fun j => n - j, ⟨[], 0, Nat.zero_le _, ?_⟩, fun j hj => ?_⟩
              · simp [meets, ghosts, St.le, St.get, look, keys, PV.labs, labsL, horner]
                try omega
              · have hj : j ≤ n := hj
                have hxl : ((b.drop 1).take n).length = n := by rw [List.length_take, List.length_drop]; omega
                conv => (arg 5; dsimp only)
                (conv => whnf); repeat ((first | (refine And.intro ?_ ?_; focus exact Cl3) | refine Both.T (by exact rfl) ?_ | refine Both.F (by exact rfl) ?_ | refine Both.GT (by exact rfl) (by exact rfl) ?_ | refine Both.GF (by exact rfl) ?_ | refine Both.GN (by exact rfl) ?_); conv => whnf)
                rw [show decide (((j + 1 : Nat) : Int) ≤ (n : Int)) = decide (j < n) from decide_eq_decide.2 (by omega)]
                by_cases hjn : j < n
                · rw [decide_eq_true hjn]
                  (conv => whnf); repeat ((first | (refine And.intro ?_ ?_; focus exact Cl3) | refine Both.T (by exact rfl) ?_ | refine Both.F (by exact rfl) ?_ | refine Both.GT (by exact rfl) (by exact rfl) ?_ | refine Both.GF (by exact rfl) ?_ | refine Both.GN (by exact rfl) ?_); conv => whnf)
                  refine ⟨fun _ => ⟨by omega, by rw [bs_len]; omega⟩, ?_⟩
                  (conv => whnf); repeat ((first | (refine And.intro ?_ ?_; focus exact Cl3) | refine Both.T (by exact rfl) ?_ | refine Both.F (by exact rfl) ?_ | refine Both.GT (by exact rfl) (by exact rfl) ?_ | refine Both.GF (by exact rfl) ?_ | refine Both.GN (by exact rfl) ?_); conv => whnf)
                  have hix : j < ((b.drop 1).take n).length := by omega
                  have hbj : nth (bs b) ((j + 1 : Nat) : Int).toNat = .int .u8 ((((b.drop 1).take n)[j]'hix).toNat : Int) := by
                    rw [Int.toNat_natCast, nth_bs (by omega), List.getElem_take, List.getElem_drop]
                    congr 3
                    congr 1
                    omega
                  rw [hbj]
                  (conv => whnf); repeat ((first | (refine And.intro ?_ ?_; focus exact Cl3) | refine Both.T (by exact rfl) ?_ | refine Both.F (by exact rfl) ?_ | refine Both.GT (by exact rfl) (by exact rfl) ?_ | refine Both.GF (by exact rfl) ?_ | refine Both.GN (by exact rfl) ?_); conv => whnf)
                  have hx8 := (((b.drop 1).take n)[j]'hix).toNat_lt
                  have hsn := horner_snoc v0 ((b.drop 1).take n) j hix
                  have hroom := horner_room (by omega) hv0l (((b.drop 1).take n).take (j + 1)) (by rw [List.length_take]; omega)
                  rw [hsn] at hroom
                  have e3 : ((horner v0 (List.take j ((b.drop 1).take n)) : Nat) : Int) * 2 ^ min (Int.toNat 8) IntKind.u64.bits = ((horner v0 (List.take j ((b.drop 1).take n)) * 256 : Nat) : Int) := by
                    rw [show (2 : Int) ^ min (Int.toNat 8) IntKind.u64.bits = 256 from rfl]; omega
                  rw [e3, wrapU (n := ((horner v0 (List.take j ((b.drop 1).take n)) * 256 : Nat) : Int)) (by omega) (by omega), wrapU (n := ((((b.drop 1).take n)[j]'hix).toNat : Int)) (by omega) (by omega), or64 hroom (by omega), ← hsn, wrap64 (by omega) (by omega)]
                  refine ⟨[], j + 1, hjn, by show n - (j + 1) < n - j; omega, ?_⟩
                  simp [meets, ghosts, St.le, St.get, look, keys, PV.labs, labsL]
                · rw [decide_eq_false hjn]
                  have hj2 : j = n := by omega
                  subst hj2
                  (conv => whnf); repeat ((first | (refine And.intro ?_ ?_; focus exact Cl3) | refine Both.T (by exact rfl) ?_ | refine Both.F (by exact rfl) ?_ | refine Both.GT (by exact rfl) (by exact rfl) ?_ | refine Both.GF (by exact rfl) ?_ | refine Both.GN (by exact rfl) ?_); conv => whnf)
                  rw [List.take_of_length_le (l := List.take j (List.drop 1 b)) (by omega), ← hval]
                  refine bytesR_spec _ (rdVal_lt b j (by omega)) _ ?_
                  (conv => whnf); repeat ((first | (refine And.intro ?_ ?_; focus exact Cl3) | refine Both.T (by exact rfl) ?_ | refine Both.F (by exact rfl) ?_ | refine Both.GT (by exact rfl) (by exact rfl) ?_ | refine Both.GF (by exact rfl) ?_ | refine Both.GN (by exact rfl) ?_); conv => whnf)
                  have hff : ∀ c : Int, c = 1 + (j : Int) → ((((1 + fol (rdVal b j) : Nat) : Int) != c) = !decide (fol (rdVal b j) = j)) := fun c hc => by
                    by_cases hf : fol (rdVal b j) = j
                    · simp [hf, hc]
                    · have : ¬ (((1 + fol (rdVal b j) : Nat) : Int) = c) := by omega
                      rw [decide_eq_false hf]
                      simpa using this
                  rw [hff _ (wrap64 (by omega) (by omega))]
                  by_cases hf : fol (rdVal b j) = j
                  · rw [decide_eq_true hf]
                    (conv => whnf); repeat ((first | (refine And.intro ?_ ?_; focus exact Cl3) | refine Both.T (by exact rfl) ?_ | refine Both.F (by exact rfl) ?_ | refine Both.GT (by exact rfl) (by exact rfl) ?_ | refine Both.GF (by exact rfl) ?_ | refine Both.GN (by exact rfl) ?_); conv => whnf)
                    rw [wrap64 (n := 1 + (j : Int)) (by omega) (by omega)]
                    refine h (rdVal b j) (b.drop (1 + j)) 0 (1 + j) (by rw [hraw, if_neg (by simp [hf])]) (fun _ => ⟨rfl, by omega⟩)
                  · rw [decide_eq_false hf]
                    (conv => whnf); repeat ((first | (refine And.intro ?_ ?_; focus exact Cl3) | refine Both.T (by exact rfl) ?_ | refine Both.F (by exact rfl) ?_ | refine Both.GT (by exact rfl) (by exact rfl) ?_ | refine Both.GF (by exact rfl) ?_ | refine Both.GN (by exact rfl) ?_); conv => whnf)
                    exact h 0 [] 4 0 (by rw [hraw, if_pos hf]) (fun h => by cases h)
            · have hd7 : decide ((n : Int) < 7) = false := decide_eq_false (by omega)
              have hv00 : v0 = 0 := by
                have : 127 / 2 ^ n = 0 := by
                  obtain rfl | rfl : n = 7 ∨ n = 8 := by omega
                  · rfl
                  · rfl
                omega
              (conv => whnf); repeat ((first | (refine And.intro ?_ ?_; focus exact Cl3) | refine Both.T (by exact rfl) ?_ | refine Both.F (by exact rfl) ?_ | refine Both.GT (by exact rfl) (by exact rfl) ?_ | refine Both.GF (by exact rfl) ?_ | refine Both.GN (by exact rfl) ?_); conv => whnf)
              rw [hd7]
              (conv => whnf); repeat ((first | (refine And.intro ?_ ?_; focus exact Cl3) | refine Both.T (by exact rfl) ?_ | refine Both.F (by exact rfl) ?_ | refine Both.GT (by exact rfl) (by exact rfl) ?_ | refine Both.GF (by exact rfl) ?_ | refine Both.GN (by exact rfl) ?_); conv => whnf)
              refine ⟨Nat, fun j => ⟨61, [(7, .int .i64 (j + 1 : Nat)), (6, .int .u64 (horner v0 (((b.drop 1).take n).take j) : Nat)), (5, .int .i64 n), (0, .sl 1 (bs b) t true)], [], []⟩, fun j => j ≤ n, fun j => n - j, ⟨[], 0, Nat.zero_le _, ?_⟩, fun j hj => ?_⟩
              · simp [meets, ghosts, St.le, St.get, look, keys, PV.labs, labsL, horner]
                try omega
              · have hj : j ≤ n := hj
                have hxl : ((b.drop 1).take n).length = n := by rw [List.length_take, List.length_drop]; omega
                conv => (arg 5; dsimp only)
                (conv => whnf); repeat ((first | (refine And.intro ?_ ?_; focus exact Cl3) | refine Both.T (by exact rfl) ?_ | refine Both.F (by exact rfl) ?_ | refine Both.GT (by exact rfl) (by exact rfl) ?_ | refine Both.GF (by exact rfl) ?_ | refine Both.GN (by exact rfl) ?_); conv => whnf)
                rw [show decide (((j + 1 : Nat) : Int) ≤ (n : Int)) = decide (j < n) from decide_eq_decide.2 (by omega)]
                by_cases hjn : j < n
                · rw [decide_eq_true hjn]
                  (conv => whnf); repeat ((first | (refine And.intro ?_ ?_; focus exact Cl3) | refine Both.T (by exact rfl) ?_ | refine Both.F (by exact rfl) ?_ | refine Both.GT (by exact rfl) (by exact rfl) ?_ | refine Both.GF (by exact rfl) ?_ | refine Both.GN (by exact rfl) ?_); conv => whnf)
                  refine ⟨fun _ => ⟨by omega, by rw [bs_len]; omega⟩, ?_⟩
                  (conv => whnf); repeat ((first | (refine And.intro ?_ ?_; focus exact Cl3) | refine Both.T (by exact rfl) ?_ | refine Both.F (by exact rfl) ?_ | refine Both.GT (by exact rfl) (by exact rfl) ?_ | refine Both.GF (by exact rfl) ?_ | refine Both.GN (by exact rfl) ?_); conv => whnf)
                  have hix : j < ((b.drop 1).take n).length := by omega
                  have hbj : nth (bs b) ((j + 1 : Nat) : Int).toNat = .int .u8 ((((b.drop 1).take n)[j]'hix).toNat : Int) := by
                    rw [Int.toNat_natCast, nth_bs (by omega), List.getElem_take, List.getElem_drop]
                    congr 3
                    congr 1
                    omega
                  rw [hbj]
                  (conv => whnf); repeat ((first | (refine And.intro ?_ ?_; focus exact Cl3) | refine Both.T (by exact rfl) ?_ | refine Both.F (by exact rfl) ?_ | refine Both.GT (by exact rfl) (by exact rfl) ?_ | refine Both.GF (by exact rfl) ?_ | refine Both.GN (by exact rfl) ?_); conv => whnf)
                  have hx8 := (((b.drop 1).take n)[j]'hix).toNat_lt
                  have hsn := horner_snoc v0 ((b.drop 1).take n) j hix
                  have hroom := horner_room (by omega) hv0l (((b.drop 1).take n).take (j + 1)) (by rw [List.length_take]; omega)
                  rw [hsn] at hroom
                  have e3 : ((horner v0 (List.take j ((b.drop 1).take n)) : Nat) : Int) * 2 ^ min (Int.toNat 8) IntKind.u64.bits = ((horner v0 (List.take j ((b.drop 1).take n)) * 256 : Nat) : Int) := by
                    rw [show (2 : Int) ^ min (Int.toNat 8) IntKind.u64.bits = 256 from rfl]; omega
                  rw [e3, wrapU (n := ((horner v0 (List.take j ((b.drop 1).take n)) * 256 : Nat) : Int)) (by omega) (by omega), wrapU (n := ((((b.drop 1).take n)[j]'hix).toNat : Int)) (by omega) (by omega), or64 hroom (by omega), ← hsn, wrap64 (by omega) (by omega)]
                  refine ⟨[], j + 1, hjn, by show n - (j + 1) < n - j; omega, ?_⟩
                  simp [meets, ghosts, St.le, St.get, look, keys, PV.labs, labsL]
                · rw [decide_eq_false hjn]
                  have hj2 : j = n := by omega
                  subst hj2
                  (conv => whnf); repeat ((first | (refine And.intro ?_ ?_; focus exact Cl3) | refine Both.T (by exact rfl) ?_ | refine Both.F (by exact rfl) ?_ | refine Both.GT (by exact rfl) (by exact rfl) ?_ | refine Both.GF (by exact rfl) ?_ | refine Both.GN (by exact rfl) ?_); conv => whnf)
                  rw [List.take_of_length_le (l := List.take j (List.drop 1 b)) (by omega), ← hval]
                  refine bytesR_spec _ (rdVal_lt b j (by omega)) _ ?_
                  (conv => whnf); repeat ((first | (refine And.intro ?_ ?_; focus exact Cl3) | refine Both.T (by exact rfl) ?_ | refine Both.F (by exact rfl) ?_ | refine Both.GT (by exact rfl) (by exact rfl) ?_ | refine Both.GF (by exact rfl) ?_ | refine Both.GN (by exact rfl) ?_); conv => whnf)
                  have hff : ∀ c : Int, c = 1 + (j : Int) → ((((1 + fol (rdVal b j) : Nat) : Int) != c) = !decide (fol (rdVal b j) = j)) := fun c hc => by
                    by_cases hf : fol (rdVal b j) = j
                    · simp [hf, hc]
                    · have : ¬ (((1 + fol (rdVal b j) : Nat) : Int) = c) := by omega
                      rw [decide_eq_false hf]
                      simpa using this
                  rw [hff _ (wrap64 (by omega) (by omega))]
                  by_cases hf : fol (rdVal b j) = j
                  · rw [decide_eq_true hf]
                    (conv => whnf); repeat ((first | (refine And.intro ?_ ?_; focus exact Cl3) | refine Both.T (by exact rfl) ?_ | refine Both.F (by exact rfl) ?_ | refine Both.GT (by exact rfl) (by exact rfl) ?_ | refine Both.GF (by exact rfl) ?_ | refine Both.GN (by exact rfl) ?_); conv => whnf)
                    rw [wrap64 (n := 1 + (j : Int)) (by omega) (by omega)]
                    refine h (rdVal b j) (b.drop (1 + j)) 0 (1 + j) (by rw [hraw, if_neg (by simp [hf])]) (fun _ => ⟨rfl, by omega⟩)
                  · rw [decide_eq_false hf]
                    (conv => whnf); repeat ((first | (refine And.intro ?_ ?_; focus exact Cl3) | refine Both.T (by exact rfl) ?_ | refine Both.F (by exact rfl) ?_ | refine Both.GT (by exact rfl) (by exact rfl) ?_ | refine Both.GF (by exact rfl) ?_ | refine Both.GN (by exact rfl) ?_); conv => whnf)
                    exact h 0 [] 4 0 (by rw [hraw, if_pos hf]) (fun h => by cases h))
end Go.Vc
namespace Go.Vc
open Go Go.Proofs
set_option maxRecDepth 100000
theorem bs_int2 (a : List UInt8) (n m : Nat) : ∀ u ∈ List.drop m (List.take n (bs a)), ∃ k, u = .int .u8 k := fun u hu => bs_int a u (List.mem_of_mem_take (List.mem_of_mem_drop hu))
theorem rdRaw_e {b : List UInt8} {e : Int} {v : Nat} {r : List UInt8} (h : rdRaw b = (e, v, r)) : e = 0 ∨ e = 3 ∨ e = 4 := by
  unfold rdRaw at h
  split at h
  · cases h; exact .inr (.inl rfl)
  · split at h
    · cases h; exact .inr (.inr rfl)
    · cases h; exact .inl rfl
set_option maxHeartbeats 4000000 in
theorem takeNumR_spec (b : List UInt8) (z : Nat) (t : Bool) (hz : z = 1 ∨ b = []) (hb : b.length ≤ 1000000000) (Post : PV → List (Nat × Blk) → Prop)
    (h : ∀ z n r e, rdSpec numG b = (n, r, e) → (z = 1 ∨ r = []) → Post (.tup [.int .i64 n, .sl z (bs r) false true, .int .i64 e]) []) : Spec K 61 [.sl z (bs b) t true] [] Post := by
  have hz2 : z = 1 ∨ bs b = [] := hz.imp id fun h => by rw [h]; rfl
  refine is61.specW K_ok K_mix false (by simp) (by simp [keys]) ?_
  (conv => whnf); repeat ((first | (refine And.intro ?_ ?_; focus exact Cl3) | refine Both.T (by exact rfl) ?_ | refine Both.F (by exact rfl) ?_ | refine Both.GT (by exact rfl) (by exact rfl) ?_ | refine Both.GF (by exact rfl) ?_ | refine Both.GN (by exact rfl) ?_); conv => whnf)
  refine takeR_spec b z t hz hb _ (fun v r e n he hr => ?_)
  (conv => whnf); repeat ((first | (refine And.intro ?_ ?_; focus exact Cl3) | refine Both.T (by exact rfl) ?_ | refine Both.F (by exact rfl) ?_ | refine Both.GT (by exact rfl) (by exact rfl) ?_ | refine Both.GF (by exact rfl) ?_ | refine Both.GN (by exact rfl) ?_); conv => whnf)
  rcases rdRaw_e he with rfl | rfl | rfl
  · obtain ⟨rfl, hn⟩ := hr rfl
    have hv := rdRaw_lt he
    (conv => whnf); repeat ((first | (refine And.intro ?_ ?_; focus exact Cl3) | refine Both.T (by exact rfl) ?_ | refine Both.F (by exact rfl) ?_ | refine Both.GT (by exact rfl) (by exact rfl) ?_ | refine Both.GF (by exact rfl) ?_ | refine Both.GN (by exact rfl) ?_); conv => whnf)
    by_cases hm : 9007199254740991 < v
    · rw [decide_eq_true (show (9007199254740991 : Int) < (v : Int) by omega)]
      (conv => whnf); repeat ((first | (refine And.intro ?_ ?_; focus exact Cl3) | refine Both.T (by exact rfl) ?_ | refine Both.F (by exact rfl) ?_ | refine Both.GT (by exact rfl) (by exact rfl) ?_ | refine Both.GF (by exact rfl) ?_ | refine Both.GN (by exact rfl) ?_); conv => whnf)
      exact h 0 0 [] 4 (by rw [rd_bad he (by simp [numG, hm])]; simp [numG, hm]) (.inr rfl)
    · rw [decide_eq_false (show ¬ (9007199254740991 : Int) < (v : Int) by omega)]
      (conv => whnf); repeat ((first | (refine And.intro ?_ ?_; focus exact Cl3) | refine Both.T (by exact rfl) ?_ | refine Both.F (by exact rfl) ?_ | refine Both.GT (by exact rfl) (by exact rfl) ?_ | refine Both.GF (by exact rfl) ?_ | refine Both.GN (by exact rfl) ?_); conv => whnf)
      refine ⟨fun _ => ⟨by omega, by rw [bs_len]; omega⟩, ?_⟩
      (conv => whnf); repeat ((first | (refine And.intro ?_ ?_; focus exact Cl3) | refine Both.T (by exact rfl) ?_ | refine Both.F (by exact rfl) ?_ | refine Both.GT (by exact rfl) (by exact rfl) ?_ | refine Both.GF (by exact rfl) ?_ | refine Both.GN (by exact rfl) ?_); conv => whnf)
      rw [Int.toNat_natCast, List.take_length, bs_drop]
      refine copyB_spec (b.drop n) z _ (by simp; omega) _ ?_
      (conv => whnf); repeat ((first | (refine And.intro ?_ ?_; focus exact Cl3) | refine Both.T (by exact rfl) ?_ | refine Both.F (by exact rfl) ?_ | refine Both.GT (by exact rfl) (by exact rfl) ?_ | refine Both.GF (by exact rfl) ?_ | refine Both.GN (by exact rfl) ?_); conv => whnf)
      rw [wrap64 (n := (v : Int)) (by omega) (by omega)]
      exact h 1 v (b.drop n) 0 (by rw [rd_ok he (by simp [numG, hm])]; simp [numG, hm]) (.inl rfl)
  · (conv => whnf); repeat ((first | (refine And.intro ?_ ?_; focus exact Cl3) | refine Both.T (by exact rfl) ?_ | refine Both.F (by exact rfl) ?_ | refine Both.GT (by exact rfl) (by exact rfl) ?_ | refine Both.GF (by exact rfl) ?_ | refine Both.GN (by exact rfl) ?_); conv => whnf)
    exact h 0 0 [] 3 (rd_err (by rw [he]) (by decide)) (.inr rfl)
  · (conv => whnf); repeat ((first | (refine And.intro ?_ ?_; focus exact Cl3) | refine Both.T (by exact rfl) ?_ | refine Both.F (by exact rfl) ?_ | refine Both.GT (by exact rfl) (by exact rfl) ?_ | refine Both.GF (by exact rfl) ?_ | refine Both.GN (by exact rfl) ?_); conv => whnf)
    exact h 0 0 [] 4 (rd_err (by rw [he]) (by decide)) (.inr rfl)
theorem zagR_odd {v : Nat} (hv : v < 18446744073709551616) (h : v % 2 = 1) : IntKind.i64.wrap (IntKind.i64.wrap (0 - IntKind.i64.wrap (IntKind.u64.wrap ((v : Int).tdiv 2))) - 1) = zag v := by
  have e1 : (v : Int).tdiv 2 = ((v / 2 : Nat) : Int) := by rw [Int.tdiv_eq_ediv_of_nonneg (by omega)]; omega
  rw [e1, wrapU (by omega) (by omega), wrap64 (n := ((v / 2 : Nat) : Int)) (by omega) (by omega), wrap64 (n := 0 - ((v / 2 : Nat) : Int)) (by omega) (by omega), wrap64 (by omega) (by omega), zag, if_neg (by omega)]
  omega
theorem zagR_even {v : Nat} (hv : v < 18446744073709551616) (h : v % 2 = 0) : IntKind.i64.wrap (IntKind.u64.wrap ((v : Int).tdiv 2)) = zag v := by
  have e1 : (v : Int).tdiv 2 = ((v / 2 : Nat) : Int) := by rw [Int.tdiv_eq_ediv_of_nonneg (by omega)]; omega
  rw [e1, wrapU (by omega) (by omega), wrap64 (n := ((v / 2 : Nat) : Int)) (by omega) (by omega), zag, if_pos h]
set_option maxHeartbeats 4000000 in
theorem takeIntR_spec (b : List UInt8) (z : Nat) (t : Bool) (hz : z = 1 ∨ b = []) (hb : b.length ≤ 1000000000) (Post : PV → List (Nat × Blk) → Prop)
    (h : ∀ z n r e, rdSpec intG b = (n, r, e) → (z = 1 ∨ r = []) → Post (.tup [.int .i64 n, .sl z (bs r) false true, .int .i64 e]) []) : Spec K 62 [.sl z (bs b) t true] [] Post := by
  have hz2 : z = 1 ∨ bs b = [] := hz.imp id fun h => by rw [h]; rfl
  refine is62.specW K_ok K_mix false (by simp) (by simp [keys]) ?_
  (conv => whnf); repeat ((first | (refine And.intro ?_ ?_; focus exact Cl3) | refine Both.T (by exact rfl) ?_ | refine Both.F (by exact rfl) ?_ | refine Both.GT (by exact rfl) (by exact rfl) ?_ | refine Both.GF (by exact rfl) ?_ | refine Both.GN (by exact rfl) ?_); conv => whnf)
  refine takeR_spec b z t hz hb _ (fun v r e n he hr => ?_)
  (conv => whnf); repeat ((first | (refine And.intro ?_ ?_; focus exact Cl3) | refine Both.T (by exact rfl) ?_ | refine Both.F (by exact rfl) ?_ | refine Both.GT (by exact rfl) (by exact rfl) ?_ | refine Both.GF (by exact rfl) ?_ | refine Both.GN (by exact rfl) ?_); conv => whnf)
  rcases rdRaw_e he with rfl | rfl | rfl
  · obtain ⟨rfl, hn⟩ := hr rfl
    have hv := rdRaw_lt he
    (conv => whnf); repeat ((first | (refine And.intro ?_ ?_; focus exact Cl3) | refine Both.T (by exact rfl) ?_ | refine Both.F (by exact rfl) ?_ | refine Both.GT (by exact rfl) (by exact rfl) ?_ | refine Both.GF (by exact rfl) ?_ | refine Both.GN (by exact rfl) ?_); conv => whnf)
    have e2 : (v : Int).tmod 2 = ((v % 2 : Nat) : Int) := by rw [Int.tmod_eq_emod_of_nonneg (by omega)]; omega
    rw [e2]
    by_cases hm : v % 2 = 1
    · rw [hm]
      (conv => whnf); repeat ((first | (refine And.intro ?_ ?_; focus exact Cl3) | refine Both.T (by exact rfl) ?_ | refine Both.F (by exact rfl) ?_ | refine Both.GT (by exact rfl) (by exact rfl) ?_ | refine Both.GF (by exact rfl) ?_ | refine Both.GN (by exact rfl) ?_); conv => whnf)
      refine ⟨fun _ => ⟨by omega, by rw [bs_len]; omega⟩, ?_⟩
      (conv => whnf); repeat ((first | (refine And.intro ?_ ?_; focus exact Cl3) | refine Both.T (by exact rfl) ?_ | refine Both.F (by exact rfl) ?_ | refine Both.GT (by exact rfl) (by exact rfl) ?_ | refine Both.GF (by exact rfl) ?_ | refine Both.GN (by exact rfl) ?_); conv => whnf)
      rw [Int.toNat_natCast, List.take_length, bs_drop]
      refine copyB_spec (b.drop n) z _ (by simp; omega) _ ?_
      (conv => whnf); repeat ((first | (refine And.intro ?_ ?_; focus exact Cl3) | refine Both.T (by exact rfl) ?_ | refine Both.F (by exact rfl) ?_ | refine Both.GT (by exact rfl) (by exact rfl) ?_ | refine Both.GF (by exact rfl) ?_ | refine Both.GN (by exact rfl) ?_); conv => whnf)
      rw [zagR_odd hv hm]
      exact h 1 (zag v) (b.drop n) 0 (rd_ok he rfl) (.inl rfl)
    · have hm0 : v % 2 = 0 := by omega
      rw [hm0]
      (conv => whnf); repeat ((first | (refine And.intro ?_ ?_; focus exact Cl3) | refine Both.T (by exact rfl) ?_ | refine Both.F (by exact rfl) ?_ | refine Both.GT (by exact rfl) (by exact rfl) ?_ | refine Both.GF (by exact rfl) ?_ | refine Both.GN (by exact rfl) ?_); conv => whnf)
      refine ⟨fun _ => ⟨by omega, by rw [bs_len]; omega⟩, ?_⟩
      (conv => whnf); repeat ((first | (refine And.intro ?_ ?_; focus exact Cl3) | refine Both.T (by exact rfl) ?_ | refine Both.F (by exact rfl) ?_ | refine Both.GT (by exact rfl) (by exact rfl) ?_ | refine Both.GF (by exact rfl) ?_ | refine Both.GN (by exact rfl) ?_); conv => whnf)
      rw [Int.toNat_natCast, List.take_length, bs_drop]
      refine copyB_spec (b.drop n) z _ (by simp; omega) _ ?_
      (conv => whnf); repeat ((first | (refine And.intro ?_ ?_; focus exact Cl3) | refine Both.T (by exact rfl) ?_ | refine Both.F (by exact rfl) ?_ | refine Both.GT (by exact rfl) (by exact rfl) ?_ | refine Both.GF (by exact rfl) ?_ | refine Both.GN (by exact rfl) ?_); conv => whnf)
      rw [zagR_even hv hm0]
      exact h 1 (zag v) (b.drop n) 0 (rd_ok he rfl) (.inl rfl)
  · (conv => whnf); repeat ((first | (refine And.intro ?_ ?_; focus exact Cl3) | refine Both.T (by exact rfl) ?_ | refine Both.F (by exact rfl) ?_ | refine Both.GT (by exact rfl) (by exact rfl) ?_ | refine Both.GF (by exact rfl) ?_ | refine Both.GN (by exact rfl) ?_); conv => whnf)
    exact h 0 0 [] 3 (rd_err (by rw [he]) (by decide)) (.inr rfl)
  · (conv => whnf); repeat ((first | (refine And.intro ?_ ?_; focus exact Cl3) | refine Both.T (by exact rfl) ?_ | refine Both.F (by exact rfl) ?_ | refine Both.GT (by exact rfl) (by exact rfl) ?_ | refine Both.GF (by exact rfl) ?_ | refine Both.GN (by exact rfl) ?_); conv => whnf)
    exact h 0 0 [] 4 (rd_err (by rw [he]) (by decide)) (.inr rfl)
set_option maxHeartbeats 4000000 in
theorem takeTextR_spec (b : List UInt8) (z : Nat) (t : Bool) (most : Int) (hz : z = 1 ∨ b = []) (hb : b.length ≤ 1000000000) (Post : PV → List (Nat × Blk) → Prop)
    (h : ∀ z n r e, txt most b = (n, r, e) → (z = 1 ∨ r = []) → Post (.tup [.str n, .sl z (bs r) false true, .int .i64 e]) []) : Spec K 63 [.sl z (bs b) t true, .int .i64 most] [] Post := by
  refine is63.specW K_ok K_mix false (by simp) (by simp [keys]) ?_
  (conv => whnf); repeat ((first | (refine And.intro ?_ ?_; focus exact Cl3) | refine Both.T (by exact rfl) ?_ | refine Both.F (by exact rfl) ?_ | refine Both.GT (by exact rfl) (by exact rfl) ?_ | refine Both.GF (by exact rfl) ?_ | refine Both.GN (by exact rfl) ?_); conv => whnf)
  refine takeNumR_spec b z t hz hb _ (fun z' n r e he hz' => ?_)
  have hrl := rd_rest he
  have htx : txt most b = if e ≠ 0 then ([], [], e) else if n > most then ([], [], 5) else if n > r.length then ([], [], 3) else (r.take n.toNat, r.drop n.toNat, 0) := by rw [txt, he]
  have hz2 : z' = 1 ∨ bs r = [] := hz'.imp id fun h => by rw [h]; rfl
  by_cases he0 : e = 0
  · subst he0
    rw [if_neg (by decide)] at htx
    obtain ⟨hn0, hn1⟩ := num_pos he
    (conv => whnf); repeat ((first | (refine And.intro ?_ ?_; focus exact Cl3) | refine Both.T (by exact rfl) ?_ | refine Both.F (by exact rfl) ?_ | refine Both.GT (by exact rfl) (by exact rfl) ?_ | refine Both.GF (by exact rfl) ?_ | refine Both.GN (by exact rfl) ?_); conv => whnf)
    by_cases hm : most < n
    · rw [if_pos hm] at htx
      rw [decide_eq_true hm]
      (conv => whnf); repeat ((first | (refine And.intro ?_ ?_; focus exact Cl3) | refine Both.T (by exact rfl) ?_ | refine Both.F (by exact rfl) ?_ | refine Both.GT (by exact rfl) (by exact rfl) ?_ | refine Both.GF (by exact rfl) ?_ | refine Both.GN (by exact rfl) ?_); conv => whnf)
      exact h 0 [] [] 5 htx (.inr rfl)
    · rw [if_neg hm] at htx
      rw [decide_eq_false hm]
      (conv => whnf); repeat ((first | (refine And.intro ?_ ?_; focus exact Cl3) | refine Both.T (by exact rfl) ?_ | refine Both.F (by exact rfl) ?_ | refine Both.GT (by exact rfl) (by exact rfl) ?_ | refine Both.GF (by exact rfl) ?_ | refine Both.GN (by exact rfl) ?_); conv => whnf)
      rw [bs_len]
      by_cases hr : (r.length : Int) < n
      · rw [if_pos hr] at htx
        rw [decide_eq_true hr]
        (conv => whnf); repeat ((first | (refine And.intro ?_ ?_; focus exact Cl3) | refine Both.T (by exact rfl) ?_ | refine Both.F (by exact rfl) ?_ | refine Both.GT (by exact rfl) (by exact rfl) ?_ | refine Both.GF (by exact rfl) ?_ | refine Both.GN (by exact rfl) ?_); conv => whnf)
        exact h 0 [] [] 3 htx (.inr rfl)
      · rw [if_neg hr] at htx
        rw [decide_eq_false hr]
        have hb1 : True → (0 : Int) ≤ n ∧ n ≤ ((bs r).length : Int) := fun _ => ⟨hn0, by rw [bs_len]; omega⟩
        (conv => whnf); repeat ((first | (refine And.intro ?_ ?_; focus exact Cl3) | refine Both.T (by exact rfl) ?_ | refine Both.F (by exact rfl) ?_ | refine Both.GT (by exact rfl) (by exact rfl) ?_ | refine Both.GF (by exact rfl) ?_ | refine Both.GN (by exact rfl) ?_); conv => whnf)
        (conv => whnf); repeat' (first | ((first | (refine And.intro ?_ ?_; focus exact Cl3) | refine Both.T (by exact rfl) ?_ | refine Both.F (by exact rfl) ?_ | refine Both.GT (by exact rfl) (by exact rfl) ?_ | refine Both.GF (by exact rfl) ?_ | refine Both.GN (by exact rfl) ?_); conv => whnf) | (refine ⟨bs_int2 _ _ _, ?_⟩; conv => whnf) | ((rw [List.take_length, bs_drop]; refine copyB_spec (r.drop n.toNat) z' _ (by simp; omega) _ ?_); conv => whnf) | ((refine Both.mk ?_ ?_ <;> fail_if_success (intro _)) <;> conv => whnf))
        all_goals (
          rw [List.drop_zero, bs_take, str_bs]
          exact h 1 (r.take n.toNat) (r.drop n.toNat) 0 htx (.inl rfl))
  · have h1 : (e != 0) = true := by simpa using he0
    rw [if_pos he0] at htx
    (conv => whnf); repeat ((first | (refine And.intro ?_ ?_; focus exact Cl3) | refine Both.T (by exact rfl) ?_ | refine Both.F (by exact rfl) ?_ | refine Both.GT (by exact rfl) (by exact rfl) ?_ | refine Both.GF (by exact rfl) ?_ | refine Both.GN (by exact rfl) ?_); conv => whnf)
    rw [h1]
    (conv => whnf); repeat ((first | (refine And.intro ?_ ?_; focus exact Cl3) | refine Both.T (by exact rfl) ?_ | refine Both.F (by exact rfl) ?_ | refine Both.GT (by exact rfl) (by exact rfl) ?_ | refine Both.GF (by exact rfl) ?_ | refine Both.GN (by exact rfl) ?_); conv => whnf)
    exact h 0 [] [] e htx (.inr rfl)
end Go.Vc
namespace Go.Vc
open Go Go.Proofs
set_option maxRecDepth 100000
theorem takeP0 {n : Nat} {b : List UInt8} (h : ¬ b.length < n) : takeP n b = .ok (b.take n, b.drop n) := if_neg h
theorem takeP3 {n : Nat} {b : List UInt8} (h : b.length < n) : takeP n b = .error 3 := if_pos h
theorem rep0_bs (n : Nat) : List.replicate n (PV.int .u8 0) = bs (List.replicate n 0) := by simp [bs]
theorem zer_bs (n : Nat) : List.take ((n : Int)).toNat (List.drop 0 (List.replicate ((n : Int)).toNat (zeroElem K 5))) = bs (List.replicate n 0) := by
  rw [List.drop_zero, Int.toNat_natCast, List.take_of_length_le (by simp), ← rep0_bs]
  rfl
set_option maxHeartbeats 4000000 in
theorem some_m (z : Nat) (b : List UInt8) (t : Bool) (e : Int) (n : Nat) (he : e = 0 ∨ is345 e) (hz : z = 1 ∨ b = []) (hb : b.length ≤ 1000000000) (hn : n ≤ 1000) (Post : PV → List (Nat × Blk) → Prop)
    (h : ∀ s b' e', Out (lift e (takeP n b)) s b' e' → s.length = n → ∀ t', b'.length ≤ b.length → (z = 1 ∨ b' = []) → Post (.sl 1 (bs s) false true) (tp z b' t' e')) : Spec K 96 [.ptr 0 0, .int .i64 n] (tp z b t e) Post := by
  have hz2 : z = 1 ∨ bs b = [] := hz.imp id fun h => by rw [h]; rfl
  refine is96.specW K_ok K_mix false (by simp) (by simp [keys]) ?_
  rcases he with rfl | he
  · (conv => whnf); repeat ((first | (refine And.intro ?_ ?_; focus exact Cl3) | refine Both.T (by exact rfl) ?_ | refine Both.F (by exact rfl) ?_ | refine Both.GT (by exact rfl) (by exact rfl) ?_ | refine Both.GF (by exact rfl) ?_ | refine Both.GN (by exact rfl) ?_); conv => whnf)
    rw [bs_len]
    by_cases hl : b.length < n
    · rw [decide_eq_true (show (b.length : Int) < (n : Int) by omega)]
      (conv => whnf); repeat ((first | (refine And.intro ?_ ?_; focus exact Cl3) | refine Both.T (by exact rfl) ?_ | refine Both.F (by exact rfl) ?_ | refine Both.GT (by exact rfl) (by exact rfl) ?_ | refine Both.GF (by exact rfl) ?_ | refine Both.GN (by exact rfl) ?_); conv => whnf)
      have hby : (K.bytes 5 : Int) * (n : Int) ≤ 281474976710656 := by show (1 : Int) * n ≤ _; omega
      (conv => whnf); repeat ((first | (refine And.intro ?_ ?_; focus exact Cl4) | refine Both.T (by exact rfl) ?_ | refine Both.F (by exact rfl) ?_ | refine Both.GT (by exact rfl) (by exact rfl) ?_ | refine Both.GF (by exact rfl) ?_ | refine Both.GN (by exact rfl) ?_); conv => whnf)
      rw [zer_bs]
      exact h _ b 3 (.inr ⟨by rw [lift0, takeP3 hl], .inl rfl⟩) (by simp) t (Nat.le_refl _) hz
    · rw [decide_eq_false (show ¬ (b.length : Int) < (n : Int) by omega)]
      have hb1 : True → (0 : Int) ≤ (n : Int) ∧ (n : Int) ≤ ((bs b).length : Int) := fun _ => ⟨by omega, by rw [bs_len]; omega⟩
      (conv => whnf); repeat ((first | (refine And.intro ?_ ?_; focus exact Cl3) | refine Both.T (by exact rfl) ?_ | refine Both.F (by exact rfl) ?_ | refine Both.GT (by exact rfl) (by exact rfl) ?_ | refine Both.GF (by exact rfl) ?_ | refine Both.GN (by exact rfl) ?_); conv => whnf)
      rw [Int.toNat_natCast, List.drop_zero, bs_take]
      refine copyB_spec (b.take n) z _ (by simp; omega) _ ?_
      (conv => whnf); repeat ((first | (refine And.intro ?_ ?_; focus exact Cl4) | refine Both.T (by exact rfl) ?_ | refine Both.F (by exact rfl) ?_ | refine Both.GT (by exact rfl) (by exact rfl) ?_ | refine Both.GF (by exact rfl) ?_ | refine Both.GN (by exact rfl) ?_); conv => whnf)
      rw [Int.toNat_natCast, List.take_length, bs_drop]
      exact h (b.take n) (b.drop n) 0 (.inl ⟨by rw [lift0, takeP0 hl], rfl⟩) (by rw [List.length_take]; omega) _ (by simp) (hz.imp id fun h => by rw [h]; simp)
  · have h1 : (e == 0) = false := by simpa using is345_ne he
    have h2 : (e != 0) = true := by simpa using is345_ne he
    have hby : (K.bytes 5 : Int) * (n : Int) ≤ 281474976710656 := by show (1 : Int) * n ≤ _; omega
    (conv => whnf); repeat ((first | (refine And.intro ?_ ?_; focus exact Cl3) | refine Both.T (by exact rfl) ?_ | refine Both.F (by exact rfl) ?_ | refine Both.GT (by exact rfl) (by exact rfl) ?_ | refine Both.GF (by exact rfl) ?_ | refine Both.GN (by exact rfl) ?_); conv => whnf)
    rw [h1]
    (conv => whnf); repeat ((first | (refine And.intro ?_ ?_; focus exact Cl4) | refine Both.T (by exact rfl) ?_ | refine Both.F (by exact rfl) ?_ | refine Both.GT (by exact rfl) (by exact rfl) ?_ | refine Both.GF (by exact rfl) ?_ | refine Both.GN (by exact rfl) ?_); conv => whnf)
    rw [h2]
    (conv => whnf); repeat ((first | (refine And.intro ?_ ?_; focus exact Cl4) | refine Both.T (by exact rfl) ?_ | refine Both.F (by exact rfl) ?_ | refine Both.GT (by exact rfl) (by exact rfl) ?_ | refine Both.GF (by exact rfl) ?_ | refine Both.GN (by exact rfl) ?_); conv => whnf)
    rw [zer_bs]
    exact h _ b e (.inr ⟨liftE (is345_ne he) _, he⟩) (by simp) t (Nat.le_refl _) hz
theorem one_of {s : List UInt8} (h : s.length = 1) : ∃ x, s = [x] := by
  match s, h with
  | [x], _ => exact ⟨x, rfl⟩
theorem takeP1 {b s r : List UInt8} (h : takeP 1 b = .ok (s, r)) : ∃ x, s = [x] ∧ b = x :: r := by
  obtain ⟨h1, h2⟩ := takeP_ok h
  obtain ⟨x, rfl⟩ := one_of h2
  exact ⟨x, rfl, h1⟩
theorem cnt_of {most : Nat} {x : UInt8} {r : List UInt8} : cntP most (x :: r) = if most < x.toNat then .error 5 else .ok (x.toNat, r) := rfl
theorem cnt_of3 {most : Nat} {b : List UInt8} {e : Int} (h : takeP 1 b = .error e) : cntP most b = .error e := by
  cases b with
  | nil => cases h; rfl
  | cons c r => rw [takeP0 (by simp)] at h; cases h
set_option maxHeartbeats 4000000 in
theorem many_m (z : Nat) (b : List UInt8) (t : Bool) (e : Int) (most : Nat) (hm : most ≤ 1000) (he : e = 0 ∨ is345 e) (hz : z = 1 ∨ b = []) (hb : b.length ≤ 1000000000) (Post : PV → List (Nat × Blk) → Prop)
    (h : ∀ (n : Nat) b' e', Out (lift e (cntP most b)) n b' e' → n ≤ most → ∀ t', (e' ≠ 0 → n = 0) → b'.length ≤ b.length → (z = 1 ∨ b' = []) → Post (.int .i64 n) (tp z b' t' e')) : Spec K 97 [.ptr 0 0, .int .i64 most] (tp z b t e) Post := by
  refine is97.specW K_ok K_mix false (by simp) (by simp [keys]) ?_
  (conv => whnf); repeat ((first | (refine And.intro ?_ ?_; focus exact Cl3) | refine Both.T (by exact rfl) ?_ | refine Both.F (by exact rfl) ?_ | refine Both.GT (by exact rfl) (by exact rfl) ?_ | refine Both.GF (by exact rfl) ?_ | refine Both.GN (by exact rfl) ?_); conv => whnf)
  refine some_m z b t e 1 he hz hb (by omega) _ (fun s b2 e2 ho hs t2 hb2 hz2 => ?_)
  obtain ⟨x, rfl⟩ := one_of hs
  have hx := x.toNat_lt
  (conv => whnf); repeat ((first | (refine And.intro ?_ ?_; focus exact Cl4) | refine Both.T (by exact rfl) ?_ | refine Both.F (by exact rfl) ?_ | refine Both.GT (by exact rfl) (by exact rfl) ?_ | refine Both.GF (by exact rfl) ?_ | refine Both.GN (by exact rfl) ?_); conv => whnf)
  rw [wrap64 (n := (x.toNat : Int)) (by omega) (by omega)]
  rcases ho with ⟨ho, rfl⟩ | ⟨ho, he2⟩
  · have he0 : e = 0 := by
      by_cases h0 : e = 0
      · exact h0
      · rw [liftE h0] at ho; cases ho
    subst he0
    rw [lift0] at ho
    obtain ⟨x', hx', rfl⟩ := takeP1 ho
    cases hx'
    by_cases hmx : most < x.toNat
    · rw [decide_eq_true (show (most : Int) < (x.toNat : Int) by omega)]
      (conv => whnf); repeat ((first | (refine And.intro ?_ ?_; focus exact Cl4) | refine Both.T (by exact rfl) ?_ | refine Both.F (by exact rfl) ?_ | refine Both.GT (by exact rfl) (by exact rfl) ?_ | refine Both.GF (by exact rfl) ?_ | refine Both.GN (by exact rfl) ?_); conv => whnf)
      exact h 0 b2 5 (.inr ⟨by rw [lift0, cnt_of, if_pos hmx], .inr (.inr rfl)⟩) (Nat.zero_le _) _ (fun _ => rfl) hb2 hz2
    · rw [decide_eq_false (show ¬ (most : Int) < (x.toNat : Int) by omega)]
      (conv => whnf); repeat ((first | (refine And.intro ?_ ?_; focus exact Cl4) | refine Both.T (by exact rfl) ?_ | refine Both.F (by exact rfl) ?_ | refine Both.GT (by exact rfl) (by exact rfl) ?_ | refine Both.GF (by exact rfl) ?_ | refine Both.GN (by exact rfl) ?_); conv => whnf)
      exact h x.toNat b2 0 (.inl ⟨by rw [lift0, cnt_of, if_neg hmx], rfl⟩) (by omega) _ (fun h => absurd rfl h) hb2 hz2
  · have h1 : (e2 == 0) = false := by simpa using is345_ne he2
    have h2 : (e2 != 0) = true := by simpa using is345_ne he2
    rw [h1]
    (conv => whnf); repeat ((first | (refine And.intro ?_ ?_; focus exact Cl4) | refine Both.T (by exact rfl) ?_ | refine Both.F (by exact rfl) ?_ | refine Both.GT (by exact rfl) (by exact rfl) ?_ | refine Both.GF (by exact rfl) ?_ | refine Both.GN (by exact rfl) ?_); conv => whnf)
    rw [h2]
    (conv => whnf); repeat ((first | (refine And.intro ?_ ?_; focus exact Cl4) | refine Both.T (by exact rfl) ?_ | refine Both.F (by exact rfl) ?_ | refine Both.GT (by exact rfl) (by exact rfl) ?_ | refine Both.GF (by exact rfl) ?_ | refine Both.GN (by exact rfl) ?_); conv => whnf)
    refine h 0 b2 e2 (.inr ⟨?_, he2⟩) (Nat.zero_le _) _ (fun _ => rfl) hb2 hz2
    by_cases h0 : e = 0
    · subst h0
      rw [lift0] at ho ⊢
      exact cnt_of3 ho
    · rw [liftE h0] at ho ⊢
      cases ho; rfl
theorem text_of {m : Nat} {e : Int} {b : List UInt8} {k : Nat} {b1 : List UInt8} {e1 : Int} {s b2 : List UInt8} {e2 : Int} (h1 : Out (lift e (cntP m b)) k b1 e1) (h2 : Out (lift e1 (takeP k b1)) s b2 e2) : Out (lift e (textP m b)) s b2 e2 := by
  by_cases he : e = 0
  · subst he
    rw [lift0] at h1 ⊢
    unfold textP
    rcases h1 with ⟨h1, rfl⟩ | ⟨h1, hi⟩
    · rw [h1]
      exact h2
    · rw [h1]
      rw [liftE (is345_ne hi)] at h2
      rcases h2 with ⟨h2, _⟩ | ⟨h2, h3⟩
      · cases h2
      · cases h2; exact .inr ⟨rfl, h3⟩
  · rw [liftE he] at h1 ⊢
    rcases h1 with ⟨h1, _⟩ | ⟨h1, hi⟩
    · cases h1
    · cases h1
      rw [liftE he] at h2
      exact h2.map (fun h => by cases h) (fun e h => h)
end Go.Vc
