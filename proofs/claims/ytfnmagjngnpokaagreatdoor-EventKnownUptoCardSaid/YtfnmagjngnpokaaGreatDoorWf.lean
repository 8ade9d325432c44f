/- What is proved here: contracts of functions of the program: of each function what it hands back and what it leaves in memory. Conditions: those that each theorem names. -/
import Derived.Test.YtfnmagjngnpokaaGreatDoorWc
set_option linter.unusedVariables false
set_option linter.unusedSimpArgs false
set_option linter.unusedSectionVars false
namespace Go.Vc
open Go Go.Proofs
set_option maxRecDepth 100000
theorem fol_lt {v i : Nat} (hi : i ≤ 8) : (i < 8 ∧ 0 < v / 2 ^ (7 * (i + 1))) ↔ i < fol v := by
  obtain ⟨h1, h2⟩ := len_spec v
  have h3 : 0 < v / 2 ^ (7 * (i + 1)) ↔ 7 * (i + 1) < len v := by
    rw [Nat.div_pos_iff]
    constructor
    · intro h
      have : 2 ^ (7 * (i + 1)) < 2 ^ len v := by omega
      exact (Nat.pow_lt_pow_iff_right (by omega)).1 this
    · intro h
      rcases h2 with h2 | h2
      · omega
      · have : 2 ^ (7 * (i + 1)) ≤ 2 ^ (len v - 1) := Nat.pow_le_pow_right (by omega) (by omega)
        exact ⟨Nat.pos_of_ne_zero (by simp), by omega⟩
  rw [h3]
  unfold fol
  omega
theorem shrU (v i : Nat) (hi : i < 8) : Int.fdiv (v : Int) (2 ^ min (IntKind.i64.wrap (7 * IntKind.i64.wrap ((i : Int) + 1))).toNat IntKind.u64.bits) = ((v / 2 ^ (7 * (i + 1)) : Nat) : Int) := by
  have : IntKind.i64.wrap (7 * IntKind.i64.wrap ((i : Int) + 1)) = ((7 * (i + 1) : Nat) : Int) := by
    rw [wrap64 (n := (i : Int) + 1) (by omega) (by omega), wrap64 (by omega) (by omega)]; omega
  rw [this, Int.toNat_natCast]
  exact fd _ _ ((7 * (i + 1) : Nat) : Int) .u64 (by rw [Int.toNat_natCast, Nat.min_eq_left (by show _ ≤ 64; omega)])
theorem mark_eq : ∀ n, n < 8 → IntKind.u8.wrap (Int.fdiv 65280 (2 ^ min n IntKind.i64.bits)) = ((UInt8.ofNat (255 - 255 / 2 ^ n)).toNat : Int) := by decide +kernel
set_option maxHeartbeats 8000000 in
theorem bytesR_spec (v : Nat) (hv : v < 18446744073709551616) (Post : PV → List (Nat × Blk) → Prop) (h : Post (.ref 1 0 0 (1 + fol v)) [(0, .row 5 1 (bs (wr v)) false)]) : Spec K 69 [.int .u64 v] [] Post := by
  refine is69.spec K_ok K_mix true (by simp) (by simp [keys]) ?_
  have hf := fol_le v
  (conv => whnf); repeat ((first | (refine And.intro ?_ ?_; focus exact Cl3) | refine Both.T (by exact rfl) ?_ | refine Both.F (by exact rfl) ?_ | refine Both.GT (by exact rfl) (by exact rfl) ?_ | refine Both.GF (by exact rfl) ?_ | refine Both.GN (by exact rfl) ?_); conv => whnf)
  refine ⟨Nat, fun i => ⟨51, [(3, .int .i64 i), (2, .sl 0 [] true false), (0, .int .u64 v)], [], []⟩, fun i => i ≤ fol v, fun i => fol v - i, ⟨[], 0, Nat.zero_le _, ?_⟩, fun i hi => ?_⟩
  · simp [meets, ghosts, St.le, St.get, look, keys, PV.labs, labsL]
  · have hi : i ≤ fol v := hi
    conv => (arg 5; dsimp only)
    (conv => whnf); repeat ((first | (refine And.intro ?_ ?_; focus exact Cl3) | refine Both.T (by exact rfl) ?_ | refine Both.F (by exact rfl) ?_ | refine Both.GT (by exact rfl) (by exact rfl) ?_ | refine Both.GF (by exact rfl) ?_ | refine Both.GN (by exact rfl) ?_); conv => whnf)
    refine ⟨fun hg => ?_, ?_⟩
    · have : (i : Int) < 8 := by simpa using hg
      rw [wrap64 (n := (i : Int) + 1) (by omega) (by omega), wrap64 (by omega) (by omega)]; omega
    (conv => whnf); repeat ((first | (refine And.intro ?_ ?_; focus exact Cl3) | refine Both.T (by exact rfl) ?_ | refine Both.F (by exact rfl) ?_ | refine Both.GT (by exact rfl) (by exact rfl) ?_ | refine Both.GF (by exact rfl) ?_ | refine Both.GN (by exact rfl) ?_); conv => whnf)
    refine ⟨fun h1 => ?_, fun h1 => ?_⟩
    · have h8 : (i : Int) < 8 := by
        by_cases h8 : (i : Int) < 8
        · exact h8
        · simp [h8] at h1
      have h2 : 0 < v / 2 ^ (7 * (i + 1)) := by
        rw [shrU v i (by omega), decide_eq_true h8] at h1
        have := of_decide_eq_true h1
        omega
      have := (fol_lt (v := v) (by omega)).1 ⟨by omega, h2⟩
      (conv => whnf); repeat ((first | (refine And.intro ?_ ?_; focus exact Cl3) | refine Both.T (by exact rfl) ?_ | refine Both.F (by exact rfl) ?_ | refine Both.GT (by exact rfl) (by exact rfl) ?_ | refine Both.GF (by exact rfl) ?_ | refine Both.GN (by exact rfl) ?_); conv => whnf)
      rw [wrap64 (by omega) (by omega)]
      refine ⟨[], i + 1, this, by show fol v - (i + 1) < fol v - i; omega, ?_⟩
      simp [meets, ghosts, St.le, St.get, look, keys, PV.labs, labsL]
    · have hn : ¬ i < fol v := by
        intro hlt
        have h2 := (fol_lt (v := v) (i := i) (by omega)).2 hlt
        have h8 : (i : Int) < 8 := by omega
        rw [shrU v i (by omega), decide_eq_true h8] at h1
        have := of_decide_eq_false h1
        omega
      have hi' : i = fol v := by omega
      clear h1 hi hn
      subst hi'
      (conv => whnf); repeat ((first | (refine And.intro ?_ ?_; focus exact Cl3) | refine Both.T (by exact rfl) ?_ | refine Both.F (by exact rfl) ?_ | refine Both.GT (by exact rfl) (by exact rfl) ?_ | refine Both.GF (by exact rfl) ?_ | refine Both.GN (by exact rfl) ?_); conv => whnf)
      refine ⟨fun h1 => ?_, fun h1 => ?_⟩
      · have h8 : fol v = 8 := by have := h1; simp at this; omega
        rw [h8]
        (conv => whnf); repeat ((first | (refine And.intro ?_ ?_; focus exact Cl3) | refine Both.T (by exact rfl) ?_ | refine Both.F (by exact rfl) ?_ | refine Both.GT (by exact rfl) (by exact rfl) ?_ | refine Both.GF (by exact rfl) ?_ | refine Both.GN (by exact rfl) ?_); conv => whnf)
        refine ⟨Nat × List UInt8, fun x => ⟨51, [(5, .int .i64 ((x.1 : Int) - 1)), (4, .ref 1 1 0 x.2.length), (3, .int .i64 8), (2, .sl 0 [] true false), (0, .int .u64 v)], [(1, .row 5 1 (bs x.2) false)], []⟩,
            fun x => x.1 ≤ 8 ∧ x.2 ++ be x.1 v = [255] ++ be (8) v, fun x => x.1, ⟨[], (8, [255]), ⟨Nat.le_refl _, rfl⟩, ?_⟩, fun x hI => ?_⟩
        · simp [meets, ghosts, St.le, St.get, look, keys, PV.labs, labsL, lookB, Blk.labs, bs]
        · obtain ⟨j, acc⟩ := x
          obtain ⟨hj, hacc⟩ := hI
          simp only at hj hacc
          have hal := congrArg List.length hacc
          simp [be_len] at hal
          conv => (arg 5; dsimp only)
          (conv => whnf); repeat ((first | (refine And.intro ?_ ?_; focus exact Cl3) | refine Both.T (by exact rfl) ?_ | refine Both.F (by exact rfl) ?_ | refine Both.GT (by exact rfl) (by exact rfl) ?_ | refine Both.GF (by exact rfl) ?_ | refine Both.GN (by exact rfl) ?_); conv => whnf)
          refine ⟨fun h2 => ?_, fun h2 => ?_⟩
          · have h2' : 0 < j := by have := of_decide_eq_true h2; omega
            obtain ⟨j, rfl⟩ : ∃ k, j = k + 1 := ⟨j - 1, by omega⟩
            (conv => whnf); repeat ((first | (refine And.intro ?_ ?_; focus exact Cl3) | refine Both.T (by exact rfl) ?_ | refine Both.F (by exact rfl) ?_ | refine Both.GT (by exact rfl) (by exact rfl) ?_ | refine Both.GF (by exact rfl) ?_ | refine Both.GN (by exact rfl) ?_); conv => whnf)
            have e1 : IntKind.i64.wrap (8 * (((j + 1 : Nat) : Int) - 1)) = ((8 * j : Nat) : Int) := by rw [wrap64 (by omega) (by omega)]; omega
            rw [e1]
            refine ⟨fun _ => by omega, ?_⟩
            (conv => whnf); repeat ((first | (refine And.intro ?_ ?_; focus exact Cl3) | refine Both.T (by exact rfl) ?_ | refine Both.F (by exact rfl) ?_ | refine Both.GT (by exact rfl) (by exact rfl) ?_ | refine Both.GF (by exact rfl) ?_ | refine Both.GN (by exact rfl) ?_); conv => whnf)
            have e2 : Int.fdiv (v : Int) (2 ^ min (((8 * j : Nat) : Int)).toNat IntKind.u64.bits) = ((v / 256 ^ j : Nat) : Int) := by
              rw [fd _ (8 * j) _ .u64 (by rw [Int.toNat_natCast, Nat.min_eq_left (by show _ ≤ 64; omega)]), show (256 : Nat) = 2 ^ 8 from rfl, ← Nat.pow_mul]
            rw [e2]
            (conv => whnf); repeat ((first | (refine And.intro ?_ ?_; focus exact Cl3) | refine Both.T (by exact rfl) ?_ | refine Both.F (by exact rfl) ?_ | refine Both.GT (by exact rfl) (by exact rfl) ?_ | refine Both.GF (by exact rfl) ?_ | refine Both.GN (by exact rfl) ?_); conv => whnf)
            refine ⟨by show (_ + 1) * 2 ≤ _; omega, ?_⟩
            (conv => whnf); repeat ((first | (refine And.intro ?_ ?_; focus exact Cl3) | refine Both.T (by exact rfl) ?_ | refine Both.F (by exact rfl) ?_ | refine Both.GT (by exact rfl) (by exact rfl) ?_ | refine Both.GF (by exact rfl) ?_ | refine Both.GN (by exact rfl) ?_); conv => whnf)
            rw [wrapB, wrap64 (by omega) (by omega), List.take_of_length_le (l := bs acc) (by rw [bs_len]; omega), show List.take 1 (List.drop 0 [PV.int .u8 ((UInt8.ofNat (v / 256 ^ j)).toNat : Int)]) = bs [UInt8.ofNat (v / 256 ^ j)] from rfl, ← bs_app]
            refine ⟨[], (j, acc ++ [UInt8.ofNat (v / 256 ^ j)]), ⟨by show j ≤ _; omega, ?_⟩, by show j < j + 1; omega, ?_⟩
            · rw [← hacc, List.append_assoc]; rfl
            · simp [meets, ghosts, St.le, St.get, look, keys, PV.labs, labsL, lookB, Blk.labs, bs_len]
              try omega
          · have h2' : j = 0 := by have := of_decide_eq_false h2; omega
            subst h2'
            simp only [be, List.append_nil] at hacc
            subst hacc
            clear hal
            (conv => whnf); repeat ((first | (refine And.intro ?_ ?_; focus exact Cl3) | refine Both.T (by exact rfl) ?_ | refine Both.F (by exact rfl) ?_ | refine Both.GT (by exact rfl) (by exact rfl) ?_ | refine Both.GF (by exact rfl) ?_ | refine Both.GN (by exact rfl) ?_); conv => whnf)
            have e8 : wr v = [255] ++ be 8 v := by
              rw [wr, h8, Nat.div_eq_of_lt (show v < 256 ^ 8 by omega)]
              rfl
            rw [e8, h8] at h
            exact h
      · have h8 : ¬ fol v = 8 := by have := h1; simp at this; omega
        (conv => whnf); repeat ((first | (refine And.intro ?_ ?_; focus exact Cl3) | refine Both.T (by exact rfl) ?_ | refine Both.F (by exact rfl) ?_ | refine Both.GT (by exact rfl) (by exact rfl) ?_ | refine Both.GF (by exact rfl) ?_ | refine Both.GN (by exact rfl) ?_); conv => whnf)
        have e0 : (if (7 : Int) < (fol v : Int) then (7 : Int) else (fol v : Int)) = ((fol v : Int)) := by rw [if_neg (by omega)]
        rw [e0]
        refine ⟨Nat × List UInt8, fun x => ⟨51, [(5, .int .i64 ((x.1 : Int) - 1)), (4, .ref 1 0 0 x.2.length), (3, .int .i64 (fol v)), (2, .sl 0 [] true false), (0, .int .u64 v)], [(0, .row 5 1 (bs x.2) false)], []⟩,
            fun x => x.1 ≤ fol v + 1 ∧ x.2 ++ be x.1 v = ([] : List UInt8) ++ be (fol v + 1) v, fun x => x.1, ⟨[.slot 4 5], (fol v + 1, ([] : List UInt8)), ⟨Nat.le_refl _, rfl⟩, ?_⟩, fun x hI => ?_⟩
        · simp [meets, ghosts, ghost, St.le, St.get, St.put, look, keys, PV.labs, labsL, lookB, Blk.labs, bs, fresh]
          rfl
        · obtain ⟨j, acc⟩ := x
          obtain ⟨hj, hacc⟩ := hI
          simp only at hj hacc
          have hal := congrArg List.length hacc
          simp [be_len] at hal
          conv => (arg 5; dsimp only)
          (conv => whnf); repeat ((first | (refine And.intro ?_ ?_; focus exact Cl3) | refine Both.T (by exact rfl) ?_ | refine Both.F (by exact rfl) ?_ | refine Both.GT (by exact rfl) (by exact rfl) ?_ | refine Both.GF (by exact rfl) ?_ | refine Both.GN (by exact rfl) ?_); conv => whnf)
          refine ⟨fun h2 => ?_, fun h2 => ?_⟩
          · have h2' : 0 < j := by have := of_decide_eq_true h2; omega
            obtain ⟨j, rfl⟩ : ∃ k, j = k + 1 := ⟨j - 1, by omega⟩
            (conv => whnf); repeat ((first | (refine And.intro ?_ ?_; focus exact Cl3) | refine Both.T (by exact rfl) ?_ | refine Both.F (by exact rfl) ?_ | refine Both.GT (by exact rfl) (by exact rfl) ?_ | refine Both.GF (by exact rfl) ?_ | refine Both.GN (by exact rfl) ?_); conv => whnf)
            have e1 : IntKind.i64.wrap (8 * (((j + 1 : Nat) : Int) - 1)) = ((8 * j : Nat) : Int) := by rw [wrap64 (by omega) (by omega)]; omega
            rw [e1]
            refine ⟨fun _ => by omega, ?_⟩
            (conv => whnf); repeat ((first | (refine And.intro ?_ ?_; focus exact Cl3) | refine Both.T (by exact rfl) ?_ | refine Both.F (by exact rfl) ?_ | refine Both.GT (by exact rfl) (by exact rfl) ?_ | refine Both.GF (by exact rfl) ?_ | refine Both.GN (by exact rfl) ?_); conv => whnf)
            have e2 : Int.fdiv (v : Int) (2 ^ min (((8 * j : Nat) : Int)).toNat IntKind.u64.bits) = ((v / 256 ^ j : Nat) : Int) := by
              rw [fd _ (8 * j) _ .u64 (by rw [Int.toNat_natCast, Nat.min_eq_left (by show _ ≤ 64; omega)]), show (256 : Nat) = 2 ^ 8 from rfl, ← Nat.pow_mul]
            rw [e2]
            (conv => whnf); repeat ((first | (refine And.intro ?_ ?_; focus exact Cl3) | refine Both.T (by exact rfl) ?_ | refine Both.F (by exact rfl) ?_ | refine Both.GT (by exact rfl) (by exact rfl) ?_ | refine Both.GF (by exact rfl) ?_ | refine Both.GN (by exact rfl) ?_); conv => whnf)
            refine ⟨by show (_ + 1) * 2 ≤ _; omega, ?_⟩
            (conv => whnf); repeat ((first | (refine And.intro ?_ ?_; focus exact Cl3) | refine Both.T (by exact rfl) ?_ | refine Both.F (by exact rfl) ?_ | refine Both.GT (by exact rfl) (by exact rfl) ?_ | refine Both.GF (by exact rfl) ?_ | refine Both.GN (by exact rfl) ?_); conv => whnf)
            rw [wrapB, wrap64 (by omega) (by omega), List.take_of_length_le (l := bs acc) (by rw [bs_len]; omega), show List.take 1 (List.drop 0 [PV.int .u8 ((UInt8.ofNat (v / 256 ^ j)).toNat : Int)]) = bs [UInt8.ofNat (v / 256 ^ j)] from rfl, ← bs_app]
            refine ⟨[], (j, acc ++ [UInt8.ofNat (v / 256 ^ j)]), ⟨by show j ≤ _; omega, ?_⟩, by show j < j + 1; omega, ?_⟩
            · rw [← hacc, List.append_assoc]; rfl
            · simp [meets, ghosts, St.le, St.get, look, keys, PV.labs, labsL, lookB, Blk.labs, bs_len]
              try omega
          · have h2' : j = 0 := by have := of_decide_eq_false h2; omega
            subst h2'
            simp only [be, List.append_nil] at hacc
            subst hacc
            clear hal
            (conv => whnf); repeat ((first | (refine And.intro ?_ ?_; focus exact Cl3) | refine Both.T (by exact rfl) ?_ | refine Both.F (by exact rfl) ?_ | refine Both.GT (by exact rfl) (by exact rfl) ?_ | refine Both.GF (by exact rfl) ?_ | refine Both.GN (by exact rfl) ?_); conv => whnf)
            refine ⟨fun h5 => ?_, fun h5 => ?_⟩
            · (conv => whnf); repeat ((first | (refine And.intro ?_ ?_; focus exact Cl3) | refine Both.T (by exact rfl) ?_ | refine Both.F (by exact rfl) ?_ | refine Both.GT (by exact rfl) (by exact rfl) ?_ | refine Both.GF (by exact rfl) ?_ | refine Both.GN (by exact rfl) ?_); conv => whnf)
              have e3 : IntKind.u8.wrap (Int.fdiv 65280 (2 ^ min (fol v : Int).toNat IntKind.i64.bits)) = ((UInt8.ofNat (255 - 255 / 2 ^ fol v)).toNat : Int) := by
                rw [Int.toNat_natCast]; exact mark_eq _ (by omega)
              rw [e3, or8, show 0 + Int.toNat 0 = 0 from rfl, set_bs (by simp) rfl]
              have e4 : (([] : List UInt8) ++ UInt8.ofNat (v / 256 ^ fol v) :: be (fol v) v).length = 1 + fol v := by simp [be_len]; omega
              rw [e4]
              exact h
            · have := of_decide_eq_false h5; omega
theorem numR_spec (n : Int) (Post : PV → List (Nat × Blk) → Prop) (h1 : (n < 0 ∨ 9007199254740991 < n) → Post (.tup [.sl 0 [] true false, .int .i64 9]) [])
    (h2 : ∀ m : Nat, n = m → m ≤ 9007199254740991 → Post (.tup [.ref 1 0 0 (1 + fol m), .int .i64 0]) [(0, .row 5 1 (bs (wr m)) false)]) : Spec K 38 [.int .i64 n] [] Post := by
  refine is38.spec K_ok K_mix true (by simp) (by simp [keys]) ?_
  (conv => whnf); repeat ((first | (refine And.intro ?_ ?_; focus exact Cl3) | refine Both.T (by exact rfl) ?_ | refine Both.F (by exact rfl) ?_ | refine Both.GT (by exact rfl) (by exact rfl) ?_ | refine Both.GF (by exact rfl) ?_ | refine Both.GN (by exact rfl) ?_); conv => whnf)
  refine ⟨fun hc => ?_, fun hc => ?_⟩
  · (conv => whnf); repeat ((first | (refine And.intro ?_ ?_; focus exact Cl3) | refine Both.T (by exact rfl) ?_ | refine Both.F (by exact rfl) ?_ | refine Both.GT (by exact rfl) (by exact rfl) ?_ | refine Both.GF (by exact rfl) ?_ | refine Both.GN (by exact rfl) ?_); conv => whnf)
    exact h1 (by
      by_cases h0 : n < 0
      · exact .inl h0
      · rw [decide_eq_false h0] at hc
        exact .inr (of_decide_eq_true hc))
  · (conv => whnf); repeat ((first | (refine And.intro ?_ ?_; focus exact Cl3) | refine Both.T (by exact rfl) ?_ | refine Both.F (by exact rfl) ?_ | refine Both.GT (by exact rfl) (by exact rfl) ?_ | refine Both.GF (by exact rfl) ?_ | refine Both.GN (by exact rfl) ?_); conv => whnf)
    have hc' : ¬ n < 0 ∧ ¬ 9007199254740991 < n := by
      by_cases h0 : n < 0
      · rw [decide_eq_true h0] at hc; cases hc
      · rw [decide_eq_false h0] at hc
        exact ⟨h0, of_decide_eq_false hc⟩
    obtain ⟨m, rfl⟩ : ∃ m : Nat, n = m := ⟨n.toNat, by omega⟩
    rw [wrapU (by omega) (by omega)]
    refine bytesR_spec m (by omega) _ ?_
    (conv => whnf); repeat ((first | (refine And.intro ?_ ?_; focus exact Cl3) | refine Both.T (by exact rfl) ?_ | refine Both.F (by exact rfl) ?_ | refine Both.GT (by exact rfl) (by exact rfl) ?_ | refine Both.GF (by exact rfl) ?_ | refine Both.GN (by exact rfl) ?_); conv => whnf)
    exact h2 m rfl (by omega)
theorem intR_spec (n : Int) (hn : -9223372036854775808 ≤ n ∧ n ≤ 9223372036854775807) (Post : PV → List (Nat × Blk) → Prop)
    (h : Post (.ref 1 0 0 (1 + fol (zig n))) [(0, .row 5 1 (bs (wr (zig n))) false)]) : Spec K 40 [.int .i64 n] [] Post := by
  refine is40.spec K_ok K_mix true (by simp) (by simp [keys]) ?_
  (conv => whnf); repeat ((first | (refine And.intro ?_ ?_; focus exact Cl3) | refine Both.T (by exact rfl) ?_ | refine Both.F (by exact rfl) ?_ | refine Both.GT (by exact rfl) (by exact rfl) ?_ | refine Both.GF (by exact rfl) ?_ | refine Both.GN (by exact rfl) ?_); conv => whnf)
  have hz := zig_lt hn
  refine ⟨fun hc => ?_, fun hc => ?_⟩
  · have h0 : n < 0 := of_decide_eq_true hc
    (conv => whnf); repeat ((first | (refine And.intro ?_ ?_; focus exact Cl3) | refine Both.T (by exact rfl) ?_ | refine Both.F (by exact rfl) ?_ | refine Both.GT (by exact rfl) (by exact rfl) ?_ | refine Both.GF (by exact rfl) ?_ | refine Both.GN (by exact rfl) ?_); conv => whnf)
    have e : IntKind.u64.wrap (IntKind.u64.wrap (IntKind.u64.wrap (IntKind.i64.wrap (0 - IntKind.i64.wrap (n + 1))) * 2) + 1) = (zig n : Int) := by
      unfold zig
      rw [if_neg (by omega), wrap64 (n := n + 1) (by omega) (by omega), wrap64 (by omega) (by omega)]
      simp only [wrapUm]
      omega
    rw [e]
    refine bytesR_spec _ hz _ ?_
    (conv => whnf); repeat ((first | (refine And.intro ?_ ?_; focus exact Cl3) | refine Both.T (by exact rfl) ?_ | refine Both.F (by exact rfl) ?_ | refine Both.GT (by exact rfl) (by exact rfl) ?_ | refine Both.GF (by exact rfl) ?_ | refine Both.GN (by exact rfl) ?_); conv => whnf)
    exact h
  · have h0 : ¬ n < 0 := of_decide_eq_false hc
    (conv => whnf); repeat ((first | (refine And.intro ?_ ?_; focus exact Cl3) | refine Both.T (by exact rfl) ?_ | refine Both.F (by exact rfl) ?_ | refine Both.GT (by exact rfl) (by exact rfl) ?_ | refine Both.GF (by exact rfl) ?_ | refine Both.GN (by exact rfl) ?_); conv => whnf)
    have e : IntKind.u64.wrap (IntKind.u64.wrap n * 2) = (zig n : Int) := by
      unfold zig
      rw [if_pos (by omega)]
      simp only [wrapUm]
      omega
    rw [e]
    refine bytesR_spec _ hz _ ?_
    (conv => whnf); repeat ((first | (refine And.intro ?_ ?_; focus exact Cl3) | refine Both.T (by exact rfl) ?_ | refine Both.F (by exact rfl) ?_ | refine Both.GT (by exact rfl) (by exact rfl) ?_ | refine Both.GF (by exact rfl) ?_ | refine Both.GN (by exact rfl) ?_); conv => whnf)
    exact h
theorem textR_spec (s : List UInt8) (most : Int) (hs : s.length ≤ 1000000000) (Post : PV → List (Nat × Blk) → Prop) (h1 : most < s.length → Post (.tup [.sl 0 [] true false, .int .i64 5]) [])
    (h2 : (s.length : Int) ≤ most → Post (.tup [.ref 1 0 0 (1 + fol s.length + s.length), .int .i64 0]) [(0, .row 5 1 (bs (wr s.length ++ s)) false)]) : Spec K 41 [.str s, .int .i64 most] [] Post := by
  refine is41.spec K_ok K_mix true (by simp) (by simp [keys]) ?_
  (conv => whnf); repeat ((first | (refine And.intro ?_ ?_; focus exact Cl3) | refine Both.T (by exact rfl) ?_ | refine Both.F (by exact rfl) ?_ | refine Both.GT (by exact rfl) (by exact rfl) ?_ | refine Both.GF (by exact rfl) ?_ | refine Both.GN (by exact rfl) ?_); conv => whnf)
  refine numR_spec s.length _ (fun hb => by omega) fun m hm hm2 => ?_
  obtain rfl : s.length = m := by omega
  (conv => whnf); repeat ((first | (refine And.intro ?_ ?_; focus exact Cl3) | refine Both.T (by exact rfl) ?_ | refine Both.F (by exact rfl) ?_ | refine Both.GT (by exact rfl) (by exact rfl) ?_ | refine Both.GF (by exact rfl) ?_ | refine Both.GN (by exact rfl) ?_); conv => whnf)
  refine ⟨fun hc => ?_, fun hc => ?_⟩
  · have hc' : most < s.length := by simpa using hc
    (conv => whnf); repeat ((first | (refine And.intro ?_ ?_; focus exact Cl3) | refine Both.T (by exact rfl) ?_ | refine Both.F (by exact rfl) ?_ | refine Both.GT (by exact rfl) (by exact rfl) ?_ | refine Both.GF (by exact rfl) ?_ | refine Both.GN (by exact rfl) ?_); conv => whnf)
    exact h1 hc'
  · have hc' : ¬ most < s.length := by simpa using hc
    have hfl := fol_le s.length
    (conv => whnf); repeat ((first | (refine And.intro ?_ ?_; focus exact Cl3) | refine Both.T (by exact rfl) ?_ | refine Both.F (by exact rfl) ?_ | refine Both.GT (by exact rfl) (by exact rfl) ?_ | refine Both.GF (by exact rfl) ?_ | refine Both.GN (by exact rfl) ?_); conv => whnf)
    refine ⟨by rw [srcStr, bs_len]; show (1 + fol s.length + s.length) * 2 ≤ _; omega, ?_⟩
    (conv => whnf); repeat ((first | (refine And.intro ?_ ?_; focus exact Cl3) | refine Both.T (by exact rfl) ?_ | refine Both.F (by exact rfl) ?_ | refine Both.GT (by exact rfl) (by exact rfl) ?_ | refine Both.GF (by exact rfl) ?_ | refine Both.GN (by exact rfl) ?_); conv => whnf)
    rw [srcStr, bs_len, List.take_of_length_le (by rw [bs_len, wr_len]; omega), ← bs_app]
    exact h2 (by omega)
end Go.Vc
namespace Go.Vc
open Go Go.Proofs
set_option maxRecDepth 100000
theorem tk1 (x : PV) : List.take 1 (List.drop 0 [x]) = [x] := rfl
set_option maxHeartbeats 16000000 in
theorem writeR_spec (N : Nat) : ∀ (k n : Int) (s : List UInt8) (l : List V) (ns : List (List UInt8)), bulkV (.mk k n s l ns) ≤ N → N ≤ 100000000000 → ∀ (z1 z2 : Nat) (lp : List PV) (t1 t2 : Bool) (Post : PV → List (Nat × Blk) → Prop),
    VPs l lp → (z1 = 5 ∨ l = []) → (z2 = 1 ∨ ns = []) → allV (.mk k n s l ns) = true → Post (.sl 1 (bs (writeV (.mk k n s l ns))) false true) [] →
    Spec K 71 [.agg [.int .i64 k, .int .i64 n, .str s, .sl z1 lp t1 true, .sl z2 (strs ns) t2 true]] [] Post := by
  induction N with
  | zero => intro k n s l ns h; exact absurd (bulkV_pos (.mk k n s l ns)) (by omega)
  | succ N ih =>
    intro k n s l ns hs hN z1 z2 lp t1 t2 Post hl hz1 hz2 hall h
    have hz2' : z2 = 1 ∨ strs ns = [] := hz2.imp (fun h => h) fun h => by rw [h]; rfl
    have hlp := VPs_len hl
    have hz1' : z1 = 5 ∨ lp = [] := hz1.imp (fun h => h) fun h => by rw [h] at hlp; exact List.length_eq_zero_iff.1 hlp
    have hs' := hs
    simp only [bulkV] at hs'
    have hnb := nsBulk_le ns
    have hlb := len_sizeVs l
    have hsb := sizes_bulk l
    refine is71.specW K_ok K_mix false (by simp) (by simp [keys]) ?_
    (conv => whnf); repeat ((refine And.intro ?_ ?_; focus exact Cl2); conv => whnf)
    refine ⟨fun h1 => ?_, fun h1 => ?_⟩
    · obtain rfl : k = 1 := by simpa using h1
      (conv => whnf); repeat ((refine And.intro ?_ ?_; focus exact Cl2); conv => whnf)
      refine ⟨Nat, fun j => ⟨97, [(4, .int .i64 ((j : Int) - 1)), (3, .ref 1 1 0 (9 - j)), (1, .ptr 0 0)], [(0, .box [.int .i64 1, .int .i64 n, .str s, .sl z1 lp t1 true, .sl z2 (strs ns) t2 true]), (1, .row 5 1 (bs (ub 1 :: (be8 n).take (8 - j))) false)], []⟩,
        fun j => j ≤ 8, fun j => j, ⟨[], 8, Nat.le_refl _, ?_⟩, fun j hI => ?_⟩
      · simp [meets, ghosts, St.le, St.get, look, keys, PV.labs, labsL, lookB, Blk.labs, ub1]
      · have hI : j ≤ 8 := hI
        conv => (arg 5; dsimp only)
        (conv => whnf); repeat ((refine And.intro ?_ ?_; focus exact Cl2); conv => whnf)
        refine ⟨fun h2 => ?_, fun h2 => ?_⟩
        · have hj : 0 < j := by have := of_decide_eq_true h2; omega
          obtain ⟨j, rfl⟩ : ∃ i, j = i + 1 := ⟨j - 1, by omega⟩
          (conv => whnf); repeat ((refine And.intro ?_ ?_; focus exact Cl2); conv => whnf)
          have e1 : IntKind.i64.wrap (8 * (((j + 1 : Nat) : Int) - 1)) = ((8 * j : Nat) : Int) := by rw [wrap64 (by omega) (by omega)]; omega
          rw [e1]
          refine ⟨fun _ => by omega, ?_⟩
          (conv => whnf); repeat ((refine And.intro ?_ ?_; focus exact Cl2); conv => whnf)
          have e2 : n.fdiv (2 ^ min (((8 * j : Nat) : Int)).toNat IntKind.i64.bits) = n / 2 ^ (8 * (7 - (7 - j))) := by
            rw [Int.toNat_natCast, Nat.min_eq_left (by show _ ≤ 64; omega), Int.fdiv_eq_ediv_of_nonneg _ (Int.pow_nonneg (by omega)), show 7 - (7 - j) = j by omega]
          rw [e2]
          (conv => whnf); repeat ((refine And.intro ?_ ?_; focus exact Cl2); conv => whnf)
          refine ⟨by show (9 - (j + 1) + 1) * 2 ≤ _; omega, ?_⟩
          (conv => whnf); repeat ((refine And.intro ?_ ?_; focus exact Cl2); conv => whnf)
          rw [wrapub, wrap64 (by omega) (by omega), List.take_of_length_le (l := bs _) (by rw [bs_len]; simp [be8_len]; omega), tk1, show [PV.int .u8 ((ub (n / 2 ^ (8 * (7 - (7 - j))))).toNat : Int)] = bs [ub (n / 2 ^ (8 * (7 - (7 - j))))] from rfl, ← bs_app]
          have e3 := be8_take n (i := 7 - j) (by omega)
          rw [show 7 - j + 1 = 8 - j by omega] at e3
          refine ⟨[], j, by show j ≤ 8; omega, by show j < j + 1; omega, ?_⟩
          rw [show 8 - (j + 1) = 7 - j by omega, List.cons_append, ← e3, show 9 - (j + 1) + (bs [ub (n / 2 ^ (8 * (7 - (7 - j))))]).length = 9 - j by rw [bs_len]; show _ + 1 = _; omega]
          simp [meets, ghosts, St.le, St.get, look, keys, PV.labs, labsL, lookB, Blk.labs]
        · have hj : j = 0 := by have := of_decide_eq_false h2; omega
          subst hj
          (conv => whnf); repeat ((refine And.intro ?_ ?_; focus exact Cl2); conv => whnf)
          rw [List.take_of_length_le (by rw [List.drop_zero, bs_len]; simp [be8_len])]
          rw [List.drop_zero, List.take_of_length_le (l := be8 n) (by rw [be8_len]; omega)]
          simpa [writeV] using h
    · have h1' : k ≠ 1 := by simpa using h1
      (conv => whnf); repeat ((refine And.intro ?_ ?_; focus exact Cl2); conv => whnf)
      refine ⟨fun h2 => ?_, fun h2 => ?_⟩
      · obtain rfl : k = 2 := by simpa using h2
        (conv => whnf); repeat ((first | (refine And.intro ?_ ?_; focus exact Cl3) | refine Both.T (by exact rfl) ?_ | refine Both.F (by exact rfl) ?_ | refine Both.GT (by exact rfl) (by exact rfl) ?_ | refine Both.GF (by exact rfl) ?_ | refine Both.GN (by exact rfl) ?_); conv => whnf)
        simpa [writeV, wrapub, bs] using h
      · have h2' : k ≠ 2 := by simpa using h2
        (conv => whnf); repeat ((refine And.intro ?_ ?_; focus exact Cl2); conv => whnf)
        refine ⟨fun h3 => ?_, fun h3 => ?_⟩
        · obtain rfl : k = 6 := by simpa using h3
          (conv => whnf); repeat ((first | (refine And.intro ?_ ?_; focus exact Cl3) | refine Both.T (by exact rfl) ?_ | refine Both.F (by exact rfl) ?_ | refine Both.GT (by exact rfl) (by exact rfl) ?_ | refine Both.GF (by exact rfl) ?_ | refine Both.GN (by exact rfl) ?_); conv => whnf)
          simpa [writeV, wrapub, bs] using h
        · have h3' : k ≠ 6 := by simpa using h3
          (conv => whnf); repeat ((refine And.intro ?_ ?_; focus exact Cl2); conv => whnf)
          refine ⟨fun h4 => ?_, fun h4 => ?_⟩
          · obtain rfl : k = 3 := by simpa using h4
            (conv => whnf); repeat ((first | (refine And.intro ?_ ?_; focus exact Cl3) | refine Both.T (by exact rfl) ?_ | refine Both.F (by exact rfl) ?_ | refine Both.GT (by exact rfl) (by exact rfl) ?_ | refine Both.GF (by exact rfl) ?_ | refine Both.GN (by exact rfl) ?_); conv => whnf)
            refine ⟨by omega, rfl, ?_⟩
            (conv => whnf); repeat ((first | (refine And.intro ?_ ?_; focus exact Cl3) | refine Both.T (by exact rfl) ?_ | refine Both.F (by exact rfl) ?_ | refine Both.GT (by exact rfl) (by exact rfl) ?_ | refine Both.GF (by exact rfl) ?_ | refine Both.GN (by exact rfl) ?_); conv => whnf)
            refine ⟨by rw [srcStr, bs_len]; show (1 + 1 + s.length) * 2 ≤ _; omega, ?_⟩
            (conv => whnf); repeat ((first | (refine And.intro ?_ ?_; focus exact Cl3) | refine Both.T (by exact rfl) ?_ | refine Both.F (by exact rfl) ?_ | refine Both.GT (by exact rfl) (by exact rfl) ?_ | refine Both.GF (by exact rfl) ?_ | refine Both.GN (by exact rfl) ?_); conv => whnf)
            refine (congrArg (fun r => Post (.sl 1 r false true) []) ?_).mpr h
            simp [writeV, countedB, wrapub, bs]
            exact List.take_of_length_le (by simp; omega)
          · have h4' : k ≠ 3 := by simpa using h4
            simp only [allV, Bool.and_eq_true] at hall
            have halls := hall.2
            (conv => whnf); repeat ((refine And.intro ?_ ?_; focus exact Cl2); conv => whnf)
            refine ⟨fun h5 => ?_, fun h5 => ?_⟩
            · obtain rfl : k = 4 := by simpa using h5
              (conv => whnf); repeat ((first | (refine And.intro ?_ ?_; focus exact Cl3) | refine Both.T (by exact rfl) ?_ | refine Both.F (by exact rfl) ?_ | refine Both.GT (by exact rfl) (by exact rfl) ?_ | refine Both.GF (by exact rfl) ?_ | refine Both.GN (by exact rfl) ?_); conv => whnf)
              have hpost : Post (.sl 1 (bs (ub 4 :: ub l.length :: writeVs false l ns)) false true) [] := by simpa [writeV] using h
              refine ⟨Nat × List UInt8 × Bool, fun x => ⟨97, [(5, .int .i64 x.1), (3, .ref 1 1 0 (2 + x.2.1.length)), (1, .ptr 0 0)], [(0, .box [.int .i64 4, .int .i64 n, .str s, .sl z1 lp t1 true, .sl z2 (strs ns) t2 true]), (1, .row 5 1 (bs (ub 4 :: ub l.length :: x.2.1)) x.2.2)], []⟩,
                fun x => x.1 ≤ l.length ∧ x.2.1 ++ writeVs false (l.drop x.1) (ns.drop x.1) = writeVs false l ns, fun x => l.length - x.1, ⟨[], (0, [], false), ⟨Nat.zero_le _, rfl⟩, ?_⟩, fun x hI => ?_⟩
              · simp [meets, ghosts, St.le, St.get, look, keys, PV.labs, labsL, lookB, Blk.labs, hlp, wrapub, bs]
              · obtain ⟨i, acc, o⟩ := x
                obtain ⟨hi, hacc⟩ := hI
                simp only at hi hacc
                have hwt := writeVs_len false l ns
                have hal := congrArg List.length hacc
                simp only [List.length_append] at hal
                cases o <;> (
                  conv => (arg 5; dsimp only)
                  (conv => whnf); repeat ((first | (refine And.intro ?_ ?_; focus exact Cl3) | refine Both.T (by exact rfl) ?_ | refine Both.F (by exact rfl) ?_ | refine Both.GT (by exact rfl) (by exact rfl) ?_ | refine Both.GF (by exact rfl) ?_ | refine Both.GN (by exact rfl) ?_); conv => whnf)
                  rw [hlp]
                  refine ⟨fun h7 => ?_, fun h7 => ?_⟩
                  · have hix : i < l.length := by have := of_decide_eq_true h7; omega
                    have hdr : l.drop i = l[i] :: l.drop (i + 1) := List.drop_eq_getElem_cons hix
                    obtain ⟨y1, mp, u1, o1, y2, u2, o2, hp, hq, g1, g2, g3⟩ := (VPs_nth hl hix).out
                    have hbm := bulkVs_mem hix
                    have hwl := writeV_len l[i]
                    have halv := allVs_mem hix halls
                    rw [hdr, writeVs] at hacc
                    have hac2 := congrArg List.length hacc
                    simp only [List.length_append, cond_true, cond_false, List.headD_cons, List.tail_cons, List.length_nil] at hac2
                    have hbl : 2 + acc.length ≤ 3000000000000 := by omega
                    (conv => whnf); repeat ((first | (refine And.intro ?_ ?_; focus exact Cl3) | refine Both.T (by exact rfl) ?_ | refine Both.F (by exact rfl) ?_ | refine Both.GT (by exact rfl) (by exact rfl) ?_ | refine Both.GF (by exact rfl) ?_ | refine Both.GN (by exact rfl) ?_); conv => whnf)
                    refine ⟨fun _ => ⟨by omega, by rw [hlp]; omega⟩, ?_⟩
                    (conv => whnf); repeat ((first | (refine And.intro ?_ ?_; focus exact Cl3) | refine Both.T (by exact rfl) ?_ | refine Both.F (by exact rfl) ?_ | refine Both.GT (by exact rfl) (by exact rfl) ?_ | refine Both.GF (by exact rfl) ?_ | refine Both.GN (by exact rfl) ?_); conv => whnf)
                    rw [Int.toNat_natCast, hp]
                    (conv => whnf); repeat ((first | (refine And.intro ?_ ?_; focus exact Cl3) | refine Both.T (by exact rfl) ?_ | refine Both.F (by exact rfl) ?_ | refine Both.GT (by exact rfl) (by exact rfl) ?_ | refine Both.GF (by exact rfl) ?_ | refine Both.GN (by exact rfl) ?_); conv => whnf)
                    refine ih l[i].k l[i].n l[i].s l[i].l l[i].ns (by rw [V.eta]; omega) (by omega) y1 y2 mp u1 u2 _ hq g1 g2 (by rw [V.eta]; exact halv) ?_
                    rw [V.eta]
                    (conv => whnf); repeat ((first | (refine And.intro ?_ ?_; focus exact Cl3) | refine Both.T (by exact rfl) ?_ | refine Both.F (by exact rfl) ?_ | refine Both.GT (by exact rfl) (by exact rfl) ?_ | refine Both.GF (by exact rfl) ?_ | refine Both.GN (by exact rfl) ?_); conv => whnf)
                    refine ⟨by rw [bs_len]; show (2 + (acc).length + (writeV l[i]).length) * 2 ≤ _; simp only [countedB, List.length_append, List.length_cons] at *; omega, ?_⟩
                    (conv => whnf); repeat ((first | (refine And.intro ?_ ?_; focus exact Cl3) | refine Both.T (by exact rfl) ?_ | refine Both.F (by exact rfl) ?_ | refine Both.GT (by exact rfl) (by exact rfl) ?_ | refine Both.GF (by exact rfl) ?_ | refine Both.GN (by exact rfl) ?_); conv => whnf)
                    rw [List.take_of_length_le (l := bs _) (by rw [bs_len]; simp; omega), ← bs_app, bs_len, wrap64 (by omega) (by omega)]
                    refine ⟨[], (i + 1, acc ++ writeV l[i], true), ⟨hix, ?_⟩, by show l.length - (i + 1) < l.length - i; omega, ?_⟩
                    · rw [← hacc]
                      simp only [List.tail_drop, List.tail_cons, List.headD_cons, cond_true, cond_false, List.append_assoc, List.nil_append, List.append_nil]
                    · simp [meets, ghosts, St.le, St.get, look, keys, PV.labs, labsL, lookB, Blk.labs]
                      try omega
                  · have hix : i = l.length := by have := of_decide_eq_false h7; omega
                    simp only [hix, List.drop_length, writeVs, List.append_nil] at hacc
                    rw [← hacc] at hpost
                    (conv => whnf); repeat ((first | (refine And.intro ?_ ?_; focus exact Cl3) | refine Both.T (by exact rfl) ?_ | refine Both.F (by exact rfl) ?_ | refine Both.GT (by exact rfl) (by exact rfl) ?_ | refine Both.GF (by exact rfl) ?_ | refine Both.GN (by exact rfl) ?_); conv => whnf)
                    rw [List.drop_zero, List.take_of_length_le (by rw [bs_len]; simp; omega)]
                    exact hpost)
            · have h5' : k ≠ 4 := by simpa using h5
              (conv => whnf); repeat ((refine And.intro ?_ ?_; focus exact Cl2); conv => whnf)
              refine ⟨fun h6 => ?_, fun h6 => ?_⟩
              · obtain rfl : k = 5 := by simpa using h6
                have hnl : l.length = ns.length := by
                  have := hall.1
                  simp [ownB] at this
                  exact this.1.1.1.2
                (conv => whnf); repeat ((first | (refine And.intro ?_ ?_; focus exact Cl3) | refine Both.T (by exact rfl) ?_ | refine Both.F (by exact rfl) ?_ | refine Both.GT (by exact rfl) (by exact rfl) ?_ | refine Both.GF (by exact rfl) ?_ | refine Both.GN (by exact rfl) ?_); conv => whnf)
                have hpost : Post (.sl 1 (bs (ub 5 :: ub l.length :: writeVs true l ns)) false true) [] := by simpa [writeV] using h
                refine ⟨Nat × List UInt8 × Bool, fun x => ⟨97, [(5, .int .i64 x.1), (3, .ref 1 1 0 (2 + x.2.1.length)), (1, .ptr 0 0)], [(0, .box [.int .i64 5, .int .i64 n, .str s, .sl z1 lp t1 true, .sl z2 (strs ns) t2 true]), (1, .row 5 1 (bs (ub 5 :: ub l.length :: x.2.1)) x.2.2)], []⟩,
                  fun x => x.1 ≤ l.length ∧ x.2.1 ++ writeVs true (l.drop x.1) (ns.drop x.1) = writeVs true l ns, fun x => l.length - x.1, ⟨[], (0, [], false), ⟨Nat.zero_le _, rfl⟩, ?_⟩, fun x hI => ?_⟩
                · simp [meets, ghosts, St.le, St.get, look, keys, PV.labs, labsL, lookB, Blk.labs, hlp, wrapub, bs]
                · obtain ⟨i, acc, o⟩ := x
                  obtain ⟨hi, hacc⟩ := hI
                  simp only at hi hacc
                  have hwt := writeVs_len true l ns
                  have hal := congrArg List.length hacc
                  simp only [List.length_append] at hal
                  cases o <;> (
                    conv => (arg 5; dsimp only)
                    (conv => whnf); repeat ((first | (refine And.intro ?_ ?_; focus exact Cl3) | refine Both.T (by exact rfl) ?_ | refine Both.F (by exact rfl) ?_ | refine Both.GT (by exact rfl) (by exact rfl) ?_ | refine Both.GF (by exact rfl) ?_ | refine Both.GN (by exact rfl) ?_); conv => whnf)
                    rw [hlp]
                    refine ⟨fun h7 => ?_, fun h7 => ?_⟩
                    · have hix : i < l.length := by have := of_decide_eq_true h7; omega
                      have hdr : l.drop i = l[i] :: l.drop (i + 1) := List.drop_eq_getElem_cons hix
                      have hin : i < ns.length := by omega
                      have hdn : ns.drop i = ns[i] :: ns.drop (i + 1) := List.drop_eq_getElem_cons hin
                      have hnm := nsLen_mem hin
                      obtain ⟨y1, mp, u1, o1, y2, u2, o2, hp, hq, g1, g2, g3⟩ := (VPs_nth hl hix).out
                      have hbm := bulkVs_mem hix
                      have hwl := writeV_len l[i]
                      have halv := allVs_mem hix halls
                      rw [hdr, hdn, writeVs] at hacc
                      have hac2 := congrArg List.length hacc
                      simp only [List.length_append, cond_true, cond_false, List.headD_cons, List.tail_cons, List.length_nil] at hac2
                      have hbl : 2 + acc.length ≤ 3000000000000 := by omega
                      (conv => whnf); repeat ((first | (refine And.intro ?_ ?_; focus exact Cl3) | refine Both.T (by exact rfl) ?_ | refine Both.F (by exact rfl) ?_ | refine Both.GT (by exact rfl) (by exact rfl) ?_ | refine Both.GF (by exact rfl) ?_ | refine Both.GN (by exact rfl) ?_); conv => whnf)
                      refine ⟨fun _ => ⟨by omega, by rw [strs_len]; omega⟩, ?_⟩
                      (conv => whnf); repeat ((first | (refine And.intro ?_ ?_; focus exact Cl3) | refine Both.T (by exact rfl) ?_ | refine Both.F (by exact rfl) ?_ | refine Both.GT (by exact rfl) (by exact rfl) ?_ | refine Both.GF (by exact rfl) ?_ | refine Both.GN (by exact rfl) ?_); conv => whnf)
                      rw [Int.toNat_natCast, nth_strs hin]
                      (conv => whnf); repeat ((first | (refine And.intro ?_ ?_; focus exact Cl3) | refine Both.T (by exact rfl) ?_ | refine Both.F (by exact rfl) ?_ | refine Both.GT (by exact rfl) (by exact rfl) ?_ | refine Both.GF (by exact rfl) ?_ | refine Both.GN (by exact rfl) ?_); conv => whnf)
                      refine ⟨by show (2 + acc.length + 1) * 2 ≤ _; omega, ?_⟩
                      (conv => whnf); repeat ((first | (refine And.intro ?_ ?_; focus exact Cl3) | refine Both.T (by exact rfl) ?_ | refine Both.F (by exact rfl) ?_ | refine Both.GT (by exact rfl) (by exact rfl) ?_ | refine Both.GF (by exact rfl) ?_ | refine Both.GN (by exact rfl) ?_); conv => whnf)
                      refine ⟨fun _ => ⟨by omega, by rw [strs_len]; omega⟩, ?_⟩
                      (conv => whnf); repeat ((first | (refine And.intro ?_ ?_; focus exact Cl3) | refine Both.T (by exact rfl) ?_ | refine Both.F (by exact rfl) ?_ | refine Both.GT (by exact rfl) (by exact rfl) ?_ | refine Both.GF (by exact rfl) ?_ | refine Both.GN (by exact rfl) ?_); conv => whnf)
                      rw [Int.toNat_natCast, nth_strs hin]
                      (conv => whnf); repeat ((first | (refine And.intro ?_ ?_; focus exact Cl3) | refine Both.T (by exact rfl) ?_ | refine Both.F (by exact rfl) ?_ | refine Both.GT (by exact rfl) (by exact rfl) ?_ | refine Both.GF (by exact rfl) ?_ | refine Both.GN (by exact rfl) ?_); conv => whnf)
                      refine ⟨by omega, rfl, ?_⟩
                      (conv => whnf); repeat ((first | (refine And.intro ?_ ?_; focus exact Cl3) | refine Both.T (by exact rfl) ?_ | refine Both.F (by exact rfl) ?_ | refine Both.GT (by exact rfl) (by exact rfl) ?_ | refine Both.GF (by exact rfl) ?_ | refine Both.GN (by exact rfl) ?_); conv => whnf)
                      refine ⟨by rw [srcStr, bs_len]; show (2 + acc.length + 1 + ns[i].length) * 2 ≤ _; omega, ?_⟩
                      (conv => whnf); repeat ((first | (refine And.intro ?_ ?_; focus exact Cl3) | refine Both.T (by exact rfl) ?_ | refine Both.F (by exact rfl) ?_ | refine Both.GT (by exact rfl) (by exact rfl) ?_ | refine Both.GF (by exact rfl) ?_ | refine Both.GN (by exact rfl) ?_); conv => whnf)
                      rw [tk1, ub1, srcStr, List.take_of_length_le (l := bs _) (by rw [bs_len]; simp; omega), ← bs_app, List.take_of_length_le (l := bs _) (by rw [bs_len, bs_len]; simp; omega), ← bs_app, show 2 + acc.length + (bs [ub ns[i].length]).length + (bs ns[i]).length = 2 + (acc ++ countedB ns[i]).length by rw [bs_len, bs_len]; simp [countedB]; omega,
                        show (ub 5 :: ub l.length :: acc) ++ [ub ns[i].length] ++ ns[i] = ub 5 :: ub l.length :: (acc ++ countedB ns[i]) by simp [countedB]]
                      refine ⟨fun _ => ⟨by omega, by rw [hlp]; omega⟩, ?_⟩
                      (conv => whnf); repeat ((first | (refine And.intro ?_ ?_; focus exact Cl3) | refine Both.T (by exact rfl) ?_ | refine Both.F (by exact rfl) ?_ | refine Both.GT (by exact rfl) (by exact rfl) ?_ | refine Both.GF (by exact rfl) ?_ | refine Both.GN (by exact rfl) ?_); conv => whnf)
                      rw [Int.toNat_natCast, hp]
                      (conv => whnf); repeat ((first | (refine And.intro ?_ ?_; focus exact Cl3) | refine Both.T (by exact rfl) ?_ | refine Both.F (by exact rfl) ?_ | refine Both.GT (by exact rfl) (by exact rfl) ?_ | refine Both.GF (by exact rfl) ?_ | refine Both.GN (by exact rfl) ?_); conv => whnf)
                      refine ih l[i].k l[i].n l[i].s l[i].l l[i].ns (by rw [V.eta]; omega) (by omega) y1 y2 mp u1 u2 _ hq g1 g2 (by rw [V.eta]; exact halv) ?_
                      rw [V.eta]
                      (conv => whnf); repeat ((first | (refine And.intro ?_ ?_; focus exact Cl3) | refine Both.T (by exact rfl) ?_ | refine Both.F (by exact rfl) ?_ | refine Both.GT (by exact rfl) (by exact rfl) ?_ | refine Both.GF (by exact rfl) ?_ | refine Both.GN (by exact rfl) ?_); conv => whnf)
                      refine ⟨by rw [bs_len]; show (2 + ((acc ++ countedB ns[i])).length + (writeV l[i]).length) * 2 ≤ _; simp only [countedB, List.length_append, List.length_cons] at *; omega, ?_⟩
                      (conv => whnf); repeat ((first | (refine And.intro ?_ ?_; focus exact Cl3) | refine Both.T (by exact rfl) ?_ | refine Both.F (by exact rfl) ?_ | refine Both.GT (by exact rfl) (by exact rfl) ?_ | refine Both.GF (by exact rfl) ?_ | refine Both.GN (by exact rfl) ?_); conv => whnf)
                      rw [List.take_of_length_le (l := bs _) (by rw [bs_len]; simp; omega), ← bs_app, bs_len, wrap64 (by omega) (by omega)]
                      refine ⟨[], (i + 1, (acc ++ countedB ns[i]) ++ writeV l[i], true), ⟨hix, ?_⟩, by show l.length - (i + 1) < l.length - i; omega, ?_⟩
                      · rw [← hacc]
                        simp only [List.tail_drop, List.tail_cons, List.headD_cons, cond_true, cond_false, List.append_assoc, List.nil_append, List.append_nil]
                      · simp [meets, ghosts, St.le, St.get, look, keys, PV.labs, labsL, lookB, Blk.labs]
                        try omega
                    · have hix : i = l.length := by have := of_decide_eq_false h7; omega
                      simp only [hix, List.drop_length, writeVs, List.append_nil] at hacc
                      rw [← hacc] at hpost
                      (conv => whnf); repeat ((first | (refine And.intro ?_ ?_; focus exact Cl3) | refine Both.T (by exact rfl) ?_ | refine Both.F (by exact rfl) ?_ | refine Both.GT (by exact rfl) (by exact rfl) ?_ | refine Both.GF (by exact rfl) ?_ | refine Both.GN (by exact rfl) ?_); conv => whnf)
                      rw [List.drop_zero, List.take_of_length_le (by rw [bs_len]; simp; omega)]
                      exact hpost)
              · have h6' : k ≠ 5 := by simpa using h6
                (conv => whnf); repeat ((refine And.intro ?_ ?_; focus exact Cl2); conv => whnf)
                rw [wrapub]
                simpa [writeV, h1', h2', h3', h4', h5', h6', bs] using h
end Go.Vc
