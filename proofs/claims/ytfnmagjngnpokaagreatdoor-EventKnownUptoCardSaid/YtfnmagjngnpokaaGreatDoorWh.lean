/- What is proved here: contracts of functions of the program: of each function what it hands back and what it leaves in memory. Conditions: those that each theorem names. -/
import Derived.Test.YtfnmagjngnpokaaGreatDoorWg
set_option linter.unusedVariables false
set_option linter.unusedSimpArgs false
set_option linter.unusedSectionVars false
namespace Go.Vc
open Go Go.Proofs
set_option maxRecDepth 100000
set_option maxHeartbeats 64000000 in
theorem evBytesR_spec (e : EV) (z1 z2 : Nat) (lp : List PV) (t1 t2 : Bool) (Post : PV → List (Nat × Blk) → Prop) (a : EA e z1 lp z2)
    (h1 : evOk e = true → Post (.tup [.sl 1 (bs (evBytes e)) false true, .int .i64 0]) []) (h2 : evOk e = false → Post (.tup [.sl 0 [] false true, .int .i64 2]) []) :
    Spec K 24 [.agg (ec e z1 lp t1 z2 t2)] [] Post := by
  obtain ⟨k, flow, id, n, s, v⟩ := e
  have av := a.v
  have as1 := a.s
  have an := a.n
  simp only [ec] at *
  refine is24.specW K_ok K_mix false (by simp) (by simp [keys]) ?_
  (conv => whnf); repeat ((first | (refine And.intro ?_ ?_; focus exact Cl3) | refine Both.T (by exact rfl) ?_ | refine Both.F (by exact rfl) ?_ | refine Both.GT (by exact rfl) (by exact rfl) ?_ | refine Both.GF (by exact rfl) ?_ | refine Both.GN (by exact rfl) ?_); conv => whnf)
  refine evCheckR_spec' ⟨k, flow, id, n, s, v⟩ z1 z2 lp t1 t2 _ a ?_
  cases ho : evOk ⟨k, flow, id, n, s, v⟩
  case false =>
    (conv => whnf); repeat ((first | (refine And.intro ?_ ?_; focus exact Cl3) | refine Both.T (by exact rfl) ?_ | refine Both.F (by exact rfl) ?_ | refine Both.GT (by exact rfl) (by exact rfl) ?_ | refine Both.GF (by exact rfl) ?_ | refine Both.GN (by exact rfl) ?_); conv => whnf)
    exact h2 ho
  have h := h1 ho
  clear h1 h2
  simp only [evOk, Bool.and_eq_true] at ho
  obtain ⟨⟨⟨hk, hf⟩, hm⟩, he⟩ := ho
  have hf2 : 1 ≤ flow ∧ flow ≤ 8 := by simpa [wi] using hf
  (conv => whnf); repeat ((first | (refine And.intro ?_ ?_; focus exact Cl3) | refine Both.T (by exact rfl) ?_ | refine Both.F (by exact rfl) ?_ | refine Both.GT (by exact rfl) (by exact rfl) ?_ | refine Both.GF (by exact rfl) ?_ | refine Both.GN (by exact rfl) ?_); conv => whnf)
  refine numR_ok flow (by omega) (by omega) _ ?_
  (conv => whnf); repeat ((first | (refine And.intro ?_ ?_; focus exact Cl3) | refine Both.T (by exact rfl) ?_ | refine Both.F (by exact rfl) ?_ | refine Both.GT (by exact rfl) (by exact rfl) ?_ | refine Both.GF (by exact rfl) ?_ | refine Both.GN (by exact rfl) ?_); conv => whnf)
  have hw : ∀ m, (wr m).length ≤ 9 := fun m => by have := fol_le m; rw [wr_len]; omega
  rw [tkw, bs_len]
  refine ⟨by have := hw flow.toNat; show (2 + _) * 2 ≤ _; omega, ?_⟩
  (conv => whnf); repeat ((first | (refine And.intro ?_ ?_; focus exact Cl3) | refine Both.T (by exact rfl) ?_ | refine Both.F (by exact rfl) ?_ | refine Both.GT (by exact rfl) (by exact rfl) ?_ | refine Both.GF (by exact rfl) ?_ | refine Both.GN (by exact rfl) ?_); conv => whnf)
  refine has_spec k hk _ ?_
  have e0 : List.take 2 [PV.int .u8 1, PV.int .u8 (IntKind.u8.wrap k)] ++ bs (wr flow.toNat) = bs (1 :: ub k :: wr flow.toNat) := by rw [wrapub]; rfl
  obtain ⟨X, hX⟩ : ∃ X, X = 1 :: ub k :: wr flow.toNat := ⟨_, rfl⟩
  have hXl : X.length ≤ 11 := by have := hw flow.toNat; rw [hX]; simp; omega
  rw [e0, show 2 + (wr flow.toNat).length = (1 :: ub k :: wr flow.toNat).length by simp; omega, ← hX]
  have hnum := evB_num he
  have hid := num_id (k := k) (id := id) (n := n) hk
  have hsl := evB_s (k := k) (id := id) (n := n) (s := s) (v := v) hk
  have hX2 : evBytes ⟨k, flow, id, n, s, v⟩ = X ++ (bif bitsI .and .i64 (hasI k) 1 != 0 then wr id.toNat else []) ++ (bif bitsI .and .i64 (hasI k) 2 != 0 then wr (zig n) else []) ++
      (bif bitsI .and .i64 (hasI k) 4 != 0 then wr s.length ++ s else []) ++ (bif bitsI .and .i64 (hasI k) 8 != 0 then writeV v else []) := by rw [hX]; rfl
  rw [hX2] at h
  clear hX hX2 e0
  have hvl := writeV_len v
  have hvb := av.b
  have hwi := hw id.toNat
  have hwn := hw (zig n)
  have hws := hw s.length
  (conv => whnf); repeat ((first | (refine And.intro ?_ ?_; focus exact Cl3) | refine Both.T (by exact rfl) ?_ | refine Both.F (by exact rfl) ?_ | refine Both.GT (by exact rfl) (by exact rfl) ?_ | refine Both.GF (by exact rfl) ?_ | refine Both.GN (by exact rfl) ?_); conv => whnf)
  rcases kinds hk with rfl | rfl | rfl | rfl | rfl | rfl | rfl | rfl | rfl | rfl | rfl | rfl | rfl | rfl | rfl
  all_goals ((conv => whnf); repeat ((first | (refine And.intro ?_ ?_; focus exact Cl3) | refine Both.T (by exact rfl) ?_ | refine Both.F (by exact rfl) ?_ | refine Both.GT (by exact rfl) (by exact rfl) ?_ | refine Both.GF (by exact rfl) ?_ | refine Both.GN (by exact rfl) ?_); conv => whnf))
  all_goals try (
    refine numR_ok id (hid rfl hnum).1 (hid rfl hnum).2 _ ?_
    (conv => whnf); repeat ((first | (refine And.intro ?_ ?_; focus exact Cl3) | refine Both.T (by exact rfl) ?_ | refine Both.F (by exact rfl) ?_ | refine Both.GT (by exact rfl) (by exact rfl) ?_ | refine Both.GF (by exact rfl) ?_ | refine Both.GN (by exact rfl) ?_); conv => whnf)
    rw [tkw, bs_len]
    refine ⟨by show (X.length + _) * 2 ≤ _; omega, ?_⟩
    (conv => whnf); repeat ((first | (refine And.intro ?_ ?_; focus exact Cl3) | refine Both.T (by exact rfl) ?_ | refine Both.F (by exact rfl) ?_ | refine Both.GT (by exact rfl) (by exact rfl) ?_ | refine Both.GF (by exact rfl) ?_ | refine Both.GN (by exact rfl) ?_); conv => whnf)
    rw [tka, ← bs_app, ← List.length_append])
  all_goals try (
    refine intR_spec n an _ ?_
    (conv => whnf); repeat ((first | (refine And.intro ?_ ?_; focus exact Cl3) | refine Both.T (by exact rfl) ?_ | refine Both.F (by exact rfl) ?_ | refine Both.GT (by exact rfl) (by exact rfl) ?_ | refine Both.GF (by exact rfl) ?_ | refine Both.GN (by exact rfl) ?_); conv => whnf)
    rw [tkw, bs_len]
    refine ⟨by show (_ + _) * 2 ≤ _; (try simp only [List.length_append]); omega, ?_⟩
    (conv => whnf); repeat ((first | (refine And.intro ?_ ?_; focus exact Cl3) | refine Both.T (by exact rfl) ?_ | refine Both.F (by exact rfl) ?_ | refine Both.GT (by exact rfl) (by exact rfl) ?_ | refine Both.GF (by exact rfl) ?_ | refine Both.GN (by exact rfl) ?_); conv => whnf)
    rw [tka, ← bs_app, ← List.length_append])
  all_goals try (
    have hs16 := hsl rfl he
    refine textR_spec s 16 (by omega) _ (fun hb => by omega) (fun _ => ?_)
    (conv => whnf); repeat ((first | (refine And.intro ?_ ?_; focus exact Cl3) | refine Both.T (by exact rfl) ?_ | refine Both.F (by exact rfl) ?_ | refine Both.GT (by exact rfl) (by exact rfl) ?_ | refine Both.GF (by exact rfl) ?_ | refine Both.GN (by exact rfl) ?_); conv => whnf)
    rw [tkt, bs_len]
    refine ⟨by show (_ + _) * 2 ≤ _; (try simp only [List.length_append]); omega, ?_⟩
    (conv => whnf); repeat ((first | (refine And.intro ?_ ?_; focus exact Cl3) | refine Both.T (by exact rfl) ?_ | refine Both.F (by exact rfl) ?_ | refine Both.GT (by exact rfl) (by exact rfl) ?_ | refine Both.GF (by exact rfl) ?_ | refine Both.GN (by exact rfl) ?_); conv => whnf)
    rw [tka, ← bs_app, ← List.length_append])
  all_goals try (
    refine valueBytesR_spec v z1 z2 lp t1 t2 _ av (fun _ => ?_) (fun hc => by rw [hm] at hc; cases hc)
    (conv => whnf); repeat ((first | (refine And.intro ?_ ?_; focus exact Cl3) | refine Both.T (by exact rfl) ?_ | refine Both.F (by exact rfl) ?_ | refine Both.GT (by exact rfl) (by exact rfl) ?_ | refine Both.GF (by exact rfl) ?_ | refine Both.GN (by exact rfl) ?_); conv => whnf)
    rw [bs_len]
    refine ⟨by show (_ + _) * 2 ≤ _; (try simp only [List.length_append]); omega, ?_⟩
    (conv => whnf); repeat ((first | (refine And.intro ?_ ?_; focus exact Cl3) | refine Both.T (by exact rfl) ?_ | refine Both.F (by exact rfl) ?_ | refine Both.GT (by exact rfl) (by exact rfl) ?_ | refine Both.GF (by exact rfl) ?_ | refine Both.GN (by exact rfl) ?_); conv => whnf)
    rw [tka, ← bs_app, ← List.length_append])
  all_goals try rw [List.drop_zero, tka]
  all_goals (
    refine (congrArg (fun r => Post (.tup [.sl 1 (bs r) false true, .int .i64 0]) []) ?_).mpr h
    simp [hasI, b15_1, eb15_1, gb15_1, b15_2, eb15_2, gb15_2, b15_4, eb15_4, gb15_4, b15_8, eb15_8, gb15_8, b13_1, eb13_1, gb13_1, b13_2, eb13_2, gb13_2, b13_4, eb13_4, gb13_4, b13_8, eb13_8, gb13_8, b3_1, eb3_1, gb3_1, b3_2, eb3_2, gb3_2, b3_4, eb3_4, gb3_4, b3_8, eb3_8, gb3_8, b9_1, eb9_1, gb9_1, b9_2, eb9_2, gb9_2, b9_4, eb9_4, gb9_4, b9_8, eb9_8, gb9_8, b11_1, eb11_1, gb11_1, b11_2, eb11_2, gb11_2, b11_4, eb11_4, gb11_4, b11_8, eb11_8, gb11_8, b1_1, eb1_1, gb1_1, b1_2, eb1_2, gb1_2, b1_4, eb1_4, gb1_4, b1_8, eb1_8, gb1_8, b5_1, eb5_1, gb5_1, b5_2, eb5_2, gb5_2, b5_4, eb5_4, gb5_4, b5_8, eb5_8, gb5_8, b12_1, eb12_1, gb12_1, b12_2, eb12_2, gb12_2, b12_4, eb12_4, gb12_4, b12_8, eb12_8, gb12_8, b0_1, eb0_1, gb0_1, b0_2, eb0_2, gb0_2, b0_4, eb0_4, gb0_4, b0_8, eb0_8, gb0_8, b10_1, eb10_1, gb10_1, b10_2, eb10_2, gb10_2, b10_4, eb10_4, gb10_4, b10_8, eb10_8, gb10_8])
end Go.Vc
