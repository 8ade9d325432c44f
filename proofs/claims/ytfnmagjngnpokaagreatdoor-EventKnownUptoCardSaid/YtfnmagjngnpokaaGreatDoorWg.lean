/- What is proved here: contracts of functions of the program: of each function what it hands back and what it leaves in memory. Conditions: those that each theorem names. -/
import Derived.Test.YtfnmagjngnpokaaGreatDoorWe
import Derived.Test.YtfnmagjngnpokaaGreatDoorWf
set_option linter.unusedVariables false
set_option linter.unusedSimpArgs false
set_option linter.unusedSectionVars false
namespace Go.Vc
open Go Go.Proofs
set_option maxRecDepth 100000
theorem tkw (m : Nat) : List.take (1 + fol m) (List.drop 0 (bs (wr m))) = bs (wr m) := by
  rw [List.drop_zero, List.take_of_length_le (by rw [bs_len, wr_len]; omega)]
theorem tka (a : List UInt8) : List.take a.length (bs a) = bs a := List.take_of_length_le (by rw [bs_len]; omega)
theorem valueBytesR_spec (v : V) (z1 z2 : Nat) (lp : List PV) (t1 t2 : Bool) (Post : PV → List (Nat × Blk) → Prop) (a : VA v z1 lp z2)
    (h1 : mayV v = true → Post (.tup [.sl 1 (bs (writeV v)) false true, .int .i64 0]) []) (h2 : mayV v = false → Post (.tup [.sl 0 [] false true, .int .i64 2]) []) :
    Spec K 42 [.agg (vc v z1 lp t1 z2 t2)] [] Post := by
  refine is42.specW K_ok K_mix false (by simp) (by simp [keys]) ?_
  (conv => whnf); repeat ((first | (refine And.intro ?_ ?_; focus exact Cl3) | refine Both.T (by exact rfl) ?_ | refine Both.F (by exact rfl) ?_ | refine Both.GT (by exact rfl) (by exact rfl) ?_ | refine Both.GF (by exact rfl) ?_ | refine Both.GN (by exact rfl) ?_); conv => whnf)
  refine may_spec v z1 z2 lp t1 t2 _ a ?_
  cases hm : mayV v
  · (conv => whnf); repeat ((first | (refine And.intro ?_ ?_; focus exact Cl3) | refine Both.T (by exact rfl) ?_ | refine Both.F (by exact rfl) ?_ | refine Both.GT (by exact rfl) (by exact rfl) ?_ | refine Both.GF (by exact rfl) ?_ | refine Both.GN (by exact rfl) ?_); conv => whnf)
    exact h2 hm
  · (conv => whnf); repeat ((first | (refine And.intro ?_ ?_; focus exact Cl3) | refine Both.T (by exact rfl) ?_ | refine Both.F (by exact rfl) ?_ | refine Both.GT (by exact rfl) (by exact rfl) ?_ | refine Both.GF (by exact rfl) ?_ | refine Both.GN (by exact rfl) ?_); conv => whnf)
    refine writeR_spec 100000000000 v.k v.n v.s v.l v.ns (by rw [V.eta]; exact a.b) (by omega) z1 z2 lp t1 t2 _ a.l a.z1 a.z2 (by rw [V.eta]; exact allV_of hm) ?_
    rw [V.eta]
    (conv => whnf); repeat ((first | (refine And.intro ?_ ?_; focus exact Cl3) | refine Both.T (by exact rfl) ?_ | refine Both.F (by exact rfl) ?_ | refine Both.GT (by exact rfl) (by exact rfl) ?_ | refine Both.GF (by exact rfl) ?_ | refine Both.GN (by exact rfl) ?_); conv => whnf)
    exact h1 hm
/-- The bytes of an event. -/
def evBytes (e : EV) : List UInt8 :=
  [1, ub e.kind] ++ wr e.flow.toNat ++ (bif bitsI .and .i64 (hasI e.kind) 1 != 0 then wr e.id.toNat else []) ++ (bif bitsI .and .i64 (hasI e.kind) 2 != 0 then wr (zig e.n) else []) ++
  (bif bitsI .and .i64 (hasI e.kind) 4 != 0 then wr e.s.length ++ e.s else []) ++ (bif bitsI .and .i64 (hasI e.kind) 8 != 0 then writeV e.v else [])
theorem evB_num {k id n : Int} {s : List UInt8} {v : V} (h : evB k id n s v = true) : numB k id n = true := by
  unfold evB at h
  rw [Bool.and_eq_true] at h
  exact h.2
theorem num_id {k id n : Int} (hk : wi k 1 15 = true) (hb : (bitsI .and .i64 (hasI k) 1 != 0) = true) (h : numB k id n = true) : 0 ≤ id ∧ id ≤ 9007199254740991 := by
  rcases kinds hk with rfl | rfl | rfl | rfl | rfl | rfl | rfl | rfl | rfl | rfl | rfl | rfl | rfl | rfl | rfl
  all_goals first
  | exact absurd hb (by decide)
  | (simp [numB, wi] at h; omega)
theorem evB_s {k id n : Int} {s : List UInt8} {v : V} (hk : wi k 1 15 = true) (hb : (bitsI .and .i64 (hasI k) 4 != 0) = true) (h : evB k id n s v = true) : s.length ≤ 16 := by
  have : isName s = true := by
    rcases kinds hk with rfl | rfl | rfl | rfl | rfl | rfl | rfl | rfl | rfl | rfl | rfl | rfl | rfl | rfl | rfl
    all_goals first
    | exact absurd hb (by decide)
    | (simp [evB] at h; simp [h])
  simp [isName] at this
  exact this.1.2
theorem tkt (s : List UInt8) : List.take (1 + fol s.length + s.length) (List.drop 0 (bs (wr s.length ++ s))) = bs (wr s.length ++ s) := by
  rw [List.drop_zero, List.take_of_length_le (by rw [bs_len, List.length_append, wr_len]; omega)]
theorem numR_ok (n : Int) (h0 : 0 ≤ n) (h1 : n ≤ 9007199254740991) (Post : PV → List (Nat × Blk) → Prop) (h : Post (.tup [.ref 1 0 0 (1 + fol n.toNat), .int .i64 0]) [(0, .row 5 1 (bs (wr n.toNat)) false)]) : Spec K 38 [.int .i64 n] [] Post := by
  refine numR_spec n _ (fun hb => by omega) fun m hm _ => ?_
  obtain rfl : n.toNat = m := by omega
  exact h
theorem num_ok (n : Int) (h0 : 0 ≤ n) (h1 : n ≤ 9007199254740991) (Post : PV → List (Nat × Blk) → Prop) (h : Post (.tup [.ref 1 0 0 (1 + fol n.toNat), .int .i64 0]) [(0, .row 5 1 (bs (wr n.toNat)) false)]) : Spec K 16 [.int .i64 n] [] Post := by
  refine num_spec n (by omega) _ (fun hb => by omega) fun m hm _ => ?_
  obtain rfl : n.toNat = m := by omega
  exact h
end Go.Vc
