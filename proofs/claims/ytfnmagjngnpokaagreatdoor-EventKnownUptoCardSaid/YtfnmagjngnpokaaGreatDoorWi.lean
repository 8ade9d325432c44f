/- What is proved here: contracts of functions of the program: of each function what it hands back and what it leaves in memory. Conditions: those that each theorem names. -/
import Derived.Test.YtfnmagjngnpokaaGreatDoorWg
set_option linter.unusedVariables false
set_option linter.unusedSimpArgs false
set_option linter.unusedSectionVars false
namespace Go.Vc
open Go Go.Proofs
set_option maxRecDepth 100000
theorem clo25_spec (e : EV) (z1 z2 : Nat) (lp : List PV) (t1 t2 : Bool) (Post : PV → List (Nat × Blk) → Prop) (h0 : 0 ≤ e.flow) (h1 : e.flow ≤ 9007199254740991)
    (h : Post (.tup [.ref 1 2 0 (1 + fol e.flow.toNat), .int .i64 0]) [(0, .box (ec e z1 lp t1 z2 t2)), (2, .row 5 1 (bs (wr e.flow.toNat)) false)]) :
    Spec K 15 [.ptr 0 0] [(0, .box (ec e z1 lp t1 z2 t2))] Post := by
  refine is15.spec K_ok K_mix true (by simp) (by simp [keys]) ?_
  (conv => whnf); repeat ((first | (refine And.intro ?_ ?_; focus exact Cl3) | refine Both.T (by exact rfl) ?_ | refine Both.F (by exact rfl) ?_ | refine Both.GT (by exact rfl) (by exact rfl) ?_ | refine Both.GF (by exact rfl) ?_ | refine Both.GN (by exact rfl) ?_); conv => whnf)
  refine num_ok e.flow h0 h1 _ ?_
  (conv => whnf); repeat ((first | (refine And.intro ?_ ?_; focus exact Cl3) | refine Both.T (by exact rfl) ?_ | refine Both.F (by exact rfl) ?_ | refine Both.GT (by exact rfl) (by exact rfl) ?_ | refine Both.GF (by exact rfl) ?_ | refine Both.GN (by exact rfl) ?_); conv => whnf)
  exact h
set_option maxHeartbeats 4000000 in
theorem put25_spec (e : EV) (z1 z2 : Nat) (lp : List PV) (t1 t2 : Bool) (X : List UInt8) (Post : PV → List (Nat × Blk) → Prop) (hx : X.length ≤ 100000000000) (h0 : 0 ≤ e.flow) (h1 : e.flow ≤ 9007199254740991)
    (h : Post (.tup []) [(0, .box (ec e z1 lp t1 z2 t2)), (1, .box [.ref 1 2 0 (X ++ wr e.flow.toNat).length]), (2, .row 5 1 (bs (X ++ wr e.flow.toNat)) true)]) :
    Spec K 14 [.bool true, .fn (.func 15) [] [.ptr 0 0], .ptr 1 0] [(0, .box (ec e z1 lp t1 z2 t2)), (1, .box [.ref 1 2 0 X.length]), (2, .row 5 1 (bs X) true)] Post := by
  refine is14.spec K_ok K_mix true (by simp [labsL, PV.labs, keys]) (by simp [keys]) ?_
  have hw := fol_le e.flow.toNat
  have hl := wr_len e.flow.toNat
  (conv => whnf); repeat ((first | (refine And.intro ?_ ?_; focus exact Cl3) | refine Both.T (by exact rfl) ?_ | refine Both.F (by exact rfl) ?_ | refine Both.GT (by exact rfl) (by exact rfl) ?_ | refine Both.GF (by exact rfl) ?_ | refine Both.GN (by exact rfl) ?_); conv => whnf)
  refine clo25_spec e z1 z2 lp t1 t2 _ h0 h1 ?_
  (conv => whnf); repeat ((first | (refine And.intro ?_ ?_; focus exact Cl3) | refine Both.T (by exact rfl) ?_ | refine Both.F (by exact rfl) ?_ | refine Both.GT (by exact rfl) (by exact rfl) ?_ | refine Both.GF (by exact rfl) ?_ | refine Both.GN (by exact rfl) ?_); conv => whnf)
  rw [tkw, bs_len]
  refine ⟨by show (X.length + _) * 2 ≤ _; (try simp only [List.length_append]); omega, ?_⟩
  (conv => whnf); repeat ((first | (refine And.intro ?_ ?_; focus exact Cl3) | refine Both.T (by exact rfl) ?_ | refine Both.F (by exact rfl) ?_ | refine Both.GT (by exact rfl) (by exact rfl) ?_ | refine Both.GF (by exact rfl) ?_ | refine Both.GN (by exact rfl) ?_); conv => whnf)
  rw [tka, ← bs_app, ← List.length_append]
  exact h
theorem clo27_spec (e : EV) (z1 z2 : Nat) (lp : List PV) (t1 t2 : Bool) (Post : PV → List (Nat × Blk) → Prop) (h0 : 0 ≤ e.id) (h1 : e.id ≤ 9007199254740991)
    (h : Post (.tup [.ref 1 2 0 (1 + fol e.id.toNat), .int .i64 0]) [(0, .box (ec e z1 lp t1 z2 t2)), (2, .row 5 1 (bs (wr e.id.toNat)) false)]) :
    Spec K 17 [.ptr 0 0] [(0, .box (ec e z1 lp t1 z2 t2))] Post := by
  refine is17.spec K_ok K_mix true (by simp) (by simp [keys]) ?_
  (conv => whnf); repeat ((first | (refine And.intro ?_ ?_; focus exact Cl3) | refine Both.T (by exact rfl) ?_ | refine Both.F (by exact rfl) ?_ | refine Both.GT (by exact rfl) (by exact rfl) ?_ | refine Both.GF (by exact rfl) ?_ | refine Both.GN (by exact rfl) ?_); conv => whnf)
  refine num_ok e.id h0 h1 _ ?_
  (conv => whnf); repeat ((first | (refine And.intro ?_ ?_; focus exact Cl3) | refine Both.T (by exact rfl) ?_ | refine Both.F (by exact rfl) ?_ | refine Both.GT (by exact rfl) (by exact rfl) ?_ | refine Both.GF (by exact rfl) ?_ | refine Both.GN (by exact rfl) ?_); conv => whnf)
  exact h
set_option maxHeartbeats 4000000 in
theorem put27_spec (e : EV) (z1 z2 : Nat) (lp : List PV) (t1 t2 : Bool) (X : List UInt8) (Post : PV → List (Nat × Blk) → Prop) (hx : X.length ≤ 100000000000) (h0 : 0 ≤ e.id) (h1 : e.id ≤ 9007199254740991)
    (h : Post (.tup []) [(0, .box (ec e z1 lp t1 z2 t2)), (1, .box [.ref 1 2 0 (X ++ wr e.id.toNat).length]), (2, .row 5 1 (bs (X ++ wr e.id.toNat)) true)]) :
    Spec K 14 [.bool true, .fn (.func 17) [] [.ptr 0 0], .ptr 1 0] [(0, .box (ec e z1 lp t1 z2 t2)), (1, .box [.ref 1 2 0 X.length]), (2, .row 5 1 (bs X) true)] Post := by
  refine is14.spec K_ok K_mix true (by simp [labsL, PV.labs, keys]) (by simp [keys]) ?_
  have hw := fol_le e.id.toNat
  have hl := wr_len e.id.toNat
  (conv => whnf); repeat ((first | (refine And.intro ?_ ?_; focus exact Cl3) | refine Both.T (by exact rfl) ?_ | refine Both.F (by exact rfl) ?_ | refine Both.GT (by exact rfl) (by exact rfl) ?_ | refine Both.GF (by exact rfl) ?_ | refine Both.GN (by exact rfl) ?_); conv => whnf)
  refine clo27_spec e z1 z2 lp t1 t2 _ h0 h1 ?_
  (conv => whnf); repeat ((first | (refine And.intro ?_ ?_; focus exact Cl3) | refine Both.T (by exact rfl) ?_ | refine Both.F (by exact rfl) ?_ | refine Both.GT (by exact rfl) (by exact rfl) ?_ | refine Both.GF (by exact rfl) ?_ | refine Both.GN (by exact rfl) ?_); conv => whnf)
  rw [tkw, bs_len]
  refine ⟨by show (X.length + _) * 2 ≤ _; (try simp only [List.length_append]); omega, ?_⟩
  (conv => whnf); repeat ((first | (refine And.intro ?_ ?_; focus exact Cl3) | refine Both.T (by exact rfl) ?_ | refine Both.F (by exact rfl) ?_ | refine Both.GT (by exact rfl) (by exact rfl) ?_ | refine Both.GF (by exact rfl) ?_ | refine Both.GN (by exact rfl) ?_); conv => whnf)
  rw [tka, ← bs_app, ← List.length_append]
  exact h
theorem clo28_spec (e : EV) (z1 z2 : Nat) (lp : List PV) (t1 t2 : Bool) (Post : PV → List (Nat × Blk) → Prop) (h0 : i64 e.n)
    (h : Post (.tup [.ref 1 2 0 (1 + fol (zig e.n)), .int .i64 0]) [(0, .box (ec e z1 lp t1 z2 t2)), (2, .row 5 1 (bs (wr (zig e.n))) false)]) :
    Spec K 18 [.ptr 0 0] [(0, .box (ec e z1 lp t1 z2 t2))] Post := by
  refine is18.spec K_ok K_mix true (by simp) (by simp [keys]) ?_
  (conv => whnf); repeat ((first | (refine And.intro ?_ ?_; focus exact Cl3) | refine Both.T (by exact rfl) ?_ | refine Both.F (by exact rfl) ?_ | refine Both.GT (by exact rfl) (by exact rfl) ?_ | refine Both.GF (by exact rfl) ?_ | refine Both.GN (by exact rfl) ?_); conv => whnf)
  refine int_spec e.n h0 _ ?_
  (conv => whnf); repeat ((first | (refine And.intro ?_ ?_; focus exact Cl3) | refine Both.T (by exact rfl) ?_ | refine Both.F (by exact rfl) ?_ | refine Both.GT (by exact rfl) (by exact rfl) ?_ | refine Both.GF (by exact rfl) ?_ | refine Both.GN (by exact rfl) ?_); conv => whnf)
  exact h
set_option maxHeartbeats 4000000 in
theorem put28_spec (e : EV) (z1 z2 : Nat) (lp : List PV) (t1 t2 : Bool) (X : List UInt8) (Post : PV → List (Nat × Blk) → Prop) (hx : X.length ≤ 100000000000) (h0 : i64 e.n)
    (h : Post (.tup []) [(0, .box (ec e z1 lp t1 z2 t2)), (1, .box [.ref 1 2 0 (X ++ wr (zig e.n)).length]), (2, .row 5 1 (bs (X ++ wr (zig e.n))) true)]) :
    Spec K 14 [.bool true, .fn (.func 18) [] [.ptr 0 0], .ptr 1 0] [(0, .box (ec e z1 lp t1 z2 t2)), (1, .box [.ref 1 2 0 X.length]), (2, .row 5 1 (bs X) true)] Post := by
  refine is14.spec K_ok K_mix true (by simp [labsL, PV.labs, keys]) (by simp [keys]) ?_
  have hw := fol_le (zig e.n)
  have hl := wr_len (zig e.n)
  (conv => whnf); repeat ((first | (refine And.intro ?_ ?_; focus exact Cl3) | refine Both.T (by exact rfl) ?_ | refine Both.F (by exact rfl) ?_ | refine Both.GT (by exact rfl) (by exact rfl) ?_ | refine Both.GF (by exact rfl) ?_ | refine Both.GN (by exact rfl) ?_); conv => whnf)
  refine clo28_spec e z1 z2 lp t1 t2 _ h0 ?_
  (conv => whnf); repeat ((first | (refine And.intro ?_ ?_; focus exact Cl3) | refine Both.T (by exact rfl) ?_ | refine Both.F (by exact rfl) ?_ | refine Both.GT (by exact rfl) (by exact rfl) ?_ | refine Both.GF (by exact rfl) ?_ | refine Both.GN (by exact rfl) ?_); conv => whnf)
  rw [tkw, bs_len]
  refine ⟨by show (X.length + _) * 2 ≤ _; (try simp only [List.length_append]); omega, ?_⟩
  (conv => whnf); repeat ((first | (refine And.intro ?_ ?_; focus exact Cl3) | refine Both.T (by exact rfl) ?_ | refine Both.F (by exact rfl) ?_ | refine Both.GT (by exact rfl) (by exact rfl) ?_ | refine Both.GF (by exact rfl) ?_ | refine Both.GN (by exact rfl) ?_); conv => whnf)
  rw [tka, ← bs_app, ← List.length_append]
  exact h
theorem clo30_spec (e : EV) (z1 z2 : Nat) (lp : List PV) (t1 t2 : Bool) (Post : PV → List (Nat × Blk) → Prop) (h0 : e.s.length ≤ 16)
    (h : Post (.tup [.ref 1 2 0 (1 + fol e.s.length + e.s.length), .int .i64 0]) [(0, .box (ec e z1 lp t1 z2 t2)), (2, .row 5 1 (bs (wr e.s.length ++ e.s)) false)]) :
    Spec K 20 [.ptr 0 0] [(0, .box (ec e z1 lp t1 z2 t2))] Post := by
  refine is20.spec K_ok K_mix true (by simp) (by simp [keys]) ?_
  (conv => whnf); repeat ((first | (refine And.intro ?_ ?_; focus exact Cl3) | refine Both.T (by exact rfl) ?_ | refine Both.F (by exact rfl) ?_ | refine Both.GT (by exact rfl) (by exact rfl) ?_ | refine Both.GF (by exact rfl) ?_ | refine Both.GN (by exact rfl) ?_); conv => whnf)
  refine text_spec e.s 16 (by omega) _ (fun hb => by omega) (fun _ => ?_)
  (conv => whnf); repeat ((first | (refine And.intro ?_ ?_; focus exact Cl3) | refine Both.T (by exact rfl) ?_ | refine Both.F (by exact rfl) ?_ | refine Both.GT (by exact rfl) (by exact rfl) ?_ | refine Both.GF (by exact rfl) ?_ | refine Both.GN (by exact rfl) ?_); conv => whnf)
  exact h
set_option maxHeartbeats 4000000 in
theorem put30_spec (e : EV) (z1 z2 : Nat) (lp : List PV) (t1 t2 : Bool) (X : List UInt8) (Post : PV → List (Nat × Blk) → Prop) (hx : X.length ≤ 100000000000) (h0 : e.s.length ≤ 16)
    (h : Post (.tup []) [(0, .box (ec e z1 lp t1 z2 t2)), (1, .box [.ref 1 2 0 (X ++ (wr e.s.length ++ e.s)).length]), (2, .row 5 1 (bs (X ++ (wr e.s.length ++ e.s))) true)]) :
    Spec K 14 [.bool true, .fn (.func 20) [] [.ptr 0 0], .ptr 1 0] [(0, .box (ec e z1 lp t1 z2 t2)), (1, .box [.ref 1 2 0 X.length]), (2, .row 5 1 (bs X) true)] Post := by
  refine is14.spec K_ok K_mix true (by simp [labsL, PV.labs, keys]) (by simp [keys]) ?_
  have hw := fol_le e.s.length
  have hl := wr_len e.s.length
  (conv => whnf); repeat ((first | (refine And.intro ?_ ?_; focus exact Cl3) | refine Both.T (by exact rfl) ?_ | refine Both.F (by exact rfl) ?_ | refine Both.GT (by exact rfl) (by exact rfl) ?_ | refine Both.GF (by exact rfl) ?_ | refine Both.GN (by exact rfl) ?_); conv => whnf)
  refine clo30_spec e z1 z2 lp t1 t2 _ h0 ?_
  (conv => whnf); repeat ((first | (refine And.intro ?_ ?_; focus exact Cl3) | refine Both.T (by exact rfl) ?_ | refine Both.F (by exact rfl) ?_ | refine Both.GT (by exact rfl) (by exact rfl) ?_ | refine Both.GF (by exact rfl) ?_ | refine Both.GN (by exact rfl) ?_); conv => whnf)
  rw [tkt, bs_len]
  refine ⟨by show (X.length + _) * 2 ≤ _; (try simp only [List.length_append]); omega, ?_⟩
  (conv => whnf); repeat ((first | (refine And.intro ?_ ?_; focus exact Cl3) | refine Both.T (by exact rfl) ?_ | refine Both.F (by exact rfl) ?_ | refine Both.GT (by exact rfl) (by exact rfl) ?_ | refine Both.GF (by exact rfl) ?_ | refine Both.GN (by exact rfl) ?_); conv => whnf)
  rw [tka, ← bs_app, ← List.length_append]
  exact h
theorem clo32_spec (e : EV) (z1 z2 : Nat) (lp : List PV) (t1 t2 : Bool) (Post : PV → List (Nat × Blk) → Prop) (a : VA e.v z1 lp z2) (hm : mayV e.v = true)
    (h : Post (.tup [.sl 1 (bs (writeV e.v)) false true, .int .i64 0]) [(0, .box (ec e z1 lp t1 z2 t2))]) :
    Spec K 22 [.ptr 0 0] [(0, .box (ec e z1 lp t1 z2 t2))] Post := by
  refine is22.spec K_ok K_mix true (by simp) (by simp [keys]) ?_
  (conv => whnf); repeat ((first | (refine And.intro ?_ ?_; focus exact Cl3) | refine Both.T (by exact rfl) ?_ | refine Both.F (by exact rfl) ?_ | refine Both.GT (by exact rfl) (by exact rfl) ?_ | refine Both.GF (by exact rfl) ?_ | refine Both.GN (by exact rfl) ?_); conv => whnf)
  refine valueBytes_spec e.v z1 z2 lp t1 t2 _ a (fun _ => ?_) (fun hc => (by rw [hm] at hc; cases hc))
  (conv => whnf); repeat ((first | (refine And.intro ?_ ?_; focus exact Cl3) | refine Both.T (by exact rfl) ?_ | refine Both.F (by exact rfl) ?_ | refine Both.GT (by exact rfl) (by exact rfl) ?_ | refine Both.GF (by exact rfl) ?_ | refine Both.GN (by exact rfl) ?_); conv => whnf)
  exact h
set_option maxHeartbeats 4000000 in
theorem put32_spec (e : EV) (z1 z2 : Nat) (lp : List PV) (t1 t2 : Bool) (X : List UInt8) (Post : PV → List (Nat × Blk) → Prop) (hx : X.length ≤ 100000000000) (a : VA e.v z1 lp z2) (hm : mayV e.v = true)
    (h : Post (.tup []) [(0, .box (ec e z1 lp t1 z2 t2)), (1, .box [.ref 1 2 0 (X ++ writeV e.v).length]), (2, .row 5 1 (bs (X ++ writeV e.v)) true)]) :
    Spec K 14 [.bool true, .fn (.func 22) [] [.ptr 0 0], .ptr 1 0] [(0, .box (ec e z1 lp t1 z2 t2)), (1, .box [.ref 1 2 0 X.length]), (2, .row 5 1 (bs X) true)] Post := by
  refine is14.spec K_ok K_mix true (by simp [labsL, PV.labs, keys]) (by simp [keys]) ?_
  have hvl := writeV_len e.v
  have hvb := a.b
  (conv => whnf); repeat ((first | (refine And.intro ?_ ?_; focus exact Cl3) | refine Both.T (by exact rfl) ?_ | refine Both.F (by exact rfl) ?_ | refine Both.GT (by exact rfl) (by exact rfl) ?_ | refine Both.GF (by exact rfl) ?_ | refine Both.GN (by exact rfl) ?_); conv => whnf)
  refine clo32_spec e z1 z2 lp t1 t2 _ a hm ?_
  (conv => whnf); repeat ((first | (refine And.intro ?_ ?_; focus exact Cl3) | refine Both.T (by exact rfl) ?_ | refine Both.F (by exact rfl) ?_ | refine Both.GT (by exact rfl) (by exact rfl) ?_ | refine Both.GF (by exact rfl) ?_ | refine Both.GN (by exact rfl) ?_); conv => whnf)
  rw [bs_len]
  refine ⟨by show (X.length + _) * 2 ≤ _; omega, ?_⟩
  (conv => whnf); repeat ((first | (refine And.intro ?_ ?_; focus exact Cl3) | refine Both.T (by exact rfl) ?_ | refine Both.F (by exact rfl) ?_ | refine Both.GT (by exact rfl) (by exact rfl) ?_ | refine Both.GF (by exact rfl) ?_ | refine Both.GN (by exact rfl) ?_); conv => whnf)
  rw [tka, ← bs_app, ← List.length_append]
  exact h
set_option maxHeartbeats 4000000 in
theorem putno_spec (f : Nat) (e : EV) (z1 z2 : Nat) (lp : List PV) (t1 t2 : Bool) (X : List UInt8) (Post : PV → List (Nat × Blk) → Prop)
    (h : Post (.tup []) [(0, .box (ec e z1 lp t1 z2 t2)), (1, .box [.ref 1 2 0 X.length]), (2, .row 5 1 (bs X) true)]) :
    Spec K 14 [.bool false, .fn (.func f) [] [.ptr 0 0], .ptr 1 0] [(0, .box (ec e z1 lp t1 z2 t2)), (1, .box [.ref 1 2 0 X.length]), (2, .row 5 1 (bs X) true)] Post := by
  refine is14.spec K_ok K_mix true (by simp [labsL, PV.labs, keys]) (by simp [keys]) ?_
  (conv => whnf); repeat ((first | (refine And.intro ?_ ?_; focus exact Cl3) | refine Both.T (by exact rfl) ?_ | refine Both.F (by exact rfl) ?_ | refine Both.GT (by exact rfl) (by exact rfl) ?_ | refine Both.GF (by exact rfl) ?_ | refine Both.GN (by exact rfl) ?_); conv => whnf)
  exact h
end Go.Vc
