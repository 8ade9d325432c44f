/- What is proved here: contracts of functions of the program: of each function what it hands back and what it leaves in memory. Conditions: those that each theorem names. -/
import Derived.Test.YtmbopgmllnijjaaQj
import Derived.Test.YtmbopgmllnijjaaQa
set_option linter.unusedVariables false
set_option linter.unusedSimpArgs false
set_option linter.unusedSectionVars false
namespace Go.Vc
open Go Go.Proofs
set_option maxRecDepth 100000
theorem comeK_ts {k : KS} {t : Int × HS} {B : Nat} (h : ∀ i s, PL.at k.pl i = some s → s.ts.length ≤ B) (ht : t.2.ts.length ≤ B) : ∀ i s, PL.at (comeK k t).pl i = some s → s.ts.length ≤ B := by
  intro i s hs
  unfold comeK at hs
  split at hs
  · exact h i s hs
  · split at hs
    · exact h i s hs
    · rw [PL.at_set] at hs
      split at hs
      · cases hs; exact ht
      · exact h i s hs
theorem comeK_left (k : KS) (t : Int × HS) : (comeK k t).left.length ≤ k.left.length + 1 := by
  unfold comeK
  split
  · exact Nat.le_succ _
  · split
    · exact Nat.le_succ _
    · simp
/-- The numbers of an instruction are small. -/
structure Small (p : PG) (x : IN) : Prop where
  off0 : 0 ≤ (movesM p x).1
  off1 : (movesM p x).1 ≤ 1000
  on0 : 0 ≤ (movesM p x).2
  on1 : (movesM p x).2 ≤ 1000
  a : i64 x.a
  jump : (x.op = 24 ∨ x.op = 25 ∨ x.op = 26) → 0 ≤ x.a
set_option maxHeartbeats 32000000 in
theorem step_spec (p : PG) (x : IN) (i : Nat) (s : HS) (k : KS) (L M : List PV) (zf : Nat) (lf : List PV) (tf : Bool) (zc : Nat) (lc : List PV) (tc : Bool) (hp : PGA p zf lf zc lc) (hx : Small p x)
    (hL : PLs k.pl L) (hM : Lf k.left M) (hn : k.pl.length ≤ 100000) (hm : k.left.length ≤ 100000) (hs : PL.at k.pl i = some s) (hts : ∀ i s, PL.at k.pl i = some s → s.ts.length ≤ 8) (hh0 : 0 ≤ s.h) (hh1 : s.h ≤ 32)
    (Post : PV → List (Nat × Blk) → Prop) (h : ∀ L' M', PLs (stepK p x i s k).pl L' → Lf (stepK p x i s k).left M' → Post (.tup []) (kh (stepK p x i s k) L' M')) :
    Spec K 65 [.ptr 0 0, .agg (pgc zf lf tf zc lc tc), .agg [.int .i64 x.op, .int .i64 x.a, .int .i64 x.b], .int .i64 i] (kh k L M) Post := by
  have hlt := PL.at_lt hs
  have hLl := hL.len
  have hr := hL.at_ i hlt
  rw [hs] at hr
  obtain ⟨z, o, hq, hz⟩ := hr
  have hsl := hts i s hs
  obtain ⟨sh, ts⟩ := s
  obtain ⟨o0, o1, n0, n1, xa, xj⟩ := hx
  simp only at hsl hz hh0 hh1 hq
  have g : z = 2 ∨ tps ts = [] := hz.imp id fun h => by rw [h]; rfl
  have gl : (tps ts).length = ts.length := List.length_map _
  have hltL : i < L.length := by omega
  unfold i64 at xa
  refine is65.specC [27, 48] K_ok K_mix true (by simp) (by simp [keys]) ?_
  (conv => whnf); repeat ((first | (refine And.intro ?_ ?_; focus exact Cl4) | refine Both.T (by exact rfl) ?_ | refine Both.F (by exact rfl) ?_ | refine Both.GT (by exact rfl) (by exact rfl) ?_ | refine Both.GF (by exact rfl) ?_ | refine Both.GN (by exact rfl) ?_); conv => whnf)
  rw [Nat.zero_add, Int.toNat_natCast, hq]
  (conv => whnf); repeat ((first | (refine And.intro ?_ ?_; focus exact Cl4) | refine Both.T (by exact rfl) ?_ | refine Both.F (by exact rfl) ?_ | refine Both.GT (by exact rfl) (by exact rfl) ?_ | refine Both.GF (by exact rfl) ?_ | refine Both.GN (by exact rfl) ?_); conv => whnf)
  refine moves_spec p x zf lf tf zc lc tc hp _ ?_
  unfold stepK at h
  generalize movesM p x = mv at h o0 o1 n0 n1
  obtain ⟨off, on⟩ := mv
  simp only at h o0 o1 n0 n1
  have w1 : IntKind.i64.wrap (IntKind.i64.wrap (sh - off) + on) = sh - off + on := by rw [wrap64 (n := sh - off) (by omega) (by omega), wrap64 (by omega) (by omega)]
  have w2 : IntKind.i64.wrap (sh - off) = sh - off := wrap64 (by omega) (by omega)
  (conv => whnf); repeat ((first | (refine And.intro ?_ ?_; focus exact Cl4) | refine Both.T (by exact rfl) ?_ | refine Both.F (by exact rfl) ?_ | refine Both.GT (by exact rfl) (by exact rfl) ?_ | refine Both.GF (by exact rfl) ?_ | refine Both.GN (by exact rfl) ?_); conv => whnf)
  refine ⟨Unit, fun _ => ⟨134, [(12, .sl z (tps ts) true true), (11, .int .i64 (sh - off + on)), (9, .int .i64 off), (8, .ptr 5 0), (6, .ptr 4 0), (0, .ptr 0 0), (3, .int .i64 i)], [(0, .box [.ref 3 1 0 k.pl.length, .ref 1 2 0 k.left.length, .bool k.odd]), (1, .row 38 3 L true), (2, .row 3 1 M true), (4, .box [.int .i64 x.op, .int .i64 x.a, .int .i64 x.b]), (5, .box [.bool true, .int .i64 sh, .sl z (tps ts) true true])], [0]⟩, fun _ => True, ?_, fun _ _ => ?_⟩
  · (conv => whnf); repeat' (first | ((first | (refine And.intro ?_ ?_; focus exact Cl4) | refine Both.T (by exact rfl) ?_ | refine Both.F (by exact rfl) ?_ | refine Both.GT (by exact rfl) (by exact rfl) ?_ | refine Both.GF (by exact rfl) ?_ | refine Both.GN (by exact rfl) ?_); conv => whnf) | (fail; conv => whnf) | ((refine Both.mk ?_ ?_ <;> fail_if_success (intro _)) <;> conv => whnf))
    all_goals (
      refine ⟨[], (), trivial, ?_⟩
      simp [meets, ghosts, St.le, St.get, look, keys, PV.labs, labsL, lookB, Blk.labs, w1])
  conv => (arg 4; dsimp only)
  (conv => whnf); repeat ((first | (refine And.intro ?_ ?_; focus exact Cl4) | refine Both.T (by exact rfl) ?_ | refine Both.F (by exact rfl) ?_ | refine Both.GT (by exact rfl) (by exact rfl) ?_ | refine Both.GF (by exact rfl) ?_ | refine Both.GN (by exact rfl) ?_); conv => whnf)
  by_cases hb1 : sh < off ∨ 32 < sh - off + on
  · rw [if_pos hb1] at h
    refine Both.T (by rcases hb1 with hb | hb <;> simp [hb]) ?_
    (conv => whnf); repeat ((first | (refine And.intro ?_ ?_; focus exact Cl4) | refine Both.T (by exact rfl) ?_ | refine Both.F (by exact rfl) ?_ | refine Both.GT (by exact rfl) (by exact rfl) ?_ | refine Both.GF (by exact rfl) ?_ | refine Both.GN (by exact rfl) ?_); conv => whnf)
    exact h L M hL hM
  rw [if_neg hb1] at h
  have b1 : ¬ sh < off := fun hc => hb1 (.inl hc)
  have b2 : ¬ 32 < sh - off + on := fun hc => hb1 (.inr hc)
  refine Both.F (by rw [decide_eq_false b1, decide_eq_false b2]; rfl) ?_
  (conv => whnf); repeat ((first | (refine And.intro ?_ ?_; focus exact Cl4) | refine Both.T (by exact rfl) ?_ | refine Both.F (by exact rfl) ?_ | refine Both.GT (by exact rfl) (by exact rfl) ?_ | refine Both.GF (by exact rfl) ?_ | refine Both.GN (by exact rfl) ?_); conv => whnf)
  rw [gl]
  refine ⟨Unit, fun _ => ⟨134, [(62, .bool (!lowOk ⟨sh, ts⟩ (sh - off))), (13, .int .i64 ts.length), (12, .sl z (tps ts) true true), (11, .int .i64 (sh - off + on)), (9, .int .i64 off), (6, .ptr 4 0), (0, .ptr 0 0), (3, .int .i64 i)], [(0, .box [.ref 3 1 0 k.pl.length, .ref 1 2 0 k.left.length, .bool k.odd]), (1, .row 38 3 L true), (2, .row 3 1 M true), (4, .box [.int .i64 x.op, .int .i64 x.a, .int .i64 x.b])], [0]⟩, fun _ => True, ?_, fun _ _ => ?_⟩
  · cases hlast : ts.getLast? with
    | none =>
      obtain rfl : ts = [] := List.getLast?_eq_none_iff.1 hlast
      (conv => whnf); repeat' (first | ((first | (refine And.intro ?_ ?_; focus exact Cl4) | refine Both.T (by exact rfl) ?_ | refine Both.F (by exact rfl) ?_ | refine Both.GT (by exact rfl) (by exact rfl) ?_ | refine Both.GF (by exact rfl) ?_ | refine Both.GN (by exact rfl) ?_); conv => whnf) | (fail; conv => whnf) | ((refine Both.mk ?_ ?_ <;> fail_if_success (intro _)) <;> conv => whnf))
      all_goals (
        refine ⟨[], (), trivial, ?_⟩
        simp [meets, ghosts, St.le, St.get, look, keys, PV.labs, labsL, lookB, Blk.labs, lowOk])
    | some u =>
      have hne : ts ≠ [] := fun hc => by rw [hc] at hlast; cases hlast
      have hpos : 0 < ts.length := List.length_pos_iff.2 hne
      have w3 : IntKind.i64.wrap ((ts.length : Int) - 1) = (ts.length : Int) - 1 := wrap64 (by omega) (by omega)
      have hpl : ts.length - 1 < ts.length := by omega
      have hu : ts[ts.length - 1] = u := by
        rw [List.getLast?_eq_getElem?, List.getElem?_eq_getElem hpl] at hlast
        exact Option.some.inj hlast
      have hq2 : nth (tps ts) ((ts.length : Int) - 1).toNat = .agg [.int .i64 u.1, .int .i64 u.2] := by
        rw [show ((ts.length : Int) - 1).toNat = ts.length - 1 by omega, tps_nth hpl, hu]
      have hlo : (!lowOk ⟨sh, ts⟩ (sh - off)) = decide (sh - off < u.2) := by
        unfold lowOk
        simp only [hlast]
        rw [Bool.eq_iff_iff]
        simp
      (conv => whnf); repeat' (first | ((first | (refine And.intro ?_ ?_; focus exact Cl4) | refine Both.T (by exact rfl) ?_ | refine Both.F (by exact rfl) ?_ | refine Both.GT (by exact rfl) (by exact rfl) ?_ | refine Both.GF (by exact rfl) ?_ | refine Both.GN (by exact rfl) ?_); conv => whnf) | (rw [decide_eq_true (show (0 : Int) < (ts.length : Int) by omega)]; conv => whnf) | (rw [w3]; conv => whnf) | (rw [hq2]; conv => whnf) | ((refine Both.mk ?_ ?_ <;> fail_if_success (intro _)) <;> conv => whnf))
      all_goals (
        refine ⟨[], (), trivial, ?_⟩
        simp [meets, ghosts, St.le, St.get, look, keys, PV.labs, labsL, lookB, Blk.labs, hlo, w2])
  conv => (arg 4; dsimp only)
  (conv => whnf); repeat ((first | (refine And.intro ?_ ?_; focus exact Cl4) | refine Both.T (by exact rfl) ?_ | refine Both.F (by exact rfl) ?_ | refine Both.GT (by exact rfl) (by exact rfl) ?_ | refine Both.GF (by exact rfl) ?_ | refine Both.GN (by exact rfl) ?_); conv => whnf)
  cases hlow : lowOk ⟨sh, ts⟩ (sh - off)
  · rw [hlow, if_pos rfl] at h
    (conv => whnf); repeat ((first | (refine And.intro ?_ ?_; focus exact Cl4) | refine Both.T (by exact rfl) ?_ | refine Both.F (by exact rfl) ?_ | refine Both.GT (by exact rfl) (by exact rfl) ?_ | refine Both.GF (by exact rfl) ?_ | refine Both.GN (by exact rfl) ?_); conv => whnf)
    exact h L M hL hM
  rw [hlow, if_neg (by simp)] at h
  have hi1 : IntKind.i64.wrap ((i : Int) + 1) = (i : Int) + 1 := wrap64 (by omega) (by omega)
  have hts6 : ∀ i s, PL.at k.pl i = some s → s.ts.length ≤ 1000000 := fun i s hs => by have := hts i s hs; omega
  (conv => whnf); repeat ((first | (refine And.intro ?_ ?_; focus exact Cl4) | refine Both.T (by exact rfl) ?_ | refine Both.F (by exact rfl) ?_ | refine Both.GT (by exact rfl) (by exact rfl) ?_ | refine Both.GF (by exact rfl) ?_ | refine Both.GN (by exact rfl) ?_); conv => whnf)
  by_cases h28 : x.op = 28 ∨ x.op = 30
  · rw [if_pos h28] at h
    rcases h28 with h28 | h28
    all_goals (
      rw [h28]
      (conv => whnf); repeat ((first | (refine And.intro ?_ ?_; focus exact Cl4) | refine Both.T (by exact rfl) ?_ | refine Both.F (by exact rfl) ?_ | refine Both.GT (by exact rfl) (by exact rfl) ?_ | refine Both.GF (by exact rfl) ?_ | refine Both.GN (by exact rfl) ?_); conv => whnf)
      exact h L M hL hM)
  rw [if_neg h28] at h
  have e28 : (x.op == 28) = false := by simp; omega
  have e30 : (x.op == 30) = false := by simp; omega
  rw [e28]
  (conv => whnf); repeat ((first | (refine And.intro ?_ ?_; focus exact Cl4) | refine Both.T (by exact rfl) ?_ | refine Both.F (by exact rfl) ?_ | refine Both.GT (by exact rfl) (by exact rfl) ?_ | refine Both.GF (by exact rfl) ?_ | refine Both.GN (by exact rfl) ?_); conv => whnf)
  rw [e30]
  (conv => whnf); repeat ((first | (refine And.intro ?_ ?_; focus exact Cl4) | refine Both.T (by exact rfl) ?_ | refine Both.F (by exact rfl) ?_ | refine Both.GT (by exact rfl) (by exact rfl) ?_ | refine Both.GF (by exact rfl) ?_ | refine Both.GN (by exact rfl) ?_); conv => whnf)
  by_cases h24 : x.op = 24
  · rw [if_pos h24] at h
    rw [h24]
    (conv => whnf); repeat ((first | (refine And.intro ?_ ?_; focus exact Cl4) | refine Both.T (by exact rfl) ?_ | refine Both.F (by exact rfl) ?_ | refine Both.GT (by exact rfl) (by exact rfl) ?_ | refine Both.GF (by exact rfl) ?_ | refine Both.GN (by exact rfl) ?_); conv => whnf)
    refine come_spec k (x.a, ⟨sh - off + on, ts⟩) L M z true hL hM (xj (.inl h24)) hz (by omega) (by omega) (by show ts.length ≤ _; omega) hts6 _ (fun L1 M1 hL1 hM1 => ?_)
    (conv => whnf); repeat ((first | (refine And.intro ?_ ?_; focus exact Cl4) | refine Both.T (by exact rfl) ?_ | refine Both.F (by exact rfl) ?_ | refine Both.GT (by exact rfl) (by exact rfl) ?_ | refine Both.GF (by exact rfl) ?_ | refine Both.GN (by exact rfl) ?_); conv => whnf)
    exact h L1 M1 hL1 hM1
  rw [if_neg h24] at h
  have e24 : (x.op == 24) = false := by simp; omega
  rw [e24]
  (conv => whnf); repeat ((first | (refine And.intro ?_ ?_; focus exact Cl4) | refine Both.T (by exact rfl) ?_ | refine Both.F (by exact rfl) ?_ | refine Both.GT (by exact rfl) (by exact rfl) ?_ | refine Both.GF (by exact rfl) ?_ | refine Both.GN (by exact rfl) ?_); conv => whnf)
  by_cases h25 : x.op = 25
  · rw [if_pos h25] at h
    rw [h25]
    (conv => whnf); repeat ((first | (refine And.intro ?_ ?_; focus exact Cl4) | refine Both.T (by exact rfl) ?_ | refine Both.F (by exact rfl) ?_ | refine Both.GT (by exact rfl) (by exact rfl) ?_ | refine Both.GF (by exact rfl) ?_ | refine Both.GN (by exact rfl) ?_); conv => whnf)
    refine come_spec k (x.a, ⟨sh - off + on, ts⟩) L M z true hL hM (xj (.inr (.inl h25))) hz (by omega) (by omega) (by show ts.length ≤ _; omega) hts6 _ (fun L1 M1 hL1 hM1 => ?_)
    (conv => whnf); repeat ((first | (refine And.intro ?_ ?_; focus exact Cl4) | refine Both.T (by exact rfl) ?_ | refine Both.F (by exact rfl) ?_ | refine Both.GT (by exact rfl) (by exact rfl) ?_ | refine Both.GF (by exact rfl) ?_ | refine Both.GN (by exact rfl) ?_); conv => whnf)
    rw [hi1]
    refine come_spec (comeK k (x.a, ⟨sh - off + on, ts⟩)) ((i : Int) + 1, ⟨sh - off + on, ts⟩) L1 M1 z true hL1 hM1 (by show (0 : Int) ≤ (i : Int) + 1; omega) hz (by rw [comeK_len]; omega) (by have := comeK_left k (x.a, ⟨sh - off + on, ts⟩); omega) (by show ts.length ≤ _; omega)
      (comeK_ts hts6 (by show ts.length ≤ _; omega)) _ (fun L2 M2 hL2 hM2 => ?_)
    (conv => whnf); repeat ((first | (refine And.intro ?_ ?_; focus exact Cl4) | refine Both.T (by exact rfl) ?_ | refine Both.F (by exact rfl) ?_ | refine Both.GT (by exact rfl) (by exact rfl) ?_ | refine Both.GF (by exact rfl) ?_ | refine Both.GN (by exact rfl) ?_); conv => whnf)
    exact h L2 M2 hL2 hM2
  rw [if_neg h25] at h
  have e25 : (x.op == 25) = false := by simp; omega
  rw [e25]
  (conv => whnf); repeat ((first | (refine And.intro ?_ ?_; focus exact Cl4) | refine Both.T (by exact rfl) ?_ | refine Both.F (by exact rfl) ?_ | refine Both.GT (by exact rfl) (by exact rfl) ?_ | refine Both.GF (by exact rfl) ?_ | refine Both.GN (by exact rfl) ?_); conv => whnf)
  by_cases h26 : x.op = 26
  · rw [if_pos h26] at h
    rw [h26]
    (conv => whnf); repeat ((first | (refine And.intro ?_ ?_; focus exact Cl4) | refine Both.T (by exact rfl) ?_ | refine Both.F (by exact rfl) ?_ | refine Both.GT (by exact rfl) (by exact rfl) ?_ | refine Both.GF (by exact rfl) ?_ | refine Both.GN (by exact rfl) ?_); conv => whnf)
    have eo : (bif k.odd then true else decide (8 ≤ ((tps ts).length : Int))) = (k.odd || decide (8 ≤ ts.length)) := by
      rw [gl, show decide (8 ≤ (ts.length : Int)) = decide (8 ≤ ts.length) from decide_eq_decide.2 (by omega)]
      cases k.odd <;> rfl
    rw [eo, wrap64 (n := sh - off + on + 1) (by omega) (by omega)]
    have c1 := come_spec ⟨k.pl, k.left, k.odd || decide (8 ≤ ts.length)⟩ (x.a, ⟨sh - off + on + 1, ts⟩) L M z true hL hM (xj (.inr (.inr h26))) hz (by show k.pl.length ≤ _; omega) (by show k.left.length ≤ _; omega) (by show ts.length ≤ _; omega) hts6
    have hts1 := comeK_ts (k := ⟨k.pl, k.left, k.odd || decide (8 ≤ ts.length)⟩) (t := (x.a, ⟨sh - off + on + 1, ts⟩)) (B := 1000000) hts6 (by show ts.length ≤ _; omega)
    have hpl1 : (comeK ⟨k.pl, k.left, k.odd || decide (8 ≤ ts.length)⟩ (x.a, ⟨sh - off + on + 1, ts⟩)).pl.length = k.pl.length := comeK_len _ _
    have hlf1 : (comeK ⟨k.pl, k.left, k.odd || decide (8 ≤ ts.length)⟩ (x.a, ⟨sh - off + on + 1, ts⟩)).left.length ≤ k.left.length + 1 := comeK_left _ _
    generalize hk1 : comeK ⟨k.pl, k.left, k.odd || decide (8 ≤ ts.length)⟩ (x.a, ⟨sh - off + on + 1, ts⟩) = k1 at h c1 hts1 hpl1 hlf1
    refine c1 _ (fun L1 M1 hL1 hM1 => ?_)
    have c2 := come_spec k1 ((i : Int) + 1, ⟨sh - off + on, ts ++ [(x.a, sh - off + on)]⟩) L1 M1 2 false hL1 hM1 (by show (0 : Int) ≤ (i : Int) + 1; omega) (.inl rfl) (by omega) (by omega) (by show (ts ++ [(x.a, sh - off + on)]).length ≤ _; rw [List.length_append, List.length_singleton]; omega) hts1
    have tp1 : tps (ts ++ [(x.a, sh - off + on)]) = tps ts ++ [.agg [.int .i64 x.a, .int .i64 (sh - off + on)]] := List.map_append ..
    simp only at c2
    rw [tp1] at c2
    have fl := tps_flat1 ts
    cases ts with
    | nil =>
      (conv => whnf); repeat ((first | (refine And.intro ?_ ?_; focus exact Cl4) | refine Both.T (by exact rfl) ?_ | refine Both.F (by exact rfl) ?_ | refine Both.GT (by exact rfl) (by exact rfl) ?_ | refine Both.GF (by exact rfl) ?_ | refine Both.GN (by exact rfl) ?_); conv => whnf)
      rw [hi1]
      refine c2 _ (fun L2 M2 hL2 hM2 => ?_)
      (conv => whnf); repeat ((first | (refine And.intro ?_ ?_; focus exact Cl4) | refine Both.T (by exact rfl) ?_ | refine Both.F (by exact rfl) ?_ | refine Both.GT (by exact rfl) (by exact rfl) ?_ | refine Both.GF (by exact rfl) ?_ | refine Both.GN (by exact rfl) ?_); conv => whnf)
      exact h L2 M2 hL2 hM2
    | cons a r =>
      obtain rfl : z = 2 := hz.resolve_right (by simp)
      (conv => whnf); repeat ((first | (refine And.intro ?_ ?_; focus exact Cl4) | refine Both.T (by exact rfl) ?_ | refine Both.F (by exact rfl) ?_ | refine Both.GT (by exact rfl) (by exact rfl) ?_ | refine Both.GF (by exact rfl) ?_ | refine Both.GN (by exact rfl) ?_); conv => whnf)
      refine ⟨by show ((tps (a :: r)).length + 1) * 17 ≤ _; omega, ?_⟩
      (conv => whnf); repeat ((first | (refine And.intro ?_ ?_; focus exact Cl4) | refine Both.T (by exact rfl) ?_ | refine Both.F (by exact rfl) ?_ | refine Both.GT (by exact rfl) (by exact rfl) ?_ | refine Both.GF (by exact rfl) ?_ | refine Both.GN (by exact rfl) ?_); conv => whnf)
      have htk : List.take ((tps (a :: r)).length + (List.take 1 (List.drop 0 [PV.agg [.int .i64 x.a, .int .i64 (sh - off + on)]])).length) (List.drop 0 (tps (a :: r) ++ List.take 1 (List.drop 0 [PV.agg [.int .i64 x.a, .int .i64 (sh - off + on)]]))) = tps (a :: r) ++ [PV.agg [.int .i64 x.a, .int .i64 (sh - off + on)]] := by
        rw [List.drop_zero]
        exact List.take_of_length_le (by simp)
      rw [hi1, htk]
      refine c2 _ (fun L2 M2 hL2 hM2 => ?_)
      (conv => whnf); repeat ((first | (refine And.intro ?_ ?_; focus exact Cl4) | refine Both.T (by exact rfl) ?_ | refine Both.F (by exact rfl) ?_ | refine Both.GT (by exact rfl) (by exact rfl) ?_ | refine Both.GF (by exact rfl) ?_ | refine Both.GN (by exact rfl) ?_); conv => whnf)
      exact h L2 M2 hL2 hM2
  rw [if_neg h26] at h
  have e26 : (x.op == 26) = false := by simp; omega
  rw [e26]
  (conv => whnf); repeat ((first | (refine And.intro ?_ ?_; focus exact Cl4) | refine Both.T (by exact rfl) ?_ | refine Both.F (by exact rfl) ?_ | refine Both.GT (by exact rfl) (by exact rfl) ?_ | refine Both.GF (by exact rfl) ?_ | refine Both.GN (by exact rfl) ?_); conv => whnf)
  by_cases h27 : x.op = 27
  · rw [if_pos h27] at h
    rw [h27]
    (conv => whnf); repeat ((first | (refine And.intro ?_ ?_; focus exact Cl4) | refine Both.T (by exact rfl) ?_ | refine Both.F (by exact rfl) ?_ | refine Both.GT (by exact rfl) (by exact rfl) ?_ | refine Both.GF (by exact rfl) ?_ | refine Both.GN (by exact rfl) ?_); conv => whnf)
    rw [gl]
    by_cases ht0 : ts = []
    · rw [if_pos ht0] at h
      rw [show ((ts.length : Int) == 0) = true by rw [ht0]; rfl]
      (conv => whnf); repeat ((first | (refine And.intro ?_ ?_; focus exact Cl4) | refine Both.T (by exact rfl) ?_ | refine Both.F (by exact rfl) ?_ | refine Both.GT (by exact rfl) (by exact rfl) ?_ | refine Both.GF (by exact rfl) ?_ | refine Both.GN (by exact rfl) ?_); conv => whnf)
      exact h L M hL hM
    · rw [if_neg ht0] at h
      have hpos : 0 < ts.length := List.length_pos_iff.2 ht0
      rw [show ((ts.length : Int) == 0) = false by simp; omega]
      (conv => whnf); repeat ((first | (refine And.intro ?_ ?_; focus exact Cl4) | refine Both.T (by exact rfl) ?_ | refine Both.F (by exact rfl) ?_ | refine Both.GT (by exact rfl) (by exact rfl) ?_ | refine Both.GF (by exact rfl) ?_ | refine Both.GN (by exact rfl) ?_); conv => whnf)
      rw [gl, wrap64 (n := (ts.length : Int) - 1) (by omega) (by omega)]
      have hdl : List.drop 0 (List.take ((ts.length : Int) - 1).toNat (tps ts)) = tps ts.dropLast := by
        rw [List.drop_zero, show ((ts.length : Int) - 1).toNat = ts.length - 1 by omega, List.dropLast_eq_take, tps, tps, List.map_take]
      (conv => whnf); repeat ((first | (refine And.intro ?_ ?_; focus exact Cl4) | refine Both.T (by exact rfl) ?_ | refine Both.F (by exact rfl) ?_ | refine Both.GT (by exact rfl) (by exact rfl) ?_ | refine Both.GF (by exact rfl) ?_ | refine Both.GN (by exact rfl) ?_); conv => whnf)
      rw [hdl, hi1]
      refine come_spec k ((i : Int) + 1, ⟨sh - off + on, ts.dropLast⟩) L M z _ hL hM (by show (0 : Int) ≤ (i : Int) + 1; omega) (hz.imp id fun h => (by rw [h]; rfl)) (by omega) (by omega) (by show ts.dropLast.length ≤ _; rw [List.length_dropLast]; omega) hts6 _ (fun L1 M1 hL1 hM1 => ?_)
      (conv => whnf); repeat ((first | (refine And.intro ?_ ?_; focus exact Cl4) | refine Both.T (by exact rfl) ?_ | refine Both.F (by exact rfl) ?_ | refine Both.GT (by exact rfl) (by exact rfl) ?_ | refine Both.GF (by exact rfl) ?_ | refine Both.GN (by exact rfl) ?_); conv => whnf)
      exact h L1 M1 hL1 hM1
  rw [if_neg h27] at h
  have e27 : (x.op == 27) = false := by simp; omega
  rw [e27]
  (conv => whnf); repeat ((first | (refine And.intro ?_ ?_; focus exact Cl4) | refine Both.T (by exact rfl) ?_ | refine Both.F (by exact rfl) ?_ | refine Both.GT (by exact rfl) (by exact rfl) ?_ | refine Both.GF (by exact rfl) ?_ | refine Both.GN (by exact rfl) ?_); conv => whnf)
  rw [hi1]
  refine come_spec k ((i : Int) + 1, ⟨sh - off + on, ts⟩) L M z true hL hM (by show (0 : Int) ≤ (i : Int) + 1; omega) hz (by omega) (by omega) (by show ts.length ≤ _; omega) hts6 _ (fun L1 M1 hL1 hM1 => ?_)
  (conv => whnf); repeat ((first | (refine And.intro ?_ ?_; focus exact Cl4) | refine Both.T (by exact rfl) ?_ | refine Both.F (by exact rfl) ?_ | refine Both.GT (by exact rfl) (by exact rfl) ?_ | refine Both.GF (by exact rfl) ?_ | refine Both.GN (by exact rfl) ?_); conv => whnf)
  exact h L1 M1 hL1 hM1
end Go.Vc
namespace Go.Vc
open Go Go.Proofs
set_option maxRecDepth 100000
set_option maxHeartbeats 8000000 in
theorem come0_spec (n : Nat) (L : List PV) (hL : PLs (List.replicate n none) L) (h0 : 0 < n) (hn : n ≤ 100000) (Post : PV → List (Nat × Blk) → Prop)
    (h : ∀ L', PLs (startK n).pl L' → Post (.tup []) [(0, .box [.ref 3 1 0 n, .ref 1 4 0 1, .bool false]), (1, .row 38 3 L' true), (4, .row 3 1 [.int .i64 0] false)]) :
    Spec K 64 [.ptr 0 0, .int .i64 0, .int .i64 0, .sl 0 [] true true] [(0, .box [.ref 3 1 0 n, .sl 0 [] true true, .bool false]), (1, .row 38 3 L true)] Post := by
  refine is64.specW K_ok K_mix true (by simp) (by simp [keys]) ?_
  have hLl := hL.len
  rw [List.length_replicate] at hLl
  have hr := hL.at_ 0 (by rw [List.length_replicate]; exact h0)
  have ha : PL.at (List.replicate n none) 0 = none := by unfold PL.at; rw [List.getElem?_replicate]; split <;> rfl
  rw [ha] at hr
  obtain ⟨z', t', o', hq⟩ := hr
  (conv => whnf); repeat ((first | (refine And.intro ?_ ?_; focus exact Cl4) | refine Both.T (by exact rfl) ?_ | refine Both.F (by exact rfl) ?_ | refine Both.GT (by exact rfl) (by exact rfl) ?_ | refine Both.GF (by exact rfl) ?_ | refine Both.GN (by exact rfl) ?_); conv => whnf)
  refine Both.F (by rw [decide_eq_false (show ¬ (n : Int) ≤ 0 by omega)]; rfl) ?_
  (conv => whnf); repeat ((first | (refine And.intro ?_ ?_; focus exact Cl4) | refine Both.T (by exact rfl) ?_ | refine Both.F (by exact rfl) ?_ | refine Both.GT (by exact rfl) (by exact rfl) ?_ | refine Both.GF (by exact rfl) ?_ | refine Both.GN (by exact rfl) ?_); conv => whnf)
  rw [show 0 + (0 : Int).toNat = 0 from rfl, hq]
  (conv => whnf); repeat ((first | (refine And.intro ?_ ?_; focus exact Cl4) | refine Both.T (by exact rfl) ?_ | refine Both.F (by exact rfl) ?_ | refine Both.GT (by exact rfl) (by exact rfl) ?_ | refine Both.GF (by exact rfl) ?_ | refine Both.GN (by exact rfl) ?_); conv => whnf)
  rw [hq]
  refine h (L.set 0 (.agg [.bool true, .int .i64 0, .sl 0 [] true true])) ?_
  have := hL.set (i := 0) (s := ⟨0, []⟩) (v := .agg [.bool true, .int .i64 0, .sl 0 [] true true]) (by rw [List.length_replicate]; exact h0) ⟨0, true, rfl, .inr rfl⟩
  exact this
/-- Places, as they are handed on. -/
def PlW : Option HS → PV → Prop
  | none, p => ∃ z t o, p = .agg [.bool false, .int .i64 0, .sl z [] t o]
  | some s, p => ∃ z t o, p = .agg [.bool true, .int .i64 s.h, .sl z (tps s.ts) t o] ∧ (z = 2 ∨ s.ts = [])
structure PWs (pl : PL) (L : List PV) : Prop where
  len : L.length = pl.length
  at_ : ∀ i, i < pl.length → PlW (PL.at pl i) (nth L i)
theorem clone_spec (ts : List (Int × Int)) (z : Nat) (t : Bool) (hz : z = 2 ∨ ts = []) (hl : ts.length ≤ 1000000) (Post : PV → List (Nat × Blk) → Prop)
    (h : ∀ z', (z' = 2 ∨ ts = []) → Post (.sl z' (tps ts) false true) []) : Spec K 66 [.sl z (tps ts) t true] [] Post := by
  refine is66.specW K_ok K_mix false (by simp) (by simp [keys]) ?_
  have gl : (tps ts).length = ts.length := List.length_map _
  have fl := tps_flat ts
  (conv => whnf); repeat ((first | (refine And.intro ?_ ?_; focus exact Cl4) | refine Both.T (by exact rfl) ?_ | refine Both.F (by exact rfl) ?_ | refine Both.GT (by exact rfl) (by exact rfl) ?_ | refine Both.GF (by exact rfl) ?_ | refine Both.GN (by exact rfl) ?_); conv => whnf)
  intro bb hb
  (conv => whnf); repeat ((first | (refine And.intro ?_ ?_; focus exact Cl4) | refine Both.T (by exact rfl) ?_ | refine Both.F (by exact rfl) ?_ | refine Both.GT (by exact rfl) (by exact rfl) ?_ | refine Both.GF (by exact rfl) ?_ | refine Both.GN (by exact rfl) ?_); conv => whnf)
  cases bb
  · (conv => whnf); repeat ((first | (refine And.intro ?_ ?_; focus exact Cl4) | refine Both.T (by exact rfl) ?_ | refine Both.F (by exact rfl) ?_ | refine Both.GT (by exact rfl) (by exact rfl) ?_ | refine Both.GF (by exact rfl) ?_ | refine Both.GN (by exact rfl) ?_); conv => whnf)
    refine ⟨by rw [gl]; show (0 + ts.length) * 17 ≤ _; omega, ?_⟩
    (conv => whnf); repeat ((first | (refine And.intro ?_ ?_; focus exact Cl4) | refine Both.T (by exact rfl) ?_ | refine Both.F (by exact rfl) ?_ | refine Both.GT (by exact rfl) (by exact rfl) ?_ | refine Both.GF (by exact rfl) ?_ | refine Both.GN (by exact rfl) ?_); conv => whnf)
    rw [show List.take (0 + (tps ts).length) (List.drop 0 (List.take 0 [] ++ tps ts)) = tps ts from by rw [Nat.zero_add]; exact List.take_length]
    exact h 2 (.inl rfl)
  · have : ts = [] := by
      by_cases hc : tps ts = []
      · exact List.map_eq_nil_iff.1 hc
      · exact absurd (hb hc) (by simp)
    subst this
    (conv => whnf); repeat ((first | (refine And.intro ?_ ?_; focus exact Cl4) | refine Both.T (by exact rfl) ?_ | refine Both.F (by exact rfl) ?_ | refine Both.GT (by exact rfl) (by exact rfl) ?_ | refine Both.GF (by exact rfl) ?_ | refine Both.GN (by exact rfl) ?_); conv => whnf)
    exact h _ (.inr rfl)
end Go.Vc
