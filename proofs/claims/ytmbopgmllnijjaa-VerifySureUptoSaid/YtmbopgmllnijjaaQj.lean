/- What is proved here: contracts of functions of the program: of each function what it hands back and what it leaves in memory. Conditions: those that each theorem names. -/
import Derived.Test.YtmbopgmllnijjaaQa
import Derived.Test.YtmbopgmllnijjaaPa
set_option linter.unusedVariables false
set_option linter.unusedSimpArgs false
set_option linter.unusedSectionVars false
namespace Go.Vc
open Go Go.Proofs
set_option maxRecDepth 100000
/-! What is known, as cells. -/
def TP (t : Int × Int) : PV := .agg [.int .i64 t.1, .int .i64 t.2]
abbrev tps (ts : List (Int × Int)) : List PV := ts.map TP
theorem tps_nth {ts : List (Int × Int)} {i : Nat} (h : i < ts.length) : nth (tps ts) i = .agg [.int .i64 ts[i].1, .int .i64 ts[i].2] := by
  unfold nth
  rw [List.getD_eq_getElem?_getD, List.getElem?_map, List.getElem?_eq_getElem h]; rfl
def PlR : Option HS → PV → Prop
  | none, p => ∃ z t o, p = .agg [.bool false, .int .i64 0, .sl z [] t o]
  | some s, p => ∃ z o, p = .agg [.bool true, .int .i64 s.h, .sl z (tps s.ts) true o] ∧ (z = 2 ∨ s.ts = [])
structure PLs (pl : PL) (L : List PV) : Prop where
  len : L.length = pl.length
  at_ : ∀ i, i < pl.length → PlR (PL.at pl i) (nth L i)
theorem tps_flat (ts : List (Int × Int)) : ∀ u ∈ tps ts, u.cells.length = 2 ∧ u.cells.all PV.flat = true := fun u hu => by
  obtain ⟨t, _, rfl⟩ := List.mem_map.1 hu
  exact ⟨rfl, rfl⟩
theorem tps_flat1 (ts : List (Int × Int)) : ∀ u ∈ tps ts, u.cells.all PV.flat = true := fun u hu => (tps_flat ts u hu).2
theorem nth_set {L : List PV} {i j : Nat} {v : PV} (h : i < L.length) : nth (L.set i v) j = if i = j then v else nth L j := by
  unfold nth
  rw [List.getD_eq_getElem?_getD, List.getElem?_set, List.getD_eq_getElem?_getD]
  by_cases hj : i = j
  · subst hj; simp [h]
  · simp [hj]
theorem PLs.set {pl : PL} {L : List PV} (h : PLs pl L) {i : Nat} (hi : i < pl.length) {s : HS} {v : PV} (hv : PlR (some s) v) : PLs (pl.set i (some s)) (L.set i v) := by
  refine ⟨by rw [List.length_set, List.length_set, h.len], fun j hj => ?_⟩
  rw [List.length_set] at hj
  rw [nth_set (by rw [h.len]; exact hi), PL.at_set]
  by_cases hij : i = j
  · subst hij; rw [if_pos rfl, if_pos ⟨rfl, hi⟩]; exact hv
  · rw [if_neg hij, if_neg (fun hc => hij hc.1)]; exact h.at_ j hj
theorem eqT (a b c d : Int) : ((a == c) && ((b == d) && true)) = decide ((a, b) = (c, d)) := by
  rw [Bool.eq_iff_iff]; simp
set_option maxHeartbeats 4000000 in
theorem eqTries_spec (ts us : List (Int × Int)) (z1 z2 : Nat) (t1 t2 : Bool) (h1 : z1 = 2 ∨ ts = []) (h2 : z2 = 2 ∨ us = []) (hl : ts.length ≤ 1000000) (Post : PV → List (Nat × Blk) → Prop) (h : Post (.bool (decide (ts = us))) []) :
    Spec K 78 [.sl z1 (tps ts) t1 true, .sl z2 (tps us) t2 true] [] Post := by
  refine is78.specW K_ok K_mix false (by simp) (by simp [keys]) ?_
  have g1 : z1 = 2 ∨ tps ts = [] := h1.imp id fun h => by rw [h]; rfl
  have g2 : z2 = 2 ∨ tps us = [] := h2.imp id fun h => by rw [h]; rfl
  have m1 : (tps ts).length = ts.length := List.length_map _
  have m2 : (tps us).length = us.length := List.length_map _
  (conv => whnf); repeat ((first | (refine And.intro ?_ ?_; focus exact Cl4) | refine Both.T (by exact rfl) ?_ | refine Both.F (by exact rfl) ?_ | refine Both.GT (by exact rfl) (by exact rfl) ?_ | refine Both.GF (by exact rfl) ?_ | refine Both.GN (by exact rfl) ?_); conv => whnf)
  rw [m1, m2]
  by_cases hlen : ts.length = us.length
  · rw [show ((ts.length : Int) != (us.length : Int)) = false by simp [hlen]]
    (conv => whnf); repeat ((first | (refine And.intro ?_ ?_; focus exact Cl4) | refine Both.T (by exact rfl) ?_ | refine Both.F (by exact rfl) ?_ | refine Both.GT (by exact rfl) (by exact rfl) ?_ | refine Both.GF (by exact rfl) ?_ | refine Both.GN (by exact rfl) ?_); conv => whnf)
    rw [m1]
    refine ⟨Nat, fun i => ⟨26, [(13, .int .i64 i), (12, .int .i64 ts.length), (1, .sl z2 (tps us) t2 true), (0, .sl z1 (tps ts) t1 true)], [], []⟩, fun i => i ≤ ts.length ∧ ts.take i = us.take i, fun i => ts.length - i, ⟨[], 0, ⟨Nat.zero_le _, rfl⟩, ?_⟩, fun i hI => ?_⟩
    · simp [meets, ghosts, St.le, St.get, look, keys, PV.labs, labsL, lookB, Blk.labs]
    · obtain ⟨hi, hin⟩ := hI
      conv => (arg 5; dsimp only)
      (conv => whnf); repeat ((first | (refine And.intro ?_ ?_; focus exact Cl4) | refine Both.T (by exact rfl) ?_ | refine Both.F (by exact rfl) ?_ | refine Both.GT (by exact rfl) (by exact rfl) ?_ | refine Both.GF (by exact rfl) ?_ | refine Both.GN (by exact rfl) ?_); conv => whnf)
      by_cases hix : i < ts.length
      · have hiu : i < us.length := by omega
        rw [decide_eq_true (show (i : Int) < (ts.length : Int) by omega)]
        have q1 := tps_nth hix
        have q2 := tps_nth hiu
        (conv => whnf); repeat ((first | (refine And.intro ?_ ?_; focus exact Cl4) | refine Both.T (by exact rfl) ?_ | refine Both.F (by exact rfl) ?_ | refine Both.GT (by exact rfl) (by exact rfl) ?_ | refine Both.GF (by exact rfl) ?_ | refine Both.GN (by exact rfl) ?_); conv => whnf)
        by_cases he : ts[i] = us[i]
        · (conv => whnf); repeat' (first | ((first | (refine And.intro ?_ ?_; focus exact Cl4) | refine Both.T (by exact rfl) ?_ | refine Both.F (by exact rfl) ?_ | refine Both.GT (by exact rfl) (by exact rfl) ?_ | refine Both.GF (by exact rfl) ?_ | refine Both.GN (by exact rfl) ?_); conv => whnf) | (rw [Int.toNat_natCast, q1]; conv => whnf) | (rw [q1]; conv => whnf) | (rw [Int.toNat_natCast, q2]; conv => whnf) | (rw [q2]; conv => whnf) | ((refine Both.mk ?_ ?_ <;> fail_if_success (intro _)) <;> conv => whnf))
          all_goals (
            have e0 : (!((ts[i].1 == us[i].1) && ((ts[i].2 == us[i].2) && true))) = false := by rw [eqT]; simp [he]
            refine Both.F e0 ?_
            (conv => whnf); repeat ((first | (refine And.intro ?_ ?_; focus exact Cl4) | refine Both.T (by exact rfl) ?_ | refine Both.F (by exact rfl) ?_ | refine Both.GT (by exact rfl) (by exact rfl) ?_ | refine Both.GF (by exact rfl) ?_ | refine Both.GN (by exact rfl) ?_); conv => whnf)
            rw [wrap64 (n := (i : Int) + 1) (by omega) (by omega)]
            refine ⟨[], i + 1, ⟨hix, by rw [List.take_succ_eq_append_getElem hix, List.take_succ_eq_append_getElem hiu, hin, he]⟩, by show ts.length - (i + 1) < ts.length - i; omega, ?_⟩
            simp [meets, ghosts, St.le, St.get, look, keys, PV.labs, labsL, lookB, Blk.labs])
        · have hne : decide (ts = us) = false := decide_eq_false (fun hc => he (by subst hc; rfl))
          rw [hne] at h
          (conv => whnf); repeat' (first | ((first | (refine And.intro ?_ ?_; focus exact Cl4) | refine Both.T (by exact rfl) ?_ | refine Both.F (by exact rfl) ?_ | refine Both.GT (by exact rfl) (by exact rfl) ?_ | refine Both.GF (by exact rfl) ?_ | refine Both.GN (by exact rfl) ?_); conv => whnf) | (rw [Int.toNat_natCast, q1]; conv => whnf) | (rw [q1]; conv => whnf) | (rw [Int.toNat_natCast, q2]; conv => whnf) | (rw [q2]; conv => whnf) | ((refine Both.mk ?_ ?_ <;> fail_if_success (intro _)) <;> conv => whnf))
          all_goals (
            have e0 : (!((ts[i].1 == us[i].1) && ((ts[i].2 == us[i].2) && true))) = true := by
              rw [eqT]
              simp only [Bool.not_eq_true', decide_eq_false_iff_not]
              exact he
            refine Both.T e0 ?_
            (conv => whnf); repeat ((first | (refine And.intro ?_ ?_; focus exact Cl4) | refine Both.T (by exact rfl) ?_ | refine Both.F (by exact rfl) ?_ | refine Both.GT (by exact rfl) (by exact rfl) ?_ | refine Both.GF (by exact rfl) ?_ | refine Both.GN (by exact rfl) ?_); conv => whnf)
            exact h)
      · obtain rfl : i = ts.length := by omega
        rw [decide_eq_false (show ¬ (ts.length : Int) < (ts.length : Int) by omega)]
        (conv => whnf); repeat ((first | (refine And.intro ?_ ?_; focus exact Cl4) | refine Both.T (by exact rfl) ?_ | refine Both.F (by exact rfl) ?_ | refine Both.GT (by exact rfl) (by exact rfl) ?_ | refine Both.GF (by exact rfl) ?_ | refine Both.GN (by exact rfl) ?_); conv => whnf)
        have : ts = us := by rw [List.take_length, hlen, List.take_length] at hin; exact hin
        rw [decide_eq_true this] at h
        exact h
  · have hne : decide (ts = us) = false := decide_eq_false (fun hc => hlen (by rw [hc]))
    rw [hne] at h
    rw [show ((ts.length : Int) != (us.length : Int)) = true by simp; omega]
    (conv => whnf); repeat ((first | (refine And.intro ?_ ?_; focus exact Cl4) | refine Both.T (by exact rfl) ?_ | refine Both.F (by exact rfl) ?_ | refine Both.GT (by exact rfl) (by exact rfl) ?_ | refine Both.GF (by exact rfl) ?_ | refine Both.GN (by exact rfl) ?_); conv => whnf)
    exact h
end Go.Vc
namespace Go.Vc
open Go Go.Proofs
set_option maxRecDepth 100000
/-! Something comes to an instruction. -/
abbrev lfs (l : List Nat) : List PV := l.map fun i : Nat => PV.int .i64 (i : Int)
structure Lf (left : List Nat) (M : List PV) : Prop where
  take : M.take left.length = lfs left
/-- What a search holds, in memory. -/
abbrev kh (k : KS) (L M : List PV) : List (Nat × Blk) := [(0, .box [.ref 3 1 0 k.pl.length, .ref 1 2 0 k.left.length, .bool k.odd]), (1, .row 38 3 L true), (2, .row 3 1 M true)]
theorem PL.at_lt {l : PL} {i : Nat} {s : HS} (h : PL.at l i = some s) : i < l.length := by
  by_cases hc : i < l.length
  · exact hc
  · rw [PL.at, List.getElem?_eq_none (by omega)] at h; cases h
set_option maxHeartbeats 8000000 in
theorem come_spec (k : KS) (t : Int × HS) (L M : List PV) (z : Nat) (tt : Bool) (hL : PLs k.pl L) (hM : Lf k.left M) (h0 : 0 ≤ t.1) (hz : z = 2 ∨ t.2.ts = []) (hn : k.pl.length ≤ 1000000) (hm : k.left.length ≤ 1000000) (ht : t.2.ts.length ≤ 1000000)
    (hts : ∀ i s, PL.at k.pl i = some s → s.ts.length ≤ 1000000) (Post : PV → List (Nat × Blk) → Prop)
    (h : ∀ L' M', PLs (comeK k t).pl L' → Lf (comeK k t).left M' → Post (.tup []) (kh (comeK k t) L' M')) :
    Spec K 64 [.ptr 0 0, .int .i64 t.1, .int .i64 t.2.h, .sl z (tps t.2.ts) tt true] (kh k L M) Post := by
  obtain ⟨a, hh, ts⟩ := t
  obtain ⟨pl, left, odd⟩ := k
  simp only at *
  refine is64.specW K_ok K_mix true (by simp) (by simp [keys]) ?_
  have hLl := hL.len
  (conv => whnf); repeat ((first | (refine And.intro ?_ ?_; focus exact Cl4) | refine Both.T (by exact rfl) ?_ | refine Both.F (by exact rfl) ?_ | refine Both.GT (by exact rfl) (by exact rfl) ?_ | refine Both.GF (by exact rfl) ?_ | refine Both.GN (by exact rfl) ?_); conv => whnf)
  by_cases hbad : (pl.length : Int) ≤ a ∨ 32 < hh
  · have e : comeK ⟨pl, left, odd⟩ (a, ⟨hh, ts⟩) = ⟨pl, left, true⟩ := by unfold comeK; rw [if_pos hbad]
    rw [e] at h
    refine Both.T (by rcases hbad with hb | hb <;> simp [hb]) ?_
    (conv => whnf); repeat ((first | (refine And.intro ?_ ?_; focus exact Cl4) | refine Both.T (by exact rfl) ?_ | refine Both.F (by exact rfl) ?_ | refine Both.GT (by exact rfl) (by exact rfl) ?_ | refine Both.GF (by exact rfl) ?_ | refine Both.GN (by exact rfl) ?_); conv => whnf)
    exact h L M hL hM
  · have h1 : ¬ (pl.length : Int) ≤ a := fun hc => hbad (.inl hc)
    have h2 : ¬ 32 < hh := fun hc => hbad (.inr hc)
    refine Both.F (by rw [decide_eq_false h1, decide_eq_false h2]; rfl) ?_
    have hlt : a.toNat < pl.length := by omega
    have hltL : a.toNat < L.length := by omega
    have hr := hL.at_ a.toNat hlt
    (conv => whnf); repeat ((first | (refine And.intro ?_ ?_; focus exact Cl4) | refine Both.T (by exact rfl) ?_ | refine Both.F (by exact rfl) ?_ | refine Both.GT (by exact rfl) (by exact rfl) ?_ | refine Both.GF (by exact rfl) ?_ | refine Both.GN (by exact rfl) ?_); conv => whnf)
    cases ha : PL.at pl a.toNat with
    | some s =>
      have e : comeK ⟨pl, left, odd⟩ (a, ⟨hh, ts⟩) = ⟨pl, left, odd || decide (s ≠ ⟨hh, ts⟩)⟩ := by unfold comeK; rw [if_neg hbad]; simp only; rw [ha]
      rw [e] at h
      rw [ha] at hr
      obtain ⟨z', o', hq, hz'⟩ := hr
      have hsl := hts _ _ ha
      have hne : decide (s ≠ ⟨hh, ts⟩) = (decide (s.h ≠ hh) || !decide (s.ts = ts)) := by
        obtain ⟨sh, sts⟩ := s
        rw [Bool.eq_iff_iff]
        simp [HS.mk.injEq, Classical.or_iff_not_imp_left]
      rw [hne] at h
      rw [Nat.zero_add, hq]
      cases odd
      · (conv => whnf); repeat ((first | (refine And.intro ?_ ?_; focus exact Cl4) | refine Both.T (by exact rfl) ?_ | refine Both.F (by exact rfl) ?_ | refine Both.GT (by exact rfl) (by exact rfl) ?_ | refine Both.GF (by exact rfl) ?_ | refine Both.GN (by exact rfl) ?_); conv => whnf)
        rw [hq]
        (conv => whnf); repeat ((first | (refine And.intro ?_ ?_; focus exact Cl4) | refine Both.T (by exact rfl) ?_ | refine Both.F (by exact rfl) ?_ | refine Both.GT (by exact rfl) (by exact rfl) ?_ | refine Both.GF (by exact rfl) ?_ | refine Both.GN (by exact rfl) ?_); conv => whnf)
        cases hsh : (s.h != hh)
        · have h3 : decide (s.h ≠ hh) = false := by simpa using hsh
          rw [h3] at h
          rw [hq]
          (conv => whnf); repeat ((first | (refine And.intro ?_ ?_; focus exact Cl4) | refine Both.T (by exact rfl) ?_ | refine Both.F (by exact rfl) ?_ | refine Both.GT (by exact rfl) (by exact rfl) ?_ | refine Both.GF (by exact rfl) ?_ | refine Both.GN (by exact rfl) ?_); conv => whnf)
          refine eqTries_spec s.ts ts z' z _ _ hz' hz hsl _ ?_
          (conv => whnf); repeat ((first | (refine And.intro ?_ ?_; focus exact Cl4) | refine Both.T (by exact rfl) ?_ | refine Both.F (by exact rfl) ?_ | refine Both.GT (by exact rfl) (by exact rfl) ?_ | refine Both.GF (by exact rfl) ?_ | refine Both.GN (by exact rfl) ?_); conv => whnf)
          exact h L M hL hM
        · have h3 : decide (s.h ≠ hh) = true := by simpa using hsh
          rw [h3] at h
          rw [hq]
          (conv => whnf); repeat ((first | (refine And.intro ?_ ?_; focus exact Cl4) | refine Both.T (by exact rfl) ?_ | refine Both.F (by exact rfl) ?_ | refine Both.GT (by exact rfl) (by exact rfl) ?_ | refine Both.GF (by exact rfl) ?_ | refine Both.GN (by exact rfl) ?_); conv => whnf)
          exact h L M hL hM
      · (conv => whnf); repeat ((first | (refine And.intro ?_ ?_; focus exact Cl4) | refine Both.T (by exact rfl) ?_ | refine Both.F (by exact rfl) ?_ | refine Both.GT (by exact rfl) (by exact rfl) ?_ | refine Both.GF (by exact rfl) ?_ | refine Both.GN (by exact rfl) ?_); conv => whnf)
        rw [hq]
        (conv => whnf); repeat ((first | (refine And.intro ?_ ?_; focus exact Cl4) | refine Both.T (by exact rfl) ?_ | refine Both.F (by exact rfl) ?_ | refine Both.GT (by exact rfl) (by exact rfl) ?_ | refine Both.GF (by exact rfl) ?_ | refine Both.GN (by exact rfl) ?_); conv => whnf)
        rw [hq]
        (conv => whnf); repeat ((first | (refine And.intro ?_ ?_; focus exact Cl4) | refine Both.T (by exact rfl) ?_ | refine Both.F (by exact rfl) ?_ | refine Both.GT (by exact rfl) (by exact rfl) ?_ | refine Both.GF (by exact rfl) ?_ | refine Both.GN (by exact rfl) ?_); conv => whnf)
        exact h L M hL hM
    | none =>
      have e : comeK ⟨pl, left, odd⟩ (a, ⟨hh, ts⟩) = ⟨pl.set a.toNat (some ⟨hh, ts⟩), left ++ [a.toNat], odd⟩ := by unfold comeK; rw [if_neg hbad]; simp only; rw [ha]
      rw [e] at h
      rw [ha] at hr
      obtain ⟨z', t', o', hq⟩ := hr
      have g : z = 2 ∨ tps ts = [] := hz.imp id fun h => by rw [h]; rfl
      have gl : (tps ts).length = ts.length := List.length_map _
      rw [Nat.zero_add, hq]
      (conv => whnf); repeat ((first | (refine And.intro ?_ ?_; focus exact Cl4) | refine Both.T (by exact rfl) ?_ | refine Both.F (by exact rfl) ?_ | refine Both.GT (by exact rfl) (by exact rfl) ?_ | refine Both.GF (by exact rfl) ?_ | refine Both.GN (by exact rfl) ?_); conv => whnf)
      refine ⟨by show (left.length + 1) * 9 ≤ _; omega, ?_⟩
      (conv => whnf); repeat ((first | (refine And.intro ?_ ?_; focus exact Cl4) | refine Both.T (by exact rfl) ?_ | refine Both.F (by exact rfl) ?_ | refine Both.GT (by exact rfl) (by exact rfl) ?_ | refine Both.GF (by exact rfl) ?_ | refine Both.GN (by exact rfl) ?_); conv => whnf)
      rw [hq]
      have hct : List.drop 0 (List.take (((tps ts).length : Int)).toNat (tps ts)) = tps ts := by rw [List.drop_zero, Int.toNat_natCast, List.take_length]
      rw [hct, beq_self_eq_true]
      have hML : List.take (left ++ [a.toNat]).length (List.take left.length M ++ [PV.int .i64 a]) = lfs (left ++ [a.toNat]) := by
        have hM' : List.take left.length M = lfs left := hM.take
        have e2 : PV.int .i64 a = PV.int .i64 ((a.toNat : Nat) : Int) := by rw [Int.toNat_of_nonneg h0]
        rw [hM', e2]
        have : lfs (left ++ [a.toNat]) = lfs left ++ [PV.int .i64 ((a.toNat : Nat) : Int)] := by simp [lfs]
        rw [this, List.take_of_length_le]
        simp [lfs]
      have h9 := h (L.set a.toNat (.agg [.bool true, .int .i64 hh, .sl z (tps ts) true true])) (List.take left.length M ++ [PV.int .i64 a])
        (hL.set (s := ⟨hh, ts⟩) hlt ⟨z, _, rfl, hz⟩) ⟨hML⟩
      simp only [kh, List.length_set, List.length_append] at h9
      exact h9
end Go.Vc
