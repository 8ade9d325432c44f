/- What is proved here: contracts of functions of the program: of each function what it hands back and what it leaves in memory. Conditions: those that each theorem names. -/
import Derived.Test.YtmbopgmllnijjaaQm
import Derived.Test.YtmbopgmllnijjaaQn
set_option linter.unusedVariables false
set_option linter.unusedSimpArgs false
set_option linter.unusedSectionVars false
namespace Go.Vc
open Go Go.Proofs
set_option maxRecDepth 100000
theorem ver_ok {p : PG} {f : Int} {pl : PL} (h : verM p f = .ok pl) : chkM p = 0 ∧ ∃ g ∈ p.funcs, funcK p g.code = some pl := by
  unfold verM at h
  split at h
  · cases h
  rename_i hc
  split at h
  · cases h
  split at h
  · cases h
  · rename_i g hg
    split at h
    · cases h
    · rename_i pl' hk
      cases h
      exact ⟨by simpa using hc, g, List.mem_of_getElem? hg, hk⟩
structure PB (pl : PL) : Prop where
  h0 : ∀ i s, PL.at pl i = some s → 0 ≤ s.h ∧ s.h ≤ 32 ∧ s.ts.length ≤ 8
  low : ∀ i s, PL.at pl i = some s → ∀ t ∈ s.ts, t.2 ≤ s.h
  lead : ∀ i s, PL.at pl i = some s → ∀ (k : Nat) t, s.ts[k]? = some t → 0 ≤ t.1 ∧ t.1 < pl.length ∧ PL.at pl t.1.toNat = some ⟨t.2 + 1, s.ts.take k⟩
theorem code_ahead {p : PG} {c : List IN} (h : CodeOk p c) : Ahead c := fun x hx hj => (h.ins x hx).jump hj
theorem code_moving {p : PG} {c : List IN} (h : CodeOk p c) : Moving p c := fun x hx => ⟨(h.ins x hx).off0, (h.ins x hx).on0⟩
theorem ver_bnd {p : PG} {zf zc : Nat} {lf lc : List PV} (hp : PGA p zf lf zc lc) {f : Int} {pl : PL} (h : verM p f = .ok pl) : pl.length ≤ 1000 ∧ PB pl := by
  obtain ⟨hc, g, hg, hk⟩ := ver_ok h
  have hco := may_code hp (chk_may hc) hg
  have hf := funcK_found p g.code (code_ahead hco) hco.pos
  rw [hk] at hf
  obtain ⟨hs, hkn⟩ := hf
  have hm := code_moving hco
  refine ⟨by rw [hkn.len]; exact hco.len, fun i s hi => ?_, fun i s hi t ht => ?_, fun i s hi k t ht => ?_⟩
  · have b := bounds hs hm ((hkn.at_ i s).1 hi)
    exact ⟨b.h0, b.h1, b.len⟩
  · exact (bounds hs hm ((hkn.at_ i s).1 hi)).low t ht
  · obtain ⟨q1, q2, q3⟩ := (bounds hs hm ((hkn.at_ i s).1 hi)).lead k t ht
    exact ⟨q1, by rw [hkn.len]; exact q2, (hkn.at_ _ _).2 q3⟩
set_option maxHeartbeats 32000000 in
theorem bounds_law (hF : FitsC) (hW : WorksC) (p : PG) (f : Int) (zf : Nat) (lf : List PV) (tf : Bool) (zc : Nat) (lc : List PV) (tc : Bool) (hp : PGA p zf lf zc lc) : CSpec K 4 [.agg (pgc zf lf tf zc lc tc), .int .i64 f] [] LawPost := by
  refine is4.cspecC [95] K_ok K_mix false (by simp) (by simp [keys]) ?_
  (conv => whnf); repeat ((first | (refine And.intro ?_ ?_; focus exact Cl4) | refine Both.T (by exact rfl) ?_ | refine Both.F (by exact rfl) ?_ | refine Both.GT (by exact rfl) (by exact rfl) ?_ | refine Both.GF (by exact rfl) ?_ | refine Both.GN (by exact rfl) ?_); conv => whnf)
  refine hW _ ?_
  (conv => whnf); repeat ((first | (refine And.intro ?_ ?_; focus exact Cl4) | refine Both.T (by exact rfl) ?_ | refine Both.F (by exact rfl) ?_ | refine Both.GT (by exact rfl) (by exact rfl) ?_ | refine Both.GF (by exact rfl) ?_ | refine Both.GN (by exact rfl) ?_); conv => whnf)
  refine verf_spec hF p f zf lf tf zc lc tc hp _ (fun e he => ?_) (fun pl L he hWs => ?_)
  · have h0 : e ≠ 0 := by
      intro h0
      subst h0
      unfold verM at he
      generalize chkM p = c at he
      split at he
      · rename_i hc; cases he; exact hc rfl
      split at he
      · cases he
      split at he
      · cases he
      · split at he <;> cases he
    have h1 : (e != 0) = true := by simpa using h0
    (conv => whnf); repeat ((first | (refine And.intro ?_ ?_; focus exact Cl4) | refine Both.T (by exact rfl) ?_ | refine Both.F (by exact rfl) ?_ | refine Both.GT (by exact rfl) (by exact rfl) ?_ | refine Both.GF (by exact rfl) ?_ | refine Both.GN (by exact rfl) ?_); conv => whnf)
    rw [h1]
    (conv => whnf); repeat ((first | (refine And.intro ?_ ?_; focus exact Cl4) | refine Both.T (by exact rfl) ?_ | refine Both.F (by exact rfl) ?_ | refine Both.GT (by exact rfl) (by exact rfl) ?_ | refine Both.GF (by exact rfl) ?_ | refine Both.GN (by exact rfl) ?_); conv => whnf)
  · obtain ⟨hpl, hb⟩ := ver_bnd hp he
    have hLl := hWs.len
    (conv => whnf); repeat ((first | (refine And.intro ?_ ?_; focus exact Cl4) | refine Both.T (by exact rfl) ?_ | refine Both.F (by exact rfl) ?_ | refine Both.GT (by exact rfl) (by exact rfl) ?_ | refine Both.GF (by exact rfl) ?_ | refine Both.GN (by exact rfl) ?_); conv => whnf)
    refine ⟨Nat, fun i => ⟨120, [(7, .int .i64 i), (5, .sl 3 L false true)], [], []⟩, fun i => i ≤ L.length, fun i => L.length - i, ⟨[], 0, Nat.zero_le _, ?_⟩, fun i hi => ?_⟩
    · simp [meets, ghosts, St.le, St.get, look, keys, PV.labs, labsL, lookB, Blk.labs]
    · conv => (arg 5; dsimp only)
      (conv => whnf); repeat ((first | (refine And.intro ?_ ?_; focus exact Cl4) | refine Both.T (by exact rfl) ?_ | refine Both.F (by exact rfl) ?_ | refine Both.GT (by exact rfl) (by exact rfl) ?_ | refine Both.GF (by exact rfl) ?_ | refine Both.GN (by exact rfl) ?_); conv => whnf)
      by_cases hix : i < L.length
      · rw [decide_eq_true (show (i : Int) < (L.length : Int) by omega)]
        (conv => whnf); repeat ((first | (refine And.intro ?_ ?_; focus exact Cl4) | refine Both.T (by exact rfl) ?_ | refine Both.F (by exact rfl) ?_ | refine Both.GT (by exact rfl) (by exact rfl) ?_ | refine Both.GF (by exact rfl) ?_ | refine Both.GN (by exact rfl) ?_); conv => whnf)
        have hr := hWs.at_ i (by omega)
        have hopen : ∃ b hh y ts u o, nth L ((i : Int)).toNat = .agg [.bool b, .int .i64 hh, .sl y (tps ts) u o] ∧ (y = 2 ∨ ts = []) ∧ 0 ≤ hh ∧ hh ≤ 32 ∧ ts.length ≤ 8 ∧ (b = false → hh = 0 ∧ ts = []) ∧
            (∀ t ∈ ts, t.2 ≤ hh) ∧ (∀ (k : Nat) t, ts[k]? = some t → 0 ≤ t.1 ∧ t.1 < pl.length ∧ PL.at pl t.1.toNat = some ⟨t.2 + 1, ts.take k⟩) := by
          rw [Int.toNat_natCast]
          cases ha : PL.at pl i with
          | none =>
            rw [ha] at hr
            obtain ⟨y, u, o, hq⟩ := hr
            exact ⟨false, 0, y, [], u, o, hq, .inr rfl, by decide, by decide, by decide, fun _ => ⟨rfl, rfl⟩, fun t ht => (by cases ht), fun k t ht => (by simp at ht)⟩
          | some s =>
            rw [ha] at hr
            obtain ⟨y, u, o, hq, hy⟩ := hr
            obtain ⟨q1, q2, q3⟩ := hb.h0 i s ha
            exact ⟨true, s.h, y, s.ts, u, o, hq, hy, q1, q2, q3, fun h => (by cases h), hb.low i s ha, hb.lead i s ha⟩
        obtain ⟨b, hh, y, ts, u, o, hq, hy, q1, q2, q3, q4, q5, q6⟩ := hopen
        have gl : (tps ts).length = ts.length := List.length_map _
        have gy : y = 2 ∨ tps ts = [] := hy.imp id fun h => by rw [h]; rfl
        have d1 : decide (hh < 0) = false := decide_eq_false (by omega)
        have d2 : decide (32 < hh) = false := decide_eq_false (by omega)
        have d3 : decide ((8 : Int) < ((tps ts).length : Int)) = false := decide_eq_false (by omega)
        have d4 : b = false → (hh != 0) = false ∧ decide ((0 : Int) < ((tps ts).length : Int)) = false := fun h => by
          obtain ⟨rfl, rfl⟩ := q4 h
          exact ⟨rfl, rfl⟩
        cases b
        all_goals (
          try obtain ⟨d5, d6⟩ := d4 rfl
          (conv => whnf); repeat' (first | ((first | (refine And.intro ?_ ?_; focus exact Cl4) | refine Both.T (by exact rfl) ?_ | refine Both.F (by exact rfl) ?_ | refine Both.GT (by exact rfl) (by exact rfl) ?_ | refine Both.GF (by exact rfl) ?_ | refine Both.GN (by exact rfl) ?_); conv => whnf) | (rw [hq]; conv => whnf) | (rw [d1]; conv => whnf) | (rw [d2]; conv => whnf) | (rw [d3]; conv => whnf) | (rw [d5]; conv => whnf) | (rw [d6]; conv => whnf) | ((refine Both.mk ?_ ?_ <;> fail_if_success (intro _)) <;> conv => whnf))
          refine ⟨Nat, fun k => ⟨120, [(8, .int .i64 k), (7, .int .i64 i), (5, .sl 3 L false true)], [], []⟩, fun k => k ≤ ts.length, fun k => ts.length - k, ⟨[], 0, Nat.zero_le _, ?_⟩, fun k hk => ?_⟩
          · simp [meets, ghosts, St.le, St.get, look, keys, PV.labs, labsL, lookB, Blk.labs]
          · conv => (arg 5; dsimp only)
            (conv => whnf); repeat ((first | (refine And.intro ?_ ?_; focus exact Cl4) | refine Both.T (by exact rfl) ?_ | refine Both.F (by exact rfl) ?_ | refine Both.GT (by exact rfl) (by exact rfl) ?_ | refine Both.GF (by exact rfl) ?_ | refine Both.GN (by exact rfl) ?_); conv => whnf)
            rw [hq]
            (conv => whnf); repeat ((first | (refine And.intro ?_ ?_; focus exact Cl4) | refine Both.T (by exact rfl) ?_ | refine Both.F (by exact rfl) ?_ | refine Both.GT (by exact rfl) (by exact rfl) ?_ | refine Both.GF (by exact rfl) ?_ | refine Both.GN (by exact rfl) ?_); conv => whnf)
            by_cases hkx : k < ts.length
            · first
              | (exfalso; obtain ⟨_, e⟩ := q4 rfl; rw [e] at hkx; exact absurd hkx (Nat.not_lt_zero _))
              | (
                have hqk : nth (tps ts) (Int.toNat (k : Int)) = .agg [.int .i64 ts[k].1, .int .i64 ts[k].2] := by rw [Int.toNat_natCast]; exact tps_nth hkx
                obtain ⟨r1, r2, r3⟩ := q6 k _ (List.getElem?_eq_getElem hkx)
                have r4 := q5 _ (List.getElem_mem hkx)
                have r5 := (hb.h0 _ _ r3).1
                simp only at r5
                have hlead : leadsM pl ts[k].1 (ts[k].2 + 1) (ts.take k) = true := by
                  unfold leadsM
                  rw [decide_eq_true r1, decide_eq_true r2, decide_eq_true r3]; rfl
                have htk : List.drop 0 (List.take (Int.toNat (k : Int)) (tps ts)) = tps (ts.take k) := by rw [List.drop_zero, Int.toNat_natCast]; exact (List.map_take).symm
                have hlk : y = 2 ∨ ts.take k = [] := hy.imp id fun h => by rw [h, List.take_nil]
                have hbl : ∀ i s, PL.at pl i = some s → s.ts.length ≤ 1000000 := fun i s h => Nat.le_trans (hb.h0 i s h).2.2 (by decide)
                generalize ts[k] = t at hqk r1 r2 r3 r4 r5 hlead
                have dk : decide (hh < t.2) = false := decide_eq_false (by omega)
                have hwr : IntKind.i64.wrap (t.2 + 1) = t.2 + 1 := wrap64 (by omega) (by omega)
                rw [decide_eq_true (show (k : Int) < ((tps ts).length : Int) by omega)]
                (conv => whnf); repeat ((first | (refine And.intro ?_ ?_; focus exact Cl4) | refine Both.T (by exact rfl) ?_ | refine Both.F (by exact rfl) ?_ | refine Both.GT (by exact rfl) (by exact rfl) ?_ | refine Both.GF (by exact rfl) ?_ | refine Both.GN (by exact rfl) ?_); conv => whnf)
                rw [hq]
                (conv => whnf); repeat ((first | (refine And.intro ?_ ?_; focus exact Cl4) | refine Both.T (by exact rfl) ?_ | refine Both.F (by exact rfl) ?_ | refine Both.GT (by exact rfl) (by exact rfl) ?_ | refine Both.GF (by exact rfl) ?_ | refine Both.GN (by exact rfl) ?_); conv => whnf)
                rw [hqk]
                (conv => whnf); repeat ((first | (refine And.intro ?_ ?_; focus exact Cl4) | refine Both.T (by exact rfl) ?_ | refine Both.F (by exact rfl) ?_ | refine Both.GT (by exact rfl) (by exact rfl) ?_ | refine Both.GF (by exact rfl) ?_ | refine Both.GN (by exact rfl) ?_); conv => whnf)
                refine ⟨Unit, fun _ => ⟨120, [(119, .bool false), (8, .int .i64 k), (7, .int .i64 i), (5, .sl 3 L false true)], [], []⟩, fun _ => True, ?_, fun _ _ => ?_⟩
                · (conv => whnf); repeat' (first | ((first | (refine And.intro ?_ ?_; focus exact Cl4) | refine Both.T (by exact rfl) ?_ | refine Both.F (by exact rfl) ?_ | refine Both.GT (by exact rfl) (by exact rfl) ?_ | refine Both.GF (by exact rfl) ?_ | refine Both.GN (by exact rfl) ?_); conv => whnf) | (rw [hq]; conv => whnf) | (rw [hqk]; conv => whnf) | (rw [dk]; conv => whnf) | (rw [hwr]; conv => whnf) | ((rw [htk]; refine leads_spec pl L 3 _ t.1 (t.2 + 1) (ts.take k) y _ hWs (Or.inl rfl) hlk hbl ⟨r1, r2⟩ _ ?_; rw [hlead]); conv => whnf) | ((refine Both.mk ?_ ?_ <;> fail_if_success (intro _)) <;> conv => whnf))
                  all_goals (
                    refine ⟨[], (), trivial, ?_⟩
                    simp [meets, ghosts, St.le, St.get, look, keys, PV.labs, labsL, lookB, Blk.labs])
                conv => (arg 4; dsimp only)
                (conv => whnf); repeat ((first | (refine And.intro ?_ ?_; focus exact Cl4) | refine Both.T (by exact rfl) ?_ | refine Both.F (by exact rfl) ?_ | refine Both.GT (by exact rfl) (by exact rfl) ?_ | refine Both.GF (by exact rfl) ?_ | refine Both.GN (by exact rfl) ?_); conv => whnf)
                rw [wrap64 (n := (k : Int) + 1) (by omega) (by omega)]
                refine ⟨[], k + 1, hkx, by show ts.length - (k + 1) < ts.length - k; omega, ?_⟩
                simp [meets, ghosts, St.le, St.get, look, keys, PV.labs, labsL, lookB, Blk.labs])
            · obtain rfl : k = ts.length := by omega
              rw [decide_eq_false (show ¬ (ts.length : Int) < ((tps ts).length : Int) by omega)]
              (conv => whnf); repeat ((first | (refine And.intro ?_ ?_; focus exact Cl4) | refine Both.T (by exact rfl) ?_ | refine Both.F (by exact rfl) ?_ | refine Both.GT (by exact rfl) (by exact rfl) ?_ | refine Both.GF (by exact rfl) ?_ | refine Both.GN (by exact rfl) ?_); conv => whnf)
              rw [wrap64 (n := (i : Int) + 1) (by omega) (by omega)]
              refine ⟨[], i + 1, hix, by show L.length - (i + 1) < L.length - i; omega, ?_⟩
              simp [meets, ghosts, St.le, St.get, look, keys, PV.labs, labsL, lookB, Blk.labs])
      · obtain rfl : i = L.length := by omega
        rw [decide_eq_false (show ¬ (L.length : Int) < (L.length : Int) by omega)]
        (conv => whnf); repeat ((first | (refine And.intro ?_ ?_; focus exact Cl4) | refine Both.T (by exact rfl) ?_ | refine Both.F (by exact rfl) ?_ | refine Both.GT (by exact rfl) (by exact rfl) ?_ | refine Both.GF (by exact rfl) ?_ | refine Both.GN (by exact rfl) ?_); conv => whnf)
end Go.Vc
