/- What is proved here: contracts of functions of the program: of each function what it hands back and what it leaves in memory. Conditions: those that each theorem names. -/
import Derived.Test.YtfnmagjngnpokaaDoorTn
set_option linter.unusedVariables false
set_option linter.unusedSimpArgs false
set_option linter.unusedSectionVars false
namespace Go.Vc
open Go Go.Proofs
set_option maxRecDepth 100000
/-! EventBack. -/
/-- Events, as elements of a row. -/
structure EPs (l : List EV) (lp : List PV) : Prop where
  len : lp.length = l.length
  at_ : ∀ (i : Nat) (hi : i < l.length), ∃ z1 lq t1 z2 t2, nth lp i = .agg (ec l[i] z1 lq t1 z2 t2) ∧ EA l[i] z1 lq z2 ∧ bulkV l[i].v ≤ 2000000
theorem EPs.nil : EPs [] [] := ⟨rfl, fun i hi => by simp at hi⟩
theorem nth_app_lt {a b : List PV} {i : Nat} (h : i < a.length) : nth (a ++ b) i = nth a i := by
  unfold nth
  rw [List.getD_eq_getElem?_getD, List.getD_eq_getElem?_getD, List.getElem?_append_left h]
theorem nth_app_eq {a : List PV} {p : PV} : nth (a ++ [p]) a.length = p := by
  unfold nth
  rw [List.getD_eq_getElem?_getD, List.getElem?_append_right (Nat.le_refl _)]
  simp
theorem EPs.snoc {l : List EV} {lp : List PV} (h : EPs l lp) {e : EV} {z1 z2 : Nat} {lq : List PV} {t1 t2 : Bool} (ha : EA e z1 lq z2) (hb : bulkV e.v ≤ 2000000) : EPs (l ++ [e]) (lp ++ [.agg (ec e z1 lq t1 z2 t2)]) := by
  refine ⟨by simp [h.len], fun i hi => ?_⟩
  rw [List.length_append] at hi
  by_cases hlt : i < l.length
  · obtain ⟨x1, mq, u1, x2, u2, h1, h2, h3⟩ := h.at_ i hlt
    refine ⟨x1, mq, u1, x2, u2, ?_, ?_⟩
    · rw [nth_app_lt (by rw [h.len]; exact hlt), h1, List.getElem_append_left hlt]
    · rw [List.getElem_append_left hlt]; exact ⟨h2, h3⟩
  · have hii : i = lp.length := by rw [h.len]; simp at hi; omega
    subst hii
    refine ⟨z1, lq, t1, z2, t2, ?_, ?_⟩
    · rw [nth_app_eq]
      congr 2
      rw [List.getElem_append_right (by rw [h.len]; exact Nat.le_refl _)]
      simp
    · have : (l ++ [e])[lp.length]'(by simp [h.len]) = e := by
        rw [List.getElem_append_right (by rw [h.len]; exact Nat.le_refl _)]
        simp
      rw [this]
      exact ⟨ha, hb⟩
theorem evBytes_len2 {e : EV} (hbv : bulkV e.v ≤ 2000000) (ho : evOk e = true) : (evBytes e).length ≤ 41000000 := by
  have hh := ev_has ho
  have hw : ∀ m, (wr m).length ≤ 9 := fun m => by have := fol_le m; rw [wr_len]; omega
  have h1 := hw e.flow.toNat
  have h2 := hw e.id.toNat
  have h3 := hw (zig e.n)
  have h4 := hw e.s.length
  have h5 := writeV_len e.v
  rw [evBytes_r]
  simp only [List.length_cons, List.length_append]
  have g1 : (if hb e.kind 1 = true then wr e.id.toNat else []).length ≤ 9 := by
    split
    · omega
    · simp
  have g2 : (if hb e.kind 2 = true then wr (zig e.n) else []).length ≤ 9 := by
    split
    · omega
    · simp
  have g3 : (if hb e.kind 4 = true then wr e.s.length ++ e.s else []).length ≤ 25 := by
    split
    · rename_i hbb
      have := hh.s1 hbb
      simp; omega
    · simp
  have g4 : (if hb e.kind 8 = true then writeV e.v else []).length ≤ 40000000 := by
    split
    · omega
    · simp
  omega
/-- The bytes of events. -/
def evsBytes (l : List EV) : List UInt8 := (l.map evBytes).flatten
theorem evsBytes_app (a b : List EV) : evsBytes (a ++ b) = evsBytes a ++ evsBytes b := by simp [evsBytes]
theorem evsBytes_one (e : EV) : evsBytes [e] = evBytes e := by simp [evsBytes]
end Go.Vc
namespace Go.Vc
open Go Go.Proofs
set_option maxRecDepth 100000
theorem evs_cons {l : List EV} {j : Nat} (hj : j < l.length) (b : List UInt8) : evsBytes (l.drop j) ++ b = evBytes l[j] ++ (evsBytes (l.drop (j + 1)) ++ b) := by
  have h : l.drop j = l[j] :: l.drop (j + 1) := List.drop_eq_getElem_cons hj
  rw [h]
  simp only [evsBytes, List.map_cons, List.flatten_cons, List.append_assoc]
theorem evs_len {l : List EV} (h : ∀ e ∈ l, (evBytes e).length ≤ 41000000) : (evsBytes l).length ≤ 41000000 * l.length := by
  induction l with
  | nil => simp [evsBytes]
  | cons e r ih =>
    have h1 := h e (by simp)
    have h2 := ih fun x hx => h x (by simp [hx])
    simp only [evsBytes, List.map_cons, List.flatten_cons, List.length_append, List.length_cons] at h2 ⊢
    omega
/-- The state ahead of the second loop's round. -/
def stB (m : Nat) (W : List PV) (z : Nat) (b : List UInt8) (t : Bool) (R0 : List UInt8) : Nat × List UInt8 × Nat → St
  | (0, _, _) => ⟨98, [(10, .int .i64 (0 : Nat)), (5, .ref 1 0 0 R0.length), (6, .ref 10 1 0 m), (1, .sl z (bs b) t true)], [(0, .row 5 1 (bs R0) true), (1, .row 27 10 W true)], []⟩
  | (j + 1, R, z') => ⟨98, [(10, .int .i64 (j + 1 : Nat)), (5, .sl z' (bs R) false true), (6, .ref 10 1 0 m), (1, .sl z (bs b) t true)], [(1, .row 27 10 W true)], []⟩
set_option maxHeartbeats 32000000 in
theorem law8 (l : List EV) (lp : List PV) (z0 : Nat) (t0 : Bool) (b : List UInt8) (z : Nat) (t : Bool) (hz0 : z0 = 10 ∨ l = []) (hl : EPs l lp) (hll : l.length ≤ 2000000) (hz : z = 1 ∨ b = []) (hb : b.length ≤ 2000000) :
    CSpec K 8 [.sl z0 lp t0 true, .sl z (bs b) t true] [] LawPost := by
  refine is8.cspec K_ok K_mix false (by simp) (by simp [keys]) ?_
  have hz2 : z = 1 ∨ bs b = [] := hz.imp id fun h => by rw [h]; rfl
  have hlen := hl.len
  (conv => whnf); repeat ((first | (refine And.intro ?_ ?_; focus exact Cl4) | refine Both.T (by exact rfl) ?_ | refine Both.F (by exact rfl) ?_ | refine Both.GT (by exact rfl) (by exact rfl) ?_ | refine Both.GF (by exact rfl) ?_ | refine Both.GN (by exact rfl) ?_); conv => whnf)
  refine works_spec _ ?_
  (conv => whnf); repeat ((first | (refine And.intro ?_ ?_; focus exact Cl4) | refine Both.T (by exact rfl) ?_ | refine Both.F (by exact rfl) ?_ | refine Both.GT (by exact rfl) (by exact rfl) ?_ | refine Both.GF (by exact rfl) ?_ | refine Both.GN (by exact rfl) ?_); conv => whnf)
  refine ⟨Nat × List EV × List PV, fun x => ⟨98, [(7, .int .i64 x.1), (5, .ref 1 0 0 (evsBytes x.2.1).length), (6, .ref 10 1 0 x.2.1.length), (0, .sl z0 lp t0 true), (1, .sl z (bs b) t true)], [(0, .row 5 1 (bs (evsBytes x.2.1)) true), (1, .row 27 10 x.2.2 true)], []⟩,
    fun x => x.1 ≤ l.length ∧ x.1 ≤ 20 ∧ x.2.1.length ≤ x.1 ∧ EPs x.2.1 x.2.2 ∧ ∀ e ∈ x.2.1, evOk e = true ∧ (evBytes e).length ≤ 41000000, fun x => 20 - x.1,
    ⟨[.slot 5 5, .slot 6 27, .age 0, .age 1], (0, [], []), ⟨Nat.zero_le _, Nat.zero_le _, Nat.le_refl _, .nil, by simp⟩, ?_⟩, fun x hI => ?_⟩
  · simp [meets, ghosts, ghost, St.le, St.get, St.put, look, keys, PV.labs, labsL, lookB, Blk.labs, fresh, updB, bs, evsBytes]
    exact ⟨rfl, rfl⟩
  · obtain ⟨i, want, W⟩ := x
    obtain ⟨hi, hi20, hwl, hW, hok⟩ := hI
    simp only at hi hi20 hwl hW hok
    have hX := evs_len fun e he => (hok e he).2
    conv => (arg 5; dsimp only)
    (conv => whnf); repeat ((first | (refine And.intro ?_ ?_; focus exact Cl4) | refine Both.T (by exact rfl) ?_ | refine Both.F (by exact rfl) ?_ | refine Both.GT (by exact rfl) (by exact rfl) ?_ | refine Both.GF (by exact rfl) ?_ | refine Both.GN (by exact rfl) ?_); conv => whnf)
    by_cases hgo : i < l.length ∧ i < 20
    · obtain ⟨hil, hi2⟩ := hgo
      rw [hlen, decide_eq_true (show (i : Int) < (l.length : Int) by omega)]
      (conv => whnf); repeat ((first | (refine And.intro ?_ ?_; focus exact Cl4) | refine Both.T (by exact rfl) ?_ | refine Both.F (by exact rfl) ?_ | refine Both.GT (by exact rfl) (by exact rfl) ?_ | refine Both.GF (by exact rfl) ?_ | refine Both.GN (by exact rfl) ?_); conv => whnf)
      rw [decide_eq_true (show (i : Int) < 20 by omega)]
      obtain ⟨z1, lq, t1, z2', t2, hnth, ha, hbv⟩ := hl.at_ i hil
      have hz3 : z0 = 10 ∨ lp = [] := hz0.imp id fun h => by rw [h] at hlen; exact List.length_eq_zero_iff.1 hlen
      have hnth' : nth lp ((i : Int)).toNat = .agg (ec l[i] z1 lq t1 z2' t2) := hnth
      (conv => whnf); repeat ((first | (refine And.intro ?_ ?_; focus exact Cl4) | refine Both.T (by exact rfl) ?_ | refine Both.F (by exact rfl) ?_ | refine Both.GT (by exact rfl) (by exact rfl) ?_ | refine Both.GF (by exact rfl) ?_ | refine Both.GN (by exact rfl) ?_); conv => whnf)
      rw [hnth']
      (conv => whnf); repeat ((first | (refine And.intro ?_ ?_; focus exact Cl4) | refine Both.T (by exact rfl) ?_ | refine Both.F (by exact rfl) ?_ | refine Both.GT (by exact rfl) (by exact rfl) ?_ | refine Both.GF (by exact rfl) ?_ | refine Both.GN (by exact rfl) ?_); conv => whnf)
      refine evBytes_spec l[i] z1 z2' lq _ _ _ ha (fun ho => ?_) (fun ho => ?_)
      · (conv => whnf); repeat ((first | (refine And.intro ?_ ?_; focus exact Cl4) | refine Both.T (by exact rfl) ?_ | refine Both.F (by exact rfl) ?_ | refine Both.GT (by exact rfl) (by exact rfl) ?_ | refine Both.GF (by exact rfl) ?_ | refine Both.GN (by exact rfl) ?_); conv => whnf)
        rw [hnth']
        (conv => whnf); repeat ((first | (refine And.intro ?_ ?_; focus exact Cl4) | refine Both.T (by exact rfl) ?_ | refine Both.F (by exact rfl) ?_ | refine Both.GT (by exact rfl) (by exact rfl) ?_ | refine Both.GF (by exact rfl) ?_ | refine Both.GN (by exact rfl) ?_); conv => whnf)
        refine evCheck_x l[i] true ho z1 z2' lq _ _ _ ha ?_
        have hl41 := evBytes_len2 hbv ho
        (conv => whnf); repeat ((first | (refine And.intro ?_ ?_; focus exact Cl4) | refine Both.T (by exact rfl) ?_ | refine Both.F (by exact rfl) ?_ | refine Both.GT (by exact rfl) (by exact rfl) ?_ | refine Both.GF (by exact rfl) ?_ | refine Both.GN (by exact rfl) ?_); conv => whnf)
        refine ⟨by rw [bs_len]; show (_ + _) * 2 ≤ _; omega, ?_⟩
        (conv => whnf); repeat ((first | (refine And.intro ?_ ?_; focus exact Cl4) | refine Both.T (by exact rfl) ?_ | refine Both.F (by exact rfl) ?_ | refine Both.GT (by exact rfl) (by exact rfl) ?_ | refine Both.GF (by exact rfl) ?_ | refine Both.GN (by exact rfl) ?_); conv => whnf)
        rw [hnth']
        (conv => whnf); repeat ((first | (refine And.intro ?_ ?_; focus exact Cl4) | refine Both.T (by exact rfl) ?_ | refine Both.F (by exact rfl) ?_ | refine Both.GT (by exact rfl) (by exact rfl) ?_ | refine Both.GF (by exact rfl) ?_ | refine Both.GN (by exact rfl) ?_); conv => whnf)
        refine ⟨by show (want.length + 1) * 129 ≤ _; omega, ?_⟩
        (conv => whnf); repeat ((first | (refine And.intro ?_ ?_; focus exact Cl4) | refine Both.T (by exact rfl) ?_ | refine Both.F (by exact rfl) ?_ | refine Both.GT (by exact rfl) (by exact rfl) ?_ | refine Both.GF (by exact rfl) ?_ | refine Both.GN (by exact rfl) ?_); conv => whnf)
        refine ⟨[], (i + 1, want ++ [l[i]], W ++ [.agg (ec l[i] z1 lq t1 z2' t2)]), ⟨hil, hi2, by simp; omega, hW.snoc ha hbv, ?_⟩, by show 20 - (i + 1) < 20 - i; omega, ?_⟩
        · intro e he
          rcases List.mem_append.1 he with he | he
          · exact hok e he
          · obtain rfl : e = l[i] := by simpa using he
            exact ⟨ho, hl41⟩
        · rw [wrap64 (n := (i : Int) + 1) (by omega) (by omega)]
          have hlt : List.take want.length W = W := List.take_of_length_le (by rw [hW.len]; exact Nat.le_refl _)
          simp [meets, ghosts, St.le, St.get, look, keys, PV.labs, labsL, lookB, Blk.labs, hlt, evsBytes_app, evsBytes_one, bs_len, tka, bs_app, ec]
      · (conv => whnf); repeat ((first | (refine And.intro ?_ ?_; focus exact Cl4) | refine Both.T (by exact rfl) ?_ | refine Both.F (by exact rfl) ?_ | refine Both.GT (by exact rfl) (by exact rfl) ?_ | refine Both.GF (by exact rfl) ?_ | refine Both.GN (by exact rfl) ?_); conv => whnf)
        rw [hnth']
        (conv => whnf); repeat ((first | (refine And.intro ?_ ?_; focus exact Cl4) | refine Both.T (by exact rfl) ?_ | refine Both.F (by exact rfl) ?_ | refine Both.GT (by exact rfl) (by exact rfl) ?_ | refine Both.GF (by exact rfl) ?_ | refine Both.GN (by exact rfl) ?_); conv => whnf)
        refine evCheck_x l[i] false ho z1 z2' lq _ _ _ ha ?_
        (conv => whnf); repeat ((first | (refine And.intro ?_ ?_; focus exact Cl4) | refine Both.T (by exact rfl) ?_ | refine Both.F (by exact rfl) ?_ | refine Both.GT (by exact rfl) (by exact rfl) ?_ | refine Both.GF (by exact rfl) ?_ | refine Both.GN (by exact rfl) ?_); conv => whnf)
        rw [wrap64 (n := (i : Int) + 1) (by omega) (by omega)]
        refine ⟨[], (i + 1, want, W), ⟨hil, hi2, by show want.length ≤ i + 1; omega, hW, hok⟩, by show 20 - (i + 1) < 20 - i; omega, ?_⟩
        simp [meets, ghosts, St.le, St.get, look, keys, PV.labs, labsL, lookB, Blk.labs]
    · have hcd : (bif decide ((i : Int) < (lp.length : Int)) then decide ((i : Int) < 20) else false) = false := by
        by_cases h1 : i < l.length
        · have h2 : ¬ i < 20 := fun h => hgo ⟨h1, h⟩
          rw [decide_eq_true (show (i : Int) < (lp.length : Int) by omega), decide_eq_false (show ¬ (i : Int) < 20 by omega)]
          rfl
        · rw [decide_eq_false (show ¬ (i : Int) < (lp.length : Int) by omega)]
          rfl
      rw [hcd]
      (conv => whnf); repeat ((first | (refine And.intro ?_ ?_; focus exact Cl4) | refine Both.T (by exact rfl) ?_ | refine Both.F (by exact rfl) ?_ | refine Both.GT (by exact rfl) (by exact rfl) ?_ | refine Both.GF (by exact rfl) ?_ | refine Both.GN (by exact rfl) ?_); conv => whnf)
      refine ⟨by rw [bs_len]; show (_ + _) * 2 ≤ _; omega, ?_⟩
      (conv => whnf); repeat ((first | (refine And.intro ?_ ?_; focus exact Cl4) | refine Both.T (by exact rfl) ?_ | refine Both.F (by exact rfl) ?_ | refine Both.GT (by exact rfl) (by exact rfl) ?_ | refine Both.GF (by exact rfl) ?_ | refine Both.GN (by exact rfl) ?_); conv => whnf)
      have hRl : (evsBytes want ++ b).length ≤ 900000000 := by rw [List.length_append]; omega
      refine ⟨Nat × List UInt8 × Nat, stB want.length W z b t (evsBytes want ++ b), fun x => x.1 ≤ want.length ∧ x.2.1 = evsBytes (want.drop x.1) ++ b ∧ (x.2.2 = 1 ∨ x.2.1 = []), fun x => want.length - x.1,
        ⟨[], (0, evsBytes want ++ b, 1), ⟨Nat.zero_le _, by simp, .inl rfl⟩, ?_⟩, fun x hJ => ?_⟩
      · simp [meets, ghosts, St.le, St.get, look, keys, PV.labs, labsL, lookB, Blk.labs, stB, bs_len, tka, bs_app]
      · obtain ⟨j, R, z'⟩ := x
        obtain ⟨hj, hR, hz'⟩ := hJ
        simp only at hj hR hz'
        have hRl2 : R.length ≤ 900000000 := by
          have h1 : evsBytes want = evsBytes (want.take j) ++ evsBytes (want.drop j) := by rw [← evsBytes_app, List.take_append_drop]
          rw [hR]
          rw [h1] at hRl
          simp only [List.length_append] at hRl ⊢
          omega
        have hz4 : z' = 1 ∨ bs R = [] := hz'.imp id fun h => by rw [h]; rfl
        by_cases hjl : j < want.length
        · obtain ⟨z1, lq, t1, z2', t2, hnth, ha, hbv⟩ := hW.at_ j hjl
          have hok1 := (hok want[j] (List.getElem_mem hjl)).1
          have henc := ev_enc hok1 ha.n ha.v.nV
          have hT : evTake R = .ok (want[j], evsBytes (want.drop (j + 1)) ++ b) := by
            rw [hR, evs_cons hjl]
            exact henc.1 _
          have hnth' : nth W (0 + ((j : Int)).toNat) = .agg (ec want[j] z1 lq t1 z2' t2) := by rw [Nat.zero_add]; exact hnth
          have hd : decide ((j : Int) < (want.length : Int)) = true := decide_eq_true (by omega)
          have hWj : 0 + ((j : Int)).toNat < W.length := by rw [hW.len]; omega
          rcases j with _ | j
          · have hR0 : R = evsBytes want ++ b := by rw [hR]; rfl
            conv => (arg 5; unfold stB)
            (conv => whnf); repeat ((first | (refine And.intro ?_ ?_; focus exact Cl4) | refine Both.T (by exact rfl) ?_ | refine Both.F (by exact rfl) ?_ | refine Both.GT (by exact rfl) (by exact rfl) ?_ | refine Both.GF (by exact rfl) ?_ | refine Both.GN (by exact rfl) ?_); conv => whnf)
            rw [hd]
            (conv => whnf); repeat ((first | (refine And.intro ?_ ?_; focus exact Cl4) | refine Both.T (by exact rfl) ?_ | refine Both.F (by exact rfl) ?_ | refine Both.GT (by exact rfl) (by exact rfl) ?_ | refine Both.GF (by exact rfl) ?_ | refine Both.GN (by exact rfl) ?_); conv => whnf)
            rw [List.drop_zero, tka, ← hR0]
            refine take_v R 1 _ (.inl rfl) (by omega) _ (fun e he _ => by rw [hT] at he; cases he) (fun y r hy x1 mp x2 hay z5 hz5 => ?_)
            rw [hT] at hy
            cases hy
            (conv => whnf); repeat ((first | (refine And.intro ?_ ?_; focus exact Cl4) | refine Both.T (by exact rfl) ?_ | refine Both.F (by exact rfl) ?_ | refine Both.GT (by exact rfl) (by exact rfl) ?_ | refine Both.GF (by exact rfl) ?_ | refine Both.GN (by exact rfl) ?_); conv => whnf)
            (conv => whnf); repeat' (first | ((first | (refine And.intro ?_ ?_; focus exact Cl4) | refine Both.T (by exact rfl) ?_ | refine Both.F (by exact rfl) ?_ | refine Both.GT (by exact rfl) (by exact rfl) ?_ | refine Both.GF (by exact rfl) ?_ | refine Both.GN (by exact rfl) ?_); conv => whnf) | (rw [hnth']; conv => whnf) | (refine ⟨fun _ => hWj, ?_⟩; conv => whnf) | (refine evSame_x want[0] want[0] true (sameE_refl _) x1 x2 mp _ _ z1 z2' lq _ _ _ hay ha ?_; conv => whnf) | ((refine Both.mk ?_ ?_ <;> fail_if_success (intro _)) <;> conv => whnf))
            all_goals (
              refine ⟨[], (0 + 1, evsBytes (want.drop (0 + 1)) ++ b, z5), ⟨hjl, rfl, hz5⟩, by show want.length - (0 + 1) < want.length - 0; omega, ?_⟩
              rw [wrap64 (n := ((0 : Nat) : Int) + 1) (by omega) (by omega)]
              simp [meets, ghosts, St.le, St.get, look, keys, PV.labs, labsL, lookB, Blk.labs, stB])
          · conv => (arg 5; unfold stB)
            (conv => whnf); repeat ((first | (refine And.intro ?_ ?_; focus exact Cl4) | refine Both.T (by exact rfl) ?_ | refine Both.F (by exact rfl) ?_ | refine Both.GT (by exact rfl) (by exact rfl) ?_ | refine Both.GF (by exact rfl) ?_ | refine Both.GN (by exact rfl) ?_); conv => whnf)
            rw [hd]
            (conv => whnf); repeat ((first | (refine And.intro ?_ ?_; focus exact Cl4) | refine Both.T (by exact rfl) ?_ | refine Both.F (by exact rfl) ?_ | refine Both.GT (by exact rfl) (by exact rfl) ?_ | refine Both.GF (by exact rfl) ?_ | refine Both.GN (by exact rfl) ?_); conv => whnf)
            refine take_v R z' _ hz' (by omega) _ (fun e he _ => by rw [hT] at he; cases he) (fun y r hy x1 mp x2 hay z5 hz5 => ?_)
            rw [hT] at hy
            cases hy
            (conv => whnf); repeat ((first | (refine And.intro ?_ ?_; focus exact Cl4) | refine Both.T (by exact rfl) ?_ | refine Both.F (by exact rfl) ?_ | refine Both.GT (by exact rfl) (by exact rfl) ?_ | refine Both.GF (by exact rfl) ?_ | refine Both.GN (by exact rfl) ?_); conv => whnf)
            (conv => whnf); repeat' (first | ((first | (refine And.intro ?_ ?_; focus exact Cl4) | refine Both.T (by exact rfl) ?_ | refine Both.F (by exact rfl) ?_ | refine Both.GT (by exact rfl) (by exact rfl) ?_ | refine Both.GF (by exact rfl) ?_ | refine Both.GN (by exact rfl) ?_); conv => whnf) | (rw [hnth']; conv => whnf) | (refine ⟨fun _ => hWj, ?_⟩; conv => whnf) | (refine evSame_x want[(j + 1)] want[(j + 1)] true (sameE_refl _) x1 x2 mp _ _ z1 z2' lq _ _ _ hay ha ?_; conv => whnf) | ((refine Both.mk ?_ ?_ <;> fail_if_success (intro _)) <;> conv => whnf))
            all_goals (
              refine ⟨[], ((j + 1) + 1, evsBytes (want.drop ((j + 1) + 1)) ++ b, z5), ⟨hjl, rfl, hz5⟩, by show want.length - ((j + 1) + 1) < want.length - (j + 1); omega, ?_⟩
              rw [wrap64 (n := (((j + 1) : Nat) : Int) + 1) (by omega) (by omega)]
              simp [meets, ghosts, St.le, St.get, look, keys, PV.labs, labsL, lookB, Blk.labs, stB])
        · have hjj : j = want.length := by omega
          have hRb : R = b := by rw [hR, hjj, List.drop_length]; simp [evsBytes]
          have hd : decide ((j : Int) < (want.length : Int)) = false := decide_eq_false (by omega)
          rcases j with _ | j
          · have hR0 : R = evsBytes want ++ b := by rw [hR]; rfl
            conv => (arg 5; unfold stB)
            (conv => whnf); repeat ((first | (refine And.intro ?_ ?_; focus exact Cl4) | refine Both.T (by exact rfl) ?_ | refine Both.F (by exact rfl) ?_ | refine Both.GT (by exact rfl) (by exact rfl) ?_ | refine Both.GF (by exact rfl) ?_ | refine Both.GN (by exact rfl) ?_); conv => whnf)
            rw [hd]
            (conv => whnf); repeat ((first | (refine And.intro ?_ ?_; focus exact Cl4) | refine Both.T (by exact rfl) ?_ | refine Both.F (by exact rfl) ?_ | refine Both.GT (by exact rfl) (by exact rfl) ?_ | refine Both.GF (by exact rfl) ?_ | refine Both.GN (by exact rfl) ?_); conv => whnf)
            rw [List.drop_zero, tka, ← hR0, hRb]
            refine eq_t b 1 z _ true _ true (.inl rfl) hz2 (by omega) _ ?_
            (conv => whnf); repeat ((first | (refine And.intro ?_ ?_; focus exact Cl4) | refine Both.T (by exact rfl) ?_ | refine Both.F (by exact rfl) ?_ | refine Both.GT (by exact rfl) (by exact rfl) ?_ | refine Both.GF (by exact rfl) ?_ | refine Both.GN (by exact rfl) ?_); conv => whnf)
          · rw [hRb] at hz4 hz' ⊢
            conv => (arg 5; unfold stB)
            (conv => whnf); repeat ((first | (refine And.intro ?_ ?_; focus exact Cl4) | refine Both.T (by exact rfl) ?_ | refine Both.F (by exact rfl) ?_ | refine Both.GT (by exact rfl) (by exact rfl) ?_ | refine Both.GF (by exact rfl) ?_ | refine Both.GN (by exact rfl) ?_); conv => whnf)
            rw [hd]
            (conv => whnf); repeat ((first | (refine And.intro ?_ ?_; focus exact Cl4) | refine Both.T (by exact rfl) ?_ | refine Both.F (by exact rfl) ?_ | refine Both.GT (by exact rfl) (by exact rfl) ?_ | refine Both.GF (by exact rfl) ?_ | refine Both.GN (by exact rfl) ?_); conv => whnf)
            refine eq_t b z' z _ true _ true hz4 hz2 (by omega) _ ?_
            (conv => whnf); repeat ((first | (refine And.intro ?_ ?_; focus exact Cl4) | refine Both.T (by exact rfl) ?_ | refine Both.F (by exact rfl) ?_ | refine Both.GT (by exact rfl) (by exact rfl) ?_ | refine Both.GF (by exact rfl) ?_ | refine Both.GN (by exact rfl) ?_); conv => whnf)
end Go.Vc
