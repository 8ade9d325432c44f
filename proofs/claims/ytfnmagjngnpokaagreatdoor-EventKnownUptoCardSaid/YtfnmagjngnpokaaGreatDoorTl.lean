/- What is proved here: contracts of functions of the program: of each function what it hands back and what it leaves in memory. Conditions: those that each theorem names. -/
import Derived.Test.YtfnmagjngnpokaaGreatDoorTc
set_option linter.unusedVariables false
set_option linter.unusedSimpArgs false
set_option linter.unusedSectionVars false
namespace Go.Vc
open Go Go.Proofs
set_option maxRecDepth 100000
set_option maxHeartbeats 16000000 in
theorem take_p (b : List UInt8) (z : Nat) (t : Bool) (hz : z = 1 ∨ b = []) (hb1 : b.length ≤ 1000000000) (Post : PV → List (Nat × Blk) → Prop)
    (herr : ∀ e, evTake b = .error e → e ≠ 0 → Post (.tup [zeroE, .sl 0 [] false true, .int .i64 e]) [])
    (hnil : ∀ y, evTake b = .ok (y, []) → ∀ z1 lp z2, EA y z1 lp z2 → Post (.tup [.agg (ec y z1 lp false z2 false), .sl 0 [] false true, .int .i64 0]) [])
    (hok : ∀ y r, evTake b = .ok (y, r) → ∀ z1 lp z2, EA y z1 lp z2 → Post (.tup [.agg (ec y z1 lp false z2 false), .ref 1 0 0 r.length, .int .i64 0]) [(0, .row 5 1 (bs r) true)]) :
    Spec K 29 [.sl z (bs b) t true] [] Post := by
  refine is29.specW K_ok K_mix true (by simp) (by simp [keys]) ?_
  (conv => whnf); repeat ((first | (refine And.intro ?_ ?_; focus exact Cl3) | refine Both.T (by exact rfl) ?_ | refine Both.F (by exact rfl) ?_ | refine Both.GT (by exact rfl) (by exact rfl) ?_ | refine Both.GF (by exact rfl) ?_ | refine Both.GN (by exact rfl) ?_); conv => whnf)
  rw [bs_len]
  by_cases hl : b.length < 2
  · rw [decide_eq_true (show (b.length : Int) < 2 by omega)]
    (conv => whnf); repeat ((first | (refine And.intro ?_ ?_; focus exact Cl3) | refine Both.T (by exact rfl) ?_ | refine Both.F (by exact rfl) ?_ | refine Both.GT (by exact rfl) (by exact rfl) ?_ | refine Both.GF (by exact rfl) ?_ | refine Both.GN (by exact rfl) ?_); conv => whnf)
    exact herr 3 (by rw [evTake, if_pos hl]) (by decide)
  · rw [decide_eq_false (show ¬ (b.length : Int) < 2 by omega)]
    obtain ⟨c, k, r, rfl⟩ : ∃ c k r, b = c :: k :: r := by
      match b, hl with
      | c :: k :: r, _ => exact ⟨c, k, r, rfl⟩
      | [], h => simp at h
      | [_], h => simp at h
    have hz1 : z = 1 := hz.resolve_right (by simp)
    subst hz1
    have hrr : r.length ≤ 1000000000 := by simp at hb1; omega
    have he0 : evTake (c :: k :: r) = if c ≠ 1 ∨ wi (k.toNat : Int) 1 15 = false then .error 4 else t0 ⟨k.toNat, 0, 0, 0, [], V0⟩ r := by
      rw [evTake, if_neg hl]; rfl
    (conv => whnf); repeat ((first | (refine And.intro ?_ ?_; focus exact Cl3) | refine Both.T (by exact rfl) ?_ | refine Both.F (by exact rfl) ?_ | refine Both.GT (by exact rfl) (by exact rfl) ?_ | refine Both.GF (by exact rfl) ?_ | refine Both.GN (by exact rfl) ?_); conv => whnf)
    refine ⟨fun _ => ⟨by decide, by rw [bs_len]; simp only [List.length_cons]; omega⟩, ?_⟩
    (conv => whnf); repeat ((first | (refine And.intro ?_ ?_; focus exact Cl3) | refine Both.T (by exact rfl) ?_ | refine Both.F (by exact rfl) ?_ | refine Both.GT (by exact rfl) (by exact rfl) ?_ | refine Both.GF (by exact rfl) ?_ | refine Both.GN (by exact rfl) ?_); conv => whnf)
    rw [show nth (bs (c :: k :: r)) (Int.toNat 1) = .int .u8 (k.toNat : Int) from rfl]
    (conv => whnf); repeat ((first | (refine And.intro ?_ ?_; focus exact Cl3) | refine Both.T (by exact rfl) ?_ | refine Both.F (by exact rfl) ?_ | refine Both.GT (by exact rfl) (by exact rfl) ?_ | refine Both.GF (by exact rfl) ?_ | refine Both.GN (by exact rfl) ?_); conv => whnf)
    refine ⟨fun _ => ⟨by decide, by rw [bs_len]; simp only [List.length_cons]; omega⟩, ?_⟩
    (conv => whnf); repeat ((first | (refine And.intro ?_ ?_; focus exact Cl3) | refine Both.T (by exact rfl) ?_ | refine Both.F (by exact rfl) ?_ | refine Both.GT (by exact rfl) (by exact rfl) ?_ | refine Both.GF (by exact rfl) ?_ | refine Both.GN (by exact rfl) ?_); conv => whnf)
    by_cases hc : c = 1
    · subst hc
      (conv => whnf); repeat ((first | (refine And.intro ?_ ?_; focus exact Cl3) | refine Both.T (by exact rfl) ?_ | refine Both.F (by exact rfl) ?_ | refine Both.GT (by exact rfl) (by exact rfl) ?_ | refine Both.GF (by exact rfl) ?_ | refine Both.GN (by exact rfl) ?_); conv => whnf)
      rw [wrap64 (n := (k.toNat : Int)) (by omega) (by have := k.toNat_lt; omega)]
      refine within_c _ _ _ _ (fun h2 => ?_) (fun h2 => ?_)
      · rw [if_neg (by simp [h2])] at he0
        (conv => whnf); repeat ((first | (refine And.intro ?_ ?_; focus exact Cl3) | refine Both.T (by exact rfl) ?_ | refine Both.F (by exact rfl) ?_ | refine Both.GT (by exact rfl) (by exact rfl) ?_ | refine Both.GF (by exact rfl) ?_ | refine Both.GN (by exact rfl) ?_); conv => whnf)
        refine ⟨fun _ => ⟨by omega, by simp [wi] at h2; omega⟩, ?_⟩
        (conv => whnf); repeat ((first | (refine And.intro ?_ ?_; focus exact Cl3) | refine Both.T (by exact rfl) ?_ | refine Both.F (by exact rfl) ?_ | refine Both.GT (by exact rfl) (by exact rfl) ?_ | refine Both.GF (by exact rfl) ?_ | refine Both.GN (by exact rfl) ?_); conv => whnf)
        have hk16 : k.toNat < 16 := by simp [wi] at h2; omega
        rw [show 0 + ((k.toNat : Int)).toNat * K.size 3 = k.toNat from (by show 0 + (k.toNat) * 1 = k.toNat; omega)]
        refine ⟨fun _ => by show k.toNat + 1 ≤ 16; omega, ?_⟩
        (conv => whnf); repeat ((first | (refine And.intro ?_ ?_; focus exact Cl3) | refine Both.T (by exact rfl) ?_ | refine Both.F (by exact rfl) ?_ | refine Both.GT (by exact rfl) (by exact rfl) ?_ | refine Both.GF (by exact rfl) ?_ | refine Both.GN (by exact rfl) ?_); conv => whnf)
        rw [show partP K 3 (List.map (PV.retag true) fieldsT) k.toNat = .int .i64 (hasI (k.toNat : Int)) from tab_k h2]
        (conv => whnf); repeat ((first | (refine And.intro ?_ ?_; focus exact Cl3) | refine Both.T (by exact rfl) ?_ | refine Both.F (by exact rfl) ?_ | refine Both.GT (by exact rfl) (by exact rfl) ?_ | refine Both.GF (by exact rfl) ?_ | refine Both.GN (by exact rfl) ?_); conv => whnf)
        refine ⟨fun _ => ⟨by decide, by rw [bs_len]; simp only [List.length_cons]; omega⟩, ?_⟩
        (conv => whnf); repeat ((first | (refine And.intro ?_ ?_; focus exact Cl3) | refine Both.T (by exact rfl) ?_ | refine Both.F (by exact rfl) ?_ | refine Both.GT (by exact rfl) (by exact rfl) ?_ | refine Both.GF (by exact rfl) ?_ | refine Both.GN (by exact rfl) ?_); conv => whnf)
        refine ⟨LS, fun x => stE x.i k.toNat (eco (x.i != 0) x.y x.z1 x.lp x.t1 x.z2 x.t2) x.z x.b x.t,
          fun x => x.i ≤ 5 ∧ EA x.y x.z1 x.lp x.z2 ∧ x.y.kind = k.toNat ∧ evTake (1 :: k :: r) = tS x.i x.y x.b ∧ (x.z = 1 ∨ x.b = []) ∧ x.b.length ≤ r.length, fun x => 5 - x.i,
          ⟨[], ⟨0, ⟨k.toNat, 0, 0, 0, [], V0⟩, 0, [], true, 0, true, r, 1, t⟩, ⟨Nat.zero_le _, EA0 _ _, rfl, he0, .inl rfl, Nat.le_refl _⟩, ?_⟩, fun x hI => ?_⟩
        · simp [meets, ghosts, St.le, St.get, look, keys, PV.labs, labsL, lookB, Blk.labs, stE, eco, fnsT, ev0, bs, V0, V.k, V.n, V.s, V.l, V.ns, strs]
          rw [List.take_of_length_le (by simp)]
        · obtain ⟨i, y, z1, lp, t1', z2, t2', b', z', t'⟩ := x
          obtain ⟨hi, ha, hyk, hT, hz', hb'⟩ := hI
          simp only at hi ha hyk hT hz' hb'
          rcases i with _ | _ | _ | _ | _ | _ | i
          case succ.succ.succ.succ.succ.succ => exact absurd hi (by omega)
          all_goals (
            conv => (arg 5; dsimp only)
            (conv => whnf); repeat ((first | (refine And.intro ?_ ?_; focus exact Cl3) | refine Both.T (by exact rfl) ?_ | refine Both.F (by exact rfl) ?_ | refine Both.GT (by exact rfl) (by exact rfl) ?_ | refine Both.GF (by exact rfl) ?_ | refine Both.GN (by exact rfl) ?_); conv => whnf))
          · refine stepFlow y z1 z2 lp t1' t2' b' z' t' 0 hz' (by omega) _ (fun z5 m r5 e he hz5 => ?_)
            have hrl := rd_rest he
            (conv => whnf); repeat ((first | (refine And.intro ?_ ?_; focus exact Cl3) | refine Both.T (by exact rfl) ?_ | refine Both.F (by exact rfl) ?_ | refine Both.GT (by exact rfl) (by exact rfl) ?_ | refine Both.GF (by exact rfl) ?_ | refine Both.GN (by exact rfl) ?_); conv => whnf)
            by_cases he0 : e = 0
            · subst he0
              (conv => whnf); repeat ((first | (refine And.intro ?_ ?_; focus exact Cl3) | refine Both.T (by exact rfl) ?_ | refine Both.F (by exact rfl) ?_ | refine Both.GT (by exact rfl) (by exact rfl) ?_ | refine Both.GF (by exact rfl) ?_ | refine Both.GN (by exact rfl) ?_); conv => whnf)
              refine ⟨[], ⟨1, { y with flow := m }, z1, lp, t1', z2, t2', r5, z5, false⟩, ⟨by show 1 ≤ 5; omega, ⟨ha.v, ha.s, ha.id, ha.n⟩, hyk, (by rw [hT]; show nxt (numE numG b') _ = _; rw [numE_ok he]; rfl), hz5, (by show r5.length ≤ _; omega)⟩, by show 5 - 1 < 5 - 0; omega, ?_⟩
              simp [meets, ghosts, St.le, St.get, look, keys, PV.labs, labsL, lookB, Blk.labs, stE, eco, fnsT, ev0, bs]
              try rfl
            · rw [show (e != 0) = true by simpa using he0]
              (conv => whnf); repeat ((first | (refine And.intro ?_ ?_; focus exact Cl3) | refine Both.T (by exact rfl) ?_ | refine Both.F (by exact rfl) ?_ | refine Both.GT (by exact rfl) (by exact rfl) ?_ | refine Both.GF (by exact rfl) ?_ | refine Both.GN (by exact rfl) ?_); conv => whnf)
              (conv => whnf); repeat' (first | ((first | (refine And.intro ?_ ?_; focus exact Cl3) | refine Both.T (by exact rfl) ?_ | refine Both.F (by exact rfl) ?_ | refine Both.GT (by exact rfl) (by exact rfl) ?_ | refine Both.GF (by exact rfl) ?_ | refine Both.GN (by exact rfl) ?_); conv => whnf) | (fail; conv => whnf) | ((refine Both.mk ?_ ?_ <;> fail_if_success (intro _)) <;> conv => whnf))
              all_goals exact herr e (by rw [hT]; show nxt (numE numG b') _ = _; rw [numE_err he he0]; rfl) he0
          · refine ⟨fun _ => by decide, ?_⟩
            (conv => whnf); repeat ((first | (refine And.intro ?_ ?_; focus exact Cl3) | refine Both.T (by exact rfl) ?_ | refine Both.F (by exact rfl) ?_ | refine Both.GT (by exact rfl) (by exact rfl) ?_ | refine Both.GF (by exact rfl) ?_ | refine Both.GN (by exact rfl) ?_); conv => whnf)
            refine Both.E (bit_p h2 0 (by decide)) ?_
            have hTe : evTake (1 :: k :: r) = if hb k.toNat (2 ^ 0) then nxt (numE numG b') fun n r => tS 2 { y with id := n } r else tS 2 y b' := by rw [hT, ← hyk]; rfl
            cases hbb : hb (k.toNat : Int) (2 ^ 0)
            · rw [hbb, if_neg (by decide)] at hTe
              (conv => whnf); repeat ((first | (refine And.intro ?_ ?_; focus exact Cl3) | refine Both.T (by exact rfl) ?_ | refine Both.F (by exact rfl) ?_ | refine Both.GT (by exact rfl) (by exact rfl) ?_ | refine Both.GF (by exact rfl) ?_ | refine Both.GN (by exact rfl) ?_); conv => whnf)
              refine ⟨[], ⟨2, y, z1, lp, t1', z2, t2', b', z', t'⟩, ⟨by show 2 ≤ 5; omega, ha, hyk, hTe, hz', hb'⟩, by show 5 - 2 < 5 - 1; omega, ?_⟩
              simp [meets, ghosts, St.le, St.get, look, keys, PV.labs, labsL, lookB, Blk.labs, stE, eco, fnsT, ev0, bs]
              try rfl
            · rw [hbb, if_pos rfl] at hTe
              (conv => whnf); repeat ((first | (refine And.intro ?_ ?_; focus exact Cl3) | refine Both.T (by exact rfl) ?_ | refine Both.F (by exact rfl) ?_ | refine Both.GT (by exact rfl) (by exact rfl) ?_ | refine Both.GF (by exact rfl) ?_ | refine Both.GN (by exact rfl) ?_); conv => whnf)
              refine stepId y z1 z2 lp t1' t2' b' z' t' 0 hz' (by omega) _ (fun z5 m r5 e he hz5 => ?_)
              have hrl := rd_rest he
              (conv => whnf); repeat ((first | (refine And.intro ?_ ?_; focus exact Cl3) | refine Both.T (by exact rfl) ?_ | refine Both.F (by exact rfl) ?_ | refine Both.GT (by exact rfl) (by exact rfl) ?_ | refine Both.GF (by exact rfl) ?_ | refine Both.GN (by exact rfl) ?_); conv => whnf)
              by_cases he0 : e = 0
              · subst he0
                (conv => whnf); repeat ((first | (refine And.intro ?_ ?_; focus exact Cl3) | refine Both.T (by exact rfl) ?_ | refine Both.F (by exact rfl) ?_ | refine Both.GT (by exact rfl) (by exact rfl) ?_ | refine Both.GF (by exact rfl) ?_ | refine Both.GN (by exact rfl) ?_); conv => whnf)
                refine ⟨[], ⟨2, { y with id := m }, z1, lp, t1', z2, t2', r5, z5, false⟩, ⟨by show 2 ≤ 5; omega, ⟨ha.v, ha.s, num_i64 he, ha.n⟩, hyk, (by rw [hTe, numE_ok he]; rfl), hz5, (by show r5.length ≤ _; omega)⟩, by show 5 - 2 < 5 - 1; omega, ?_⟩
                simp [meets, ghosts, St.le, St.get, look, keys, PV.labs, labsL, lookB, Blk.labs, stE, eco, fnsT, ev0, bs]
                try rfl
              · rw [show (e != 0) = true by simpa using he0]
                (conv => whnf); repeat ((first | (refine And.intro ?_ ?_; focus exact Cl3) | refine Both.T (by exact rfl) ?_ | refine Both.F (by exact rfl) ?_ | refine Both.GT (by exact rfl) (by exact rfl) ?_ | refine Both.GF (by exact rfl) ?_ | refine Both.GN (by exact rfl) ?_); conv => whnf)
                (conv => whnf); repeat' (first | ((first | (refine And.intro ?_ ?_; focus exact Cl3) | refine Both.T (by exact rfl) ?_ | refine Both.F (by exact rfl) ?_ | refine Both.GT (by exact rfl) (by exact rfl) ?_ | refine Both.GF (by exact rfl) ?_ | refine Both.GN (by exact rfl) ?_); conv => whnf) | (fail; conv => whnf) | ((refine Both.mk ?_ ?_ <;> fail_if_success (intro _)) <;> conv => whnf))
                all_goals exact herr e (by rw [hTe, numE_err he he0]; rfl) he0
          · refine ⟨fun _ => by decide, ?_⟩
            (conv => whnf); repeat ((first | (refine And.intro ?_ ?_; focus exact Cl3) | refine Both.T (by exact rfl) ?_ | refine Both.F (by exact rfl) ?_ | refine Both.GT (by exact rfl) (by exact rfl) ?_ | refine Both.GF (by exact rfl) ?_ | refine Both.GN (by exact rfl) ?_); conv => whnf)
            refine Both.E (bit_p h2 1 (by decide)) ?_
            have hTe : evTake (1 :: k :: r) = if hb k.toNat (2 ^ 1) then nxt (numE intG b') fun n r => tS 3 { y with n := n } r else tS 3 y b' := by rw [hT, ← hyk]; rfl
            cases hbb : hb (k.toNat : Int) (2 ^ 1)
            · rw [hbb, if_neg (by decide)] at hTe
              (conv => whnf); repeat ((first | (refine And.intro ?_ ?_; focus exact Cl3) | refine Both.T (by exact rfl) ?_ | refine Both.F (by exact rfl) ?_ | refine Both.GT (by exact rfl) (by exact rfl) ?_ | refine Both.GF (by exact rfl) ?_ | refine Both.GN (by exact rfl) ?_); conv => whnf)
              refine ⟨[], ⟨3, y, z1, lp, t1', z2, t2', b', z', t'⟩, ⟨by show 3 ≤ 5; omega, ha, hyk, hTe, hz', hb'⟩, by show 5 - 3 < 5 - 2; omega, ?_⟩
              simp [meets, ghosts, St.le, St.get, look, keys, PV.labs, labsL, lookB, Blk.labs, stE, eco, fnsT, ev0, bs]
              try rfl
            · rw [hbb, if_pos rfl] at hTe
              (conv => whnf); repeat ((first | (refine And.intro ?_ ?_; focus exact Cl3) | refine Both.T (by exact rfl) ?_ | refine Both.F (by exact rfl) ?_ | refine Both.GT (by exact rfl) (by exact rfl) ?_ | refine Both.GF (by exact rfl) ?_ | refine Both.GN (by exact rfl) ?_); conv => whnf)
              refine stepN y z1 z2 lp t1' t2' b' z' t' 0 hz' (by omega) _ (fun z5 m r5 e he hz5 => ?_)
              have hrl := rd_rest he
              (conv => whnf); repeat ((first | (refine And.intro ?_ ?_; focus exact Cl3) | refine Both.T (by exact rfl) ?_ | refine Both.F (by exact rfl) ?_ | refine Both.GT (by exact rfl) (by exact rfl) ?_ | refine Both.GF (by exact rfl) ?_ | refine Both.GN (by exact rfl) ?_); conv => whnf)
              by_cases he0 : e = 0
              · subst he0
                (conv => whnf); repeat ((first | (refine And.intro ?_ ?_; focus exact Cl3) | refine Both.T (by exact rfl) ?_ | refine Both.F (by exact rfl) ?_ | refine Both.GT (by exact rfl) (by exact rfl) ?_ | refine Both.GF (by exact rfl) ?_ | refine Both.GN (by exact rfl) ?_); conv => whnf)
                refine ⟨[], ⟨3, { y with n := m }, z1, lp, t1', z2, t2', r5, z5, false⟩, ⟨by show 3 ≤ 5; omega, ⟨ha.v, ha.s, ha.id, int_i64 he⟩, hyk, (by rw [hTe, numE_ok he]; rfl), hz5, (by show r5.length ≤ _; omega)⟩, by show 5 - 3 < 5 - 2; omega, ?_⟩
                simp [meets, ghosts, St.le, St.get, look, keys, PV.labs, labsL, lookB, Blk.labs, stE, eco, fnsT, ev0, bs]
                try rfl
              · rw [show (e != 0) = true by simpa using he0]
                (conv => whnf); repeat ((first | (refine And.intro ?_ ?_; focus exact Cl3) | refine Both.T (by exact rfl) ?_ | refine Both.F (by exact rfl) ?_ | refine Both.GT (by exact rfl) (by exact rfl) ?_ | refine Both.GF (by exact rfl) ?_ | refine Both.GN (by exact rfl) ?_); conv => whnf)
                (conv => whnf); repeat' (first | ((first | (refine And.intro ?_ ?_; focus exact Cl3) | refine Both.T (by exact rfl) ?_ | refine Both.F (by exact rfl) ?_ | refine Both.GT (by exact rfl) (by exact rfl) ?_ | refine Both.GF (by exact rfl) ?_ | refine Both.GN (by exact rfl) ?_); conv => whnf) | (fail; conv => whnf) | ((refine Both.mk ?_ ?_ <;> fail_if_success (intro _)) <;> conv => whnf))
                all_goals exact herr e (by rw [hTe, numE_err he he0]; rfl) he0
          · refine ⟨fun _ => by decide, ?_⟩
            (conv => whnf); repeat ((first | (refine And.intro ?_ ?_; focus exact Cl3) | refine Both.T (by exact rfl) ?_ | refine Both.F (by exact rfl) ?_ | refine Both.GT (by exact rfl) (by exact rfl) ?_ | refine Both.GF (by exact rfl) ?_ | refine Both.GN (by exact rfl) ?_); conv => whnf)
            refine Both.E (bit_p h2 2 (by decide)) ?_
            have hTe : evTake (1 :: k :: r) = if hb k.toNat (2 ^ 2) then nxt (txtE b') fun n r => tS 4 { y with s := n } r else tS 4 y b' := by rw [hT, ← hyk]; rfl
            cases hbb : hb (k.toNat : Int) (2 ^ 2)
            · rw [hbb, if_neg (by decide)] at hTe
              (conv => whnf); repeat ((first | (refine And.intro ?_ ?_; focus exact Cl3) | refine Both.T (by exact rfl) ?_ | refine Both.F (by exact rfl) ?_ | refine Both.GT (by exact rfl) (by exact rfl) ?_ | refine Both.GF (by exact rfl) ?_ | refine Both.GN (by exact rfl) ?_); conv => whnf)
              refine ⟨[], ⟨4, y, z1, lp, t1', z2, t2', b', z', t'⟩, ⟨by show 4 ≤ 5; omega, ha, hyk, hTe, hz', hb'⟩, by show 5 - 4 < 5 - 3; omega, ?_⟩
              simp [meets, ghosts, St.le, St.get, look, keys, PV.labs, labsL, lookB, Blk.labs, stE, eco, fnsT, ev0, bs]
              try rfl
            · rw [hbb, if_pos rfl] at hTe
              (conv => whnf); repeat ((first | (refine And.intro ?_ ?_; focus exact Cl3) | refine Both.T (by exact rfl) ?_ | refine Both.F (by exact rfl) ?_ | refine Both.GT (by exact rfl) (by exact rfl) ?_ | refine Both.GF (by exact rfl) ?_ | refine Both.GN (by exact rfl) ?_); conv => whnf)
              refine stepS y z1 z2 lp t1' t2' b' z' t' 0 hz' (by omega) _ (fun z5 m r5 e he hz5 => ?_)
              have hrl := (txt_len he).2
              (conv => whnf); repeat ((first | (refine And.intro ?_ ?_; focus exact Cl3) | refine Both.T (by exact rfl) ?_ | refine Both.F (by exact rfl) ?_ | refine Both.GT (by exact rfl) (by exact rfl) ?_ | refine Both.GF (by exact rfl) ?_ | refine Both.GN (by exact rfl) ?_); conv => whnf)
              by_cases he0 : e = 0
              · subst he0
                (conv => whnf); repeat ((first | (refine And.intro ?_ ?_; focus exact Cl3) | refine Both.T (by exact rfl) ?_ | refine Both.F (by exact rfl) ?_ | refine Both.GT (by exact rfl) (by exact rfl) ?_ | refine Both.GF (by exact rfl) ?_ | refine Both.GN (by exact rfl) ?_); conv => whnf)
                refine ⟨[], ⟨4, { y with s := m }, z1, lp, t1', z2, t2', r5, z5, false⟩, ⟨by show 4 ≤ 5; omega, ⟨ha.v, Nat.le_trans (txt_len he).1 (by omega), ha.id, ha.n⟩, hyk, (by rw [hTe, txtE_ok he]; rfl), hz5, (by show r5.length ≤ _; omega)⟩, by show 5 - 4 < 5 - 3; omega, ?_⟩
                simp [meets, ghosts, St.le, St.get, look, keys, PV.labs, labsL, lookB, Blk.labs, stE, eco, fnsT, ev0, bs]
                try rfl
              · rw [show (e != 0) = true by simpa using he0]
                (conv => whnf); repeat ((first | (refine And.intro ?_ ?_; focus exact Cl3) | refine Both.T (by exact rfl) ?_ | refine Both.F (by exact rfl) ?_ | refine Both.GT (by exact rfl) (by exact rfl) ?_ | refine Both.GF (by exact rfl) ?_ | refine Both.GN (by exact rfl) ?_); conv => whnf)
                (conv => whnf); repeat' (first | ((first | (refine And.intro ?_ ?_; focus exact Cl3) | refine Both.T (by exact rfl) ?_ | refine Both.F (by exact rfl) ?_ | refine Both.GT (by exact rfl) (by exact rfl) ?_ | refine Both.GF (by exact rfl) ?_ | refine Both.GN (by exact rfl) ?_); conv => whnf) | (fail; conv => whnf) | ((refine Both.mk ?_ ?_ <;> fail_if_success (intro _)) <;> conv => whnf))
                all_goals exact herr e (by rw [hTe, txtE_err he he0]; rfl) he0
          · refine ⟨fun _ => by decide, ?_⟩
            (conv => whnf); repeat ((first | (refine And.intro ?_ ?_; focus exact Cl3) | refine Both.T (by exact rfl) ?_ | refine Both.F (by exact rfl) ?_ | refine Both.GT (by exact rfl) (by exact rfl) ?_ | refine Both.GF (by exact rfl) ?_ | refine Both.GN (by exact rfl) ?_); conv => whnf)
            refine Both.E (bit_p h2 3 (by decide)) ?_
            have hTe : evTake (1 :: k :: r) = if hb k.toNat (2 ^ 3) then nxt (takeV b') fun n r => tS 5 { y with v := n } r else tS 5 y b' := by rw [hT, ← hyk]; rfl
            cases hbb : hb (k.toNat : Int) (2 ^ 3)
            · rw [hbb, if_neg (by decide)] at hTe
              (conv => whnf); repeat ((first | (refine And.intro ?_ ?_; focus exact Cl3) | refine Both.T (by exact rfl) ?_ | refine Both.F (by exact rfl) ?_ | refine Both.GT (by exact rfl) (by exact rfl) ?_ | refine Both.GF (by exact rfl) ?_ | refine Both.GN (by exact rfl) ?_); conv => whnf)
              refine ⟨[], ⟨5, y, z1, lp, t1', z2, t2', b', z', t'⟩, ⟨by show 5 ≤ 5; omega, ha, hyk, hTe, hz', hb'⟩, by show 5 - 5 < 5 - 4; omega, ?_⟩
              simp [meets, ghosts, St.le, St.get, look, keys, PV.labs, labsL, lookB, Blk.labs, stE, eco, fnsT, ev0, bs]
              try rfl
            · rw [hbb, if_pos rfl] at hTe
              (conv => whnf); repeat ((first | (refine And.intro ?_ ?_; focus exact Cl3) | refine Both.T (by exact rfl) ?_ | refine Both.F (by exact rfl) ?_ | refine Both.GT (by exact rfl) (by exact rfl) ?_ | refine Both.GF (by exact rfl) ?_ | refine Both.GN (by exact rfl) ?_); conv => whnf)
              refine stepV y z1 z2 lp t1' t2' b' z' t' 0 hz' (by omega) _ (fun v r5 e zz1 lp5 zz2 z5 hv hz5 ho => ?_)
              (conv => whnf); repeat ((first | (refine And.intro ?_ ?_; focus exact Cl3) | refine Both.T (by exact rfl) ?_ | refine Both.F (by exact rfl) ?_ | refine Both.GT (by exact rfl) (by exact rfl) ?_ | refine Both.GF (by exact rfl) ?_ | refine Both.GN (by exact rfl) ?_); conv => whnf)
              rcases ho with ⟨ho, rfl⟩ | ⟨ho, he0, rfl, rfl⟩
              · have hbk : bulkV v + r5.length ≤ b'.length := by
                  unfold takeV at ho
                  split at ho
                  · cases ho
                  · rename_i v' r' hp
                    split at ho
                    · cases ho; exact parse_bulk _ _ _ _ hp
                    · cases ho
                (conv => whnf); repeat ((first | (refine And.intro ?_ ?_; focus exact Cl3) | refine Both.T (by exact rfl) ?_ | refine Both.F (by exact rfl) ?_ | refine Both.GT (by exact rfl) (by exact rfl) ?_ | refine Both.GF (by exact rfl) ?_ | refine Both.GN (by exact rfl) ?_); conv => whnf)
                refine ⟨[], ⟨5, { y with v := v }, zz1, lp5, false, zz2, false, r5, z5, false⟩, ⟨by show 5 ≤ 5; omega, ⟨hv.va (by omega), ha.s, ha.id, ha.n⟩, hyk, (by rw [hTe, ho]; rfl), hz5, (by show r5.length ≤ _; omega)⟩, by show 5 - 5 < 5 - 4; omega, ?_⟩
                simp [meets, ghosts, St.le, St.get, look, keys, PV.labs, labsL, lookB, Blk.labs, stE, eco, fnsT, ev0, bs]
                try rfl
              · rw [show (e != 0) = true by simpa using he0]
                (conv => whnf); repeat ((first | (refine And.intro ?_ ?_; focus exact Cl3) | refine Both.T (by exact rfl) ?_ | refine Both.F (by exact rfl) ?_ | refine Both.GT (by exact rfl) (by exact rfl) ?_ | refine Both.GF (by exact rfl) ?_ | refine Both.GN (by exact rfl) ?_); conv => whnf)
                (conv => whnf); repeat' (first | ((first | (refine And.intro ?_ ?_; focus exact Cl3) | refine Both.T (by exact rfl) ?_ | refine Both.F (by exact rfl) ?_ | refine Both.GT (by exact rfl) (by exact rfl) ?_ | refine Both.GF (by exact rfl) ?_ | refine Both.GN (by exact rfl) ?_); conv => whnf) | (fail; conv => whnf) | ((refine Both.mk ?_ ?_ <;> fail_if_success (intro _)) <;> conv => whnf))
                all_goals exact herr e (by rw [hTe, ho]; rfl) he0
          · have hT5 : evTake (1 :: k :: r) = if evOk y then .ok (y, b') else .error 2 := hT
            refine evCheck_x y _ rfl z1 z2 lp _ _ _ ha ?_
            cases hev : evOk y
            · rw [hev, if_neg (by decide)] at hT5
              (conv => whnf); repeat ((first | (refine And.intro ?_ ?_; focus exact Cl3) | refine Both.T (by exact rfl) ?_ | refine Both.F (by exact rfl) ?_ | refine Both.GT (by exact rfl) (by exact rfl) ?_ | refine Both.GF (by exact rfl) ?_ | refine Both.GN (by exact rfl) ?_); conv => whnf)
              exact herr 2 hT5 (by decide)
            · rw [hev, if_pos rfl] at hT5
              (conv => whnf); repeat ((first | (refine And.intro ?_ ?_; focus exact Cl3) | refine Both.T (by exact rfl) ?_ | refine Both.F (by exact rfl) ?_ | refine Both.GT (by exact rfl) (by exact rfl) ?_ | refine Both.GF (by exact rfl) ?_ | refine Both.GN (by exact rfl) ?_); conv => whnf)
              (conv => whnf); repeat' (first | ((first | (refine And.intro ?_ ?_; focus exact Cl3) | refine Both.T (by exact rfl) ?_ | refine Both.F (by exact rfl) ?_ | refine Both.GT (by exact rfl) (by exact rfl) ?_ | refine Both.GF (by exact rfl) ?_ | refine Both.GN (by exact rfl) ?_); conv => whnf) | (refine cloneR_spec b' z' t' (by omega) _ (fun hnl => ?_) ?_; conv => whnf) | ((refine Both.mk ?_ ?_ <;> fail_if_success (intro _)) <;> conv => whnf))
              all_goals first
              | exact hok y b' hT5 z1 lp z2 ha
              | (subst hnl; exact hnil y hT5 z1 lp z2 ha)
      · rw [if_pos (.inr h2)] at he0
        (conv => whnf); repeat ((first | (refine And.intro ?_ ?_; focus exact Cl3) | refine Both.T (by exact rfl) ?_ | refine Both.F (by exact rfl) ?_ | refine Both.GT (by exact rfl) (by exact rfl) ?_ | refine Both.GF (by exact rfl) ?_ | refine Both.GN (by exact rfl) ?_); conv => whnf)
        exact herr 4 he0 (by decide)
    · have hv : ((c.toNat : Int) != 1) = true := by
        simp
        intro h2
        exact hc (UInt8.toNat.inj (by show c.toNat = 1; omega))
      rw [if_pos (.inl hc)] at he0
      rw [show ((c.toNat : Int) != 1) = true from hv]
      (conv => whnf); repeat ((first | (refine And.intro ?_ ?_; focus exact Cl3) | refine Both.T (by exact rfl) ?_ | refine Both.F (by exact rfl) ?_ | refine Both.GT (by exact rfl) (by exact rfl) ?_ | refine Both.GF (by exact rfl) ?_ | refine Both.GN (by exact rfl) ?_); conv => whnf)
      exact herr 4 he0 (by decide)
end Go.Vc
