/- What is proved here: contracts of functions of the program: of each function what it hands back and what it leaves in memory. Conditions: those that each theorem names. -/
import Derived.Test.YtfnmagjngnpokaaGreatDoorTf
import Derived.Test.YtfnmagjngnpokaaGreatDoorTc
import Derived.Test.YtfnmagjngnpokaaGreatDoorWe
set_option linter.unusedVariables false
set_option linter.unusedSimpArgs false
set_option linter.unusedSectionVars false
namespace Go.Vc
open Go Go.Proofs
set_option maxRecDepth 100000
set_option maxHeartbeats 8000000 in
theorem takeV_r (b : List UInt8) (z : Nat) (t : Bool) (hz : z = 1 ∨ b = []) (hb : b.length ≤ 1000000000) (Post : PV → List (Nat × Blk) → Prop)
    (h : ∀ v r e z1 lp z2 z, VO v z1 lp z2 → (z = 1 ∨ r = []) → OutZ V0 (takeV b) v r e → Post (.tup [.agg (vc v z1 lp false z2 false), .sl z (bs r) false true, .int .i64 e]) []) : Spec K 64 [.sl z (bs b) t true] [] Post := by
  refine is64.specW K_ok K_mix false (by simp) (by simp [keys]) ?_
  (conv => whnf); repeat ((first | (refine And.intro ?_ ?_; focus exact Cl4) | refine Both.T (by exact rfl) ?_ | refine Both.F (by exact rfl) ?_ | refine Both.GT (by exact rfl) (by exact rfl) ?_ | refine Both.GF (by exact rfl) ?_ | refine Both.GN (by exact rfl) ?_); conv => whnf)
  refine value_ref 8 (by omega) b 0 z t 0 rfl (.inl rfl) hz hb _ (fun v b' e' t' z1 lp z2 hv hb' hz' ho => ?_)
  rw [lift0] at ho
  (conv => whnf); repeat ((first | (refine And.intro ?_ ?_; focus exact Cl4) | refine Both.T (by exact rfl) ?_ | refine Both.F (by exact rfl) ?_ | refine Both.GT (by exact rfl) (by exact rfl) ?_ | refine Both.GF (by exact rfl) ?_ | refine Both.GN (by exact rfl) ?_); conv => whnf)
  rcases ho with ⟨ho, rfl⟩ | ⟨ho, he⟩
  · (conv => whnf); repeat ((first | (refine And.intro ?_ ?_; focus exact Cl4) | refine Both.T (by exact rfl) ?_ | refine Both.F (by exact rfl) ?_ | refine Both.GT (by exact rfl) (by exact rfl) ?_ | refine Both.GF (by exact rfl) ?_ | refine Both.GN (by exact rfl) ?_); conv => whnf)
    have hbk := parse_bulk _ _ _ _ ho
    refine may_spec v z1 z2 lp _ _ _ (hv.va (by omega)) ?_
    cases hm : mayV v
    · (conv => whnf); repeat ((first | (refine And.intro ?_ ?_; focus exact Cl4) | refine Both.T (by exact rfl) ?_ | refine Both.F (by exact rfl) ?_ | refine Both.GT (by exact rfl) (by exact rfl) ?_ | refine Both.GF (by exact rfl) ?_ | refine Both.GN (by exact rfl) ?_); conv => whnf)
      (conv => whnf); repeat' (first | ((first | (refine And.intro ?_ ?_; focus exact Cl4) | refine Both.T (by exact rfl) ?_ | refine Both.F (by exact rfl) ?_ | refine Both.GT (by exact rfl) (by exact rfl) ?_ | refine Both.GF (by exact rfl) ?_ | refine Both.GN (by exact rfl) ?_); conv => whnf) | (fail; conv => whnf) | ((refine Both.mk ?_ ?_ <;> fail_if_success (intro _)) <;> conv => whnf))
      all_goals exact h V0 [] 2 0 [] 0 _ VO0 (.inr rfl) (.inr ⟨by rw [takeV, ho]; simp [hm], by decide, rfl, rfl⟩)
    · (conv => whnf); repeat ((first | (refine And.intro ?_ ?_; focus exact Cl4) | refine Both.T (by exact rfl) ?_ | refine Both.F (by exact rfl) ?_ | refine Both.GT (by exact rfl) (by exact rfl) ?_ | refine Both.GF (by exact rfl) ?_ | refine Both.GN (by exact rfl) ?_); conv => whnf)
      (conv => whnf); repeat' (first | ((first | (refine And.intro ?_ ?_; focus exact Cl4) | refine Both.T (by exact rfl) ?_ | refine Both.F (by exact rfl) ?_ | refine Both.GT (by exact rfl) (by exact rfl) ?_ | refine Both.GF (by exact rfl) ?_ | refine Both.GN (by exact rfl) ?_); conv => whnf) | (refine copyB_spec b' z t' (by omega) _ ?_; conv => whnf) | ((refine Both.mk ?_ ?_ <;> fail_if_success (intro _)) <;> conv => whnf))
      all_goals exact h v b' 0 z1 lp z2 1 hv (.inl rfl) (.inl ⟨by rw [takeV, ho]; simp [hm], rfl⟩)
  · have h1 : (e' == 0) = false := by simpa using is345_ne he
    have h2 : (e' != 0) = true := by simpa using is345_ne he
    rw [h1]
    (conv => whnf); repeat ((first | (refine And.intro ?_ ?_; focus exact Cl4) | refine Both.T (by exact rfl) ?_ | refine Both.F (by exact rfl) ?_ | refine Both.GT (by exact rfl) (by exact rfl) ?_ | refine Both.GF (by exact rfl) ?_ | refine Both.GN (by exact rfl) ?_); conv => whnf)
    rw [h2]
    (conv => whnf); repeat ((first | (refine And.intro ?_ ?_; focus exact Cl4) | refine Both.T (by exact rfl) ?_ | refine Both.F (by exact rfl) ?_ | refine Both.GT (by exact rfl) (by exact rfl) ?_ | refine Both.GF (by exact rfl) ?_ | refine Both.GN (by exact rfl) ?_); conv => whnf)
    (conv => whnf); repeat' (first | ((first | (refine And.intro ?_ ?_; focus exact Cl4) | refine Both.T (by exact rfl) ?_ | refine Both.F (by exact rfl) ?_ | refine Both.GT (by exact rfl) (by exact rfl) ?_ | refine Both.GF (by exact rfl) ?_ | refine Both.GN (by exact rfl) ?_); conv => whnf) | (fail; conv => whnf) | ((refine Both.mk ?_ ?_ <;> fail_if_success (intro _)) <;> conv => whnf))
    all_goals exact h V0 [] e' 0 [] 0 _ VO0 (.inr rfl) (.inr ⟨by rw [takeV, ho], is345_ne he, rfl, rfl⟩)
theorem takeV_bulk {b : List UInt8} {v : V} {r : List UInt8} (h : takeV b = .ok (v, r)) : bulkV v + r.length ≤ b.length := by
  unfold takeV at h
  split at h
  · cases h
  · rename_i v' r' hp
    split at h
    · cases h; exact parse_bulk _ _ _ _ hp
    · cases h
/-- The bits, as the reference looks at them. -/
theorem bit_r {k : Int} (hk : wi k 1 15 = true) : ∀ m ∈ [1, 2, 4, 8], decide (0 < bitsI .and .i64 (hasI k) m) = hb k m := by
  rcases kinds hk with rfl | rfl | rfl | rfl | rfl | rfl | rfl | rfl | rfl | rfl | rfl | rfl | rfl | rfl | rfl <;> decide +kernel
set_option maxHeartbeats 64000000 in
theorem take_r (b : List UInt8) (z : Nat) (t : Bool) (hz : z = 1 ∨ b = []) (hb1 : b.length ≤ 1000000000) (Post : PV → List (Nat × Blk) → Prop)
    (herr : ∀ e, evTake b = .error e → e ≠ 0 → Post (.tup [zeroE, .sl 0 [] false true, .int .i64 e]) [])
    (hok : ∀ y r, evTake b = .ok (y, r) → ∀ z1 lp z2, EA y z1 lp z2 → ∀ z, (z = 1 ∨ r = []) → Post (.tup [.agg (ec y z1 lp false z2 false), .sl z (bs r) false true, .int .i64 0]) []) :
    Spec K 30 [.sl z (bs b) t true] [] Post := by
  refine is30.specC [50, 64, 78, 92] K_ok K_mix false (by simp) (by simp [keys]) ?_
  (conv => whnf); repeat ((first | (refine And.intro ?_ ?_; focus exact Cl4) | refine Both.T (by exact rfl) ?_ | refine Both.F (by exact rfl) ?_ | refine Both.GT (by exact rfl) (by exact rfl) ?_ | refine Both.GF (by exact rfl) ?_ | refine Both.GN (by exact rfl) ?_); conv => whnf)
  rw [bs_len]
  by_cases hl : b.length < 2
  · rw [decide_eq_true (show (b.length : Int) < 2 by omega)]
    (conv => whnf); repeat ((first | (refine And.intro ?_ ?_; focus exact Cl4) | refine Both.T (by exact rfl) ?_ | refine Both.F (by exact rfl) ?_ | refine Both.GT (by exact rfl) (by exact rfl) ?_ | refine Both.GF (by exact rfl) ?_ | refine Both.GN (by exact rfl) ?_); conv => whnf)
    exact herr 3 (by rw [evTake, if_pos hl]) (by decide)
  · rw [decide_eq_false (show ¬ (b.length : Int) < 2 by omega)]
    obtain ⟨c, k, r, rfl⟩ : ∃ c k r, b = c :: k :: r := by
      match b, hl with
      | c :: k :: r, _ => exact ⟨c, k, r, rfl⟩
      | [], h => simp at h
      | [_], h => simp at h
    have hz1 : z = 1 := hz.resolve_right (by simp)
    subst hz1
    have hrr : r.length ≤ 1000000000 := by simp at hb1; omega
    have hT0 : evTake (c :: k :: r) = if c ≠ 1 ∨ wi (k.toNat : Int) 1 15 = false then .error 4 else t0 ⟨k.toNat, 0, 0, 0, [], V0⟩ r := by
      rw [evTake, if_neg hl]; rfl
    have hk8 := k.toNat_lt
    have hg : ∀ p : Prop, p → (0 : Int) ≤ 1 ∧ (1 : Int) < ((bs (c :: k :: r)).length : Int) := fun _ _ => ⟨by decide, by rw [bs_len]; simp only [List.length_cons]; omega⟩
    have hg0 : True → (0 : Int) ≤ 0 ∧ (0 : Int) < ((bs (c :: k :: r)).length : Int) := fun _ => ⟨by decide, by rw [bs_len]; simp only [List.length_cons]; omega⟩
    have hnk : nth (bs (c :: k :: r)) (Int.toNat 1) = .int .u8 (k.toNat : Int) := rfl
    (conv => whnf); repeat ((first | (refine And.intro ?_ ?_; focus exact Cl4) | refine Both.T (by exact rfl) ?_ | refine Both.F (by exact rfl) ?_ | refine Both.GT (by exact rfl) (by exact rfl) ?_ | refine Both.GF (by exact rfl) ?_ | refine Both.GN (by exact rfl) ?_); conv => whnf)
    by_cases hc : c = 1
    · subst hc
      (conv => whnf); repeat ((first | (refine And.intro ?_ ?_; focus exact Cl4) | refine Both.T (by exact rfl) ?_ | refine Both.F (by exact rfl) ?_ | refine Both.GT (by exact rfl) (by exact rfl) ?_ | refine Both.GF (by exact rfl) ?_ | refine Both.GN (by exact rfl) ?_); conv => whnf)
      rw [wrap64 (n := (k.toNat : Int)) (by omega) (by omega)]
      refine withinR_c _ _ _ _ (fun h2 => ?_) (fun h2 => ?_)
      · rw [if_neg (by simp [h2])] at hT0
        (conv => whnf); repeat ((first | (refine And.intro ?_ ?_; focus exact Cl4) | refine Both.T (by exact rfl) ?_ | refine Both.F (by exact rfl) ?_ | refine Both.GT (by exact rfl) (by exact rfl) ?_ | refine Both.GF (by exact rfl) ?_ | refine Both.GN (by exact rfl) ?_); conv => whnf)
        rw [wrap64 (n := (k.toNat : Int)) (by omega) (by omega)]
        refine has_spec _ h2 _ ?_
        (conv => whnf); repeat ((first | (refine And.intro ?_ ?_; focus exact Cl4) | refine Both.T (by exact rfl) ?_ | refine Both.F (by exact rfl) ?_ | refine Both.GT (by exact rfl) (by exact rfl) ?_ | refine Both.GF (by exact rfl) ?_ | refine Both.GN (by exact rfl) ?_); conv => whnf)
        rw [show List.drop (Int.toNat 2) (List.take (bs (1 :: k :: r)).length (bs (1 :: k :: r))) = bs r by rw [List.take_length]; rfl]
        have hyk0 : (⟨k.toNat, 0, 0, 0, [], V0⟩ : EV).kind = k.toNat := rfl
        refine takeNumR_spec r 1 _ (.inl rfl) hrr _ (fun z0 m0 r0 e0 he0_ hz0 => ?_)
        have hrl0 := rd_rest he0_
        have hT : evTake (1 :: k :: r) = lift e0 (tS 1 ⟨k.toNat, m0, 0, 0, [], V0⟩ r0) := by
          rw [hT0]
          show nxt (numE numG r) _ = _
          by_cases he0 : e0 = 0
          · subst he0
            rw [numE_ok he0_]; rfl
          · rw [numE_err he0_ he0, liftE he0]; rfl
        (conv => whnf); repeat ((first | (refine And.intro ?_ ?_; focus exact Cl4) | refine Both.T (by exact rfl) ?_ | refine Both.F (by exact rfl) ?_ | refine Both.GT (by exact rfl) (by exact rfl) ?_ | refine Both.GF (by exact rfl) ?_ | refine Both.GN (by exact rfl) ?_); conv => whnf)
        have hyk : (⟨k.toNat, m0, 0, 0, [], V0⟩ : EV).kind = k.toNat := rfl
        have ha := EA0 k.toNat m0
        have hz := hz0
        have hbr : r0.length ≤ r.length := hrl0
        have hyv : (⟨k.toNat, m0, 0, 0, [], V0⟩ : EV).v = V0 := rfl
        refine ⟨EV × List UInt8 × Nat × Bool × Int, fun y => ⟨111, [(9, .int .i64 y.2.2.2.2), (8, .sl y.2.2.1 (bs y.2.1) y.2.2.2.1 true), (6, .int .i64 (hasI k.toNat)), (5, .ptr 1 0), (2, .ptr 0 0)], [(0, .box [.int .i64 0, .int .i64 0, .int .i64 0, .int .i64 0, .str [], .int .i64 0, .int .i64 0, .str [], .sl 0 [] true false, .sl 0 [] true false]), (1, .box (eco false y.1 0 [] true 0 true))], []⟩, fun y => evTake (1 :: k :: r) = lift y.2.2.2.2 (tS 2 y.1 y.2.1) ∧ y.1.kind = k.toNat ∧ EA y.1 0 [] 0 ∧ (y.2.2.1 = 1 ∨ y.2.1 = []) ∧ y.2.1.length ≤ r.length, ?_, fun y hy => ?_⟩
        · by_cases hez : e0 = 0
          · subst hez
            rw [lift0] at hT
            have hTe : evTake (1 :: k :: r) = if hb k.toNat 1 then nxt (numE numG r0) fun n r => tS 2 { (⟨k.toNat, m0, 0, 0, [], V0⟩ : EV) with id := n } r else tS 2 (⟨k.toNat, m0, 0, 0, [], V0⟩ : EV) r0 := by rw [hT, ← hyk]; rfl
            (conv => whnf); repeat ((first | (refine And.intro ?_ ?_; focus exact Cl4) | refine Both.T (by exact rfl) ?_ | refine Both.F (by exact rfl) ?_ | refine Both.GT (by exact rfl) (by exact rfl) ?_ | refine Both.GF (by exact rfl) ?_ | refine Both.GN (by exact rfl) ?_); conv => whnf)
            refine Both.E' (bit_r h2 1 (by decide)) ?_
            cases hbb : hb (k.toNat : Int) 1
            · rw [hbb, if_neg (by decide)] at hTe
              (conv => whnf); repeat ((first | (refine And.intro ?_ ?_; focus exact Cl4) | refine Both.T (by exact rfl) ?_ | refine Both.F (by exact rfl) ?_ | refine Both.GT (by exact rfl) (by exact rfl) ?_ | refine Both.GF (by exact rfl) ?_ | refine Both.GN (by exact rfl) ?_); conv => whnf)
              refine ⟨[], ((⟨k.toNat, m0, 0, 0, [], V0⟩ : EV), r0, z0, false, 0), ⟨hTe, hyk, ha, hz, hbr⟩, ?_⟩
              simp [meets, ghosts, St.le, St.get, look, keys, PV.labs, labsL, lookB, Blk.labs, eco, V0, V.k, V.n, V.s, V.l, V.ns, strs, EV.v]
            · rw [hbb, if_pos rfl] at hTe
              (conv => whnf); repeat ((first | (refine And.intro ?_ ?_; focus exact Cl4) | refine Both.T (by exact rfl) ?_ | refine Both.F (by exact rfl) ?_ | refine Both.GT (by exact rfl) (by exact rfl) ?_ | refine Both.GF (by exact rfl) ?_ | refine Both.GN (by exact rfl) ?_); conv => whnf)
              refine takeNumR_spec r0 z0 false hz (by omega) _ (fun z5 m5 r5 e5 he hz5 => ?_)
              have hrl5 := rd_rest he
              (conv => whnf); repeat ((first | (refine And.intro ?_ ?_; focus exact Cl4) | refine Both.T (by exact rfl) ?_ | refine Both.F (by exact rfl) ?_ | refine Both.GT (by exact rfl) (by exact rfl) ?_ | refine Both.GF (by exact rfl) ?_ | refine Both.GN (by exact rfl) ?_); conv => whnf)
              refine ⟨[], ({ (⟨k.toNat, m0, 0, 0, [], V0⟩ : EV) with id := m5 }, r5, z5, false, e5), ⟨?_, hyk, ⟨ha.v, ha.s, num_i64 he, ha.n⟩, hz5, by show r5.length ≤ _; omega⟩, ?_⟩
              · show evTake (1 :: k :: r) = lift e5 (tS 2 { (⟨k.toNat, m0, 0, 0, [], V0⟩ : EV) with id := m5 } r5)
                rw [hTe]
                by_cases he50 : e5 = 0
                · subst he50
                  rw [numE_ok he]; rfl
                · rw [numE_err he he50, liftE he50]; rfl
              · simp [meets, ghosts, St.le, St.get, look, keys, PV.labs, labsL, lookB, Blk.labs, eco, V0, V.k, V.n, V.s, V.l, V.ns, strs, EV.v]
          · have hTe : evTake (1 :: k :: r) = .error e0 := by rw [hT, liftE hez]
            have h1 : (e0 == 0) = false := by simpa using hez
            (conv => whnf); repeat ((first | (refine And.intro ?_ ?_; focus exact Cl4) | refine Both.T (by exact rfl) ?_ | refine Both.F (by exact rfl) ?_ | refine Both.GT (by exact rfl) (by exact rfl) ?_ | refine Both.GF (by exact rfl) ?_ | refine Both.GN (by exact rfl) ?_); conv => whnf)
            rw [h1]
            (conv => whnf); repeat ((first | (refine And.intro ?_ ?_; focus exact Cl4) | refine Both.T (by exact rfl) ?_ | refine Both.F (by exact rfl) ?_ | refine Both.GT (by exact rfl) (by exact rfl) ?_ | refine Both.GF (by exact rfl) ?_ | refine Both.GN (by exact rfl) ?_); conv => whnf)
            refine ⟨[], ((⟨k.toNat, m0, 0, 0, [], V0⟩ : EV), r0, z0, false, e0), ⟨by rw [hTe, liftE hez], hyk, ha, hz, hbr⟩, ?_⟩
            simp [meets, ghosts, St.le, St.get, look, keys, PV.labs, labsL, lookB, Blk.labs, eco, V0, V.k, V.n, V.s, V.l, V.ns, strs, EV.v]
        obtain ⟨y1, b1, z1, t1, e1⟩ := y
        clear hT hyk ha hz hbr
        obtain ⟨hT, hyk, ha, hz, hbr⟩ := hy
        simp only at hT hyk ha hz hbr
        conv => (arg 4; dsimp only)
        (conv => whnf); repeat ((first | (refine And.intro ?_ ?_; focus exact Cl4) | refine Both.T (by exact rfl) ?_ | refine Both.F (by exact rfl) ?_ | refine Both.GT (by exact rfl) (by exact rfl) ?_ | refine Both.GF (by exact rfl) ?_ | refine Both.GN (by exact rfl) ?_); conv => whnf)
        refine ⟨EV × List UInt8 × Nat × Bool × Int, fun y => ⟨111, [(9, .int .i64 y.2.2.2.2), (8, .sl y.2.2.1 (bs y.2.1) y.2.2.2.1 true), (6, .int .i64 (hasI k.toNat)), (5, .ptr 1 0), (2, .ptr 0 0)], [(0, .box [.int .i64 0, .int .i64 0, .int .i64 0, .int .i64 0, .str [], .int .i64 0, .int .i64 0, .str [], .sl 0 [] true false, .sl 0 [] true false]), (1, .box (eco false y.1 0 [] true 0 true))], []⟩, fun y => evTake (1 :: k :: r) = lift y.2.2.2.2 (tS 3 y.1 y.2.1) ∧ y.1.kind = k.toNat ∧ EA y.1 0 [] 0 ∧ (y.2.2.1 = 1 ∨ y.2.1 = []) ∧ y.2.1.length ≤ r.length, ?_, fun y hy => ?_⟩
        · by_cases hez : e1 = 0
          · subst hez
            rw [lift0] at hT
            have hTe : evTake (1 :: k :: r) = if hb k.toNat 2 then nxt (numE intG b1) fun n r => tS 3 { y1 with n := n } r else tS 3 y1 b1 := by rw [hT, ← hyk]; rfl
            (conv => whnf); repeat ((first | (refine And.intro ?_ ?_; focus exact Cl4) | refine Both.T (by exact rfl) ?_ | refine Both.F (by exact rfl) ?_ | refine Both.GT (by exact rfl) (by exact rfl) ?_ | refine Both.GF (by exact rfl) ?_ | refine Both.GN (by exact rfl) ?_); conv => whnf)
            refine Both.E' (bit_r h2 2 (by decide)) ?_
            cases hbb : hb (k.toNat : Int) 2
            · rw [hbb, if_neg (by decide)] at hTe
              (conv => whnf); repeat ((first | (refine And.intro ?_ ?_; focus exact Cl4) | refine Both.T (by exact rfl) ?_ | refine Both.F (by exact rfl) ?_ | refine Both.GT (by exact rfl) (by exact rfl) ?_ | refine Both.GF (by exact rfl) ?_ | refine Both.GN (by exact rfl) ?_); conv => whnf)
              refine ⟨[], (y1, b1, z1, t1, 0), ⟨hTe, hyk, ha, hz, hbr⟩, ?_⟩
              simp [meets, ghosts, St.le, St.get, look, keys, PV.labs, labsL, lookB, Blk.labs, eco]
            · rw [hbb, if_pos rfl] at hTe
              (conv => whnf); repeat ((first | (refine And.intro ?_ ?_; focus exact Cl4) | refine Both.T (by exact rfl) ?_ | refine Both.F (by exact rfl) ?_ | refine Both.GT (by exact rfl) (by exact rfl) ?_ | refine Both.GF (by exact rfl) ?_ | refine Both.GN (by exact rfl) ?_); conv => whnf)
              refine takeIntR_spec b1 z1 t1 hz (by omega) _ (fun z5 m5 r5 e5 he hz5 => ?_)
              have hrl5 := rd_rest he
              (conv => whnf); repeat ((first | (refine And.intro ?_ ?_; focus exact Cl4) | refine Both.T (by exact rfl) ?_ | refine Both.F (by exact rfl) ?_ | refine Both.GT (by exact rfl) (by exact rfl) ?_ | refine Both.GF (by exact rfl) ?_ | refine Both.GN (by exact rfl) ?_); conv => whnf)
              refine ⟨[], ({ y1 with n := m5 }, r5, z5, false, e5), ⟨?_, hyk, ⟨ha.v, ha.s, ha.id, int_i64 he⟩, hz5, by show r5.length ≤ _; omega⟩, ?_⟩
              · show evTake (1 :: k :: r) = lift e5 (tS 3 { y1 with n := m5 } r5)
                rw [hTe]
                by_cases he50 : e5 = 0
                · subst he50
                  rw [numE_ok he]; rfl
                · rw [numE_err he he50, liftE he50]; rfl
              · simp [meets, ghosts, St.le, St.get, look, keys, PV.labs, labsL, lookB, Blk.labs, eco]
          · have hTe : evTake (1 :: k :: r) = .error e1 := by rw [hT, liftE hez]
            have h1 : (e1 == 0) = false := by simpa using hez
            (conv => whnf); repeat ((first | (refine And.intro ?_ ?_; focus exact Cl4) | refine Both.T (by exact rfl) ?_ | refine Both.F (by exact rfl) ?_ | refine Both.GT (by exact rfl) (by exact rfl) ?_ | refine Both.GF (by exact rfl) ?_ | refine Both.GN (by exact rfl) ?_); conv => whnf)
            rw [h1]
            (conv => whnf); repeat ((first | (refine And.intro ?_ ?_; focus exact Cl4) | refine Both.T (by exact rfl) ?_ | refine Both.F (by exact rfl) ?_ | refine Both.GT (by exact rfl) (by exact rfl) ?_ | refine Both.GF (by exact rfl) ?_ | refine Both.GN (by exact rfl) ?_); conv => whnf)
            refine ⟨[], (y1, b1, z1, t1, e1), ⟨by rw [hTe, liftE hez], hyk, ha, hz, hbr⟩, ?_⟩
            simp [meets, ghosts, St.le, St.get, look, keys, PV.labs, labsL, lookB, Blk.labs, eco]
        obtain ⟨y2, b2, z2, t2, e2⟩ := y
        clear hT hyk ha hz hbr
        obtain ⟨hT, hyk, ha, hz, hbr⟩ := hy
        simp only at hT hyk ha hz hbr
        conv => (arg 4; dsimp only)
        (conv => whnf); repeat ((first | (refine And.intro ?_ ?_; focus exact Cl4) | refine Both.T (by exact rfl) ?_ | refine Both.F (by exact rfl) ?_ | refine Both.GT (by exact rfl) (by exact rfl) ?_ | refine Both.GF (by exact rfl) ?_ | refine Both.GN (by exact rfl) ?_); conv => whnf)
        refine ⟨EV × List UInt8 × Nat × Bool × Int, fun y => ⟨111, [(9, .int .i64 y.2.2.2.2), (8, .sl y.2.2.1 (bs y.2.1) y.2.2.2.1 true), (6, .int .i64 (hasI k.toNat)), (5, .ptr 1 0), (2, .ptr 0 0)], [(0, .box [.int .i64 0, .int .i64 0, .int .i64 0, .int .i64 0, .str [], .int .i64 0, .int .i64 0, .str [], .sl 0 [] true false, .sl 0 [] true false]), (1, .box (eco false y.1 0 [] true 0 true))], []⟩, fun y => evTake (1 :: k :: r) = lift y.2.2.2.2 (tS 4 y.1 y.2.1) ∧ y.1.kind = k.toNat ∧ EA y.1 0 [] 0 ∧ (y.2.2.1 = 1 ∨ y.2.1 = []) ∧ y.2.1.length ≤ r.length, ?_, fun y hy => ?_⟩
        · by_cases hez : e2 = 0
          · subst hez
            rw [lift0] at hT
            have hTe : evTake (1 :: k :: r) = if hb k.toNat 4 then nxt (txtE b2) fun n r => tS 4 { y2 with s := n } r else tS 4 y2 b2 := by rw [hT, ← hyk]; rfl
            (conv => whnf); repeat ((first | (refine And.intro ?_ ?_; focus exact Cl4) | refine Both.T (by exact rfl) ?_ | refine Both.F (by exact rfl) ?_ | refine Both.GT (by exact rfl) (by exact rfl) ?_ | refine Both.GF (by exact rfl) ?_ | refine Both.GN (by exact rfl) ?_); conv => whnf)
            refine Both.E' (bit_r h2 4 (by decide)) ?_
            cases hbb : hb (k.toNat : Int) 4
            · rw [hbb, if_neg (by decide)] at hTe
              (conv => whnf); repeat ((first | (refine And.intro ?_ ?_; focus exact Cl4) | refine Both.T (by exact rfl) ?_ | refine Both.F (by exact rfl) ?_ | refine Both.GT (by exact rfl) (by exact rfl) ?_ | refine Both.GF (by exact rfl) ?_ | refine Both.GN (by exact rfl) ?_); conv => whnf)
              refine ⟨[], (y2, b2, z2, t2, 0), ⟨hTe, hyk, ha, hz, hbr⟩, ?_⟩
              simp [meets, ghosts, St.le, St.get, look, keys, PV.labs, labsL, lookB, Blk.labs, eco]
            · rw [hbb, if_pos rfl] at hTe
              (conv => whnf); repeat ((first | (refine And.intro ?_ ?_; focus exact Cl4) | refine Both.T (by exact rfl) ?_ | refine Both.F (by exact rfl) ?_ | refine Both.GT (by exact rfl) (by exact rfl) ?_ | refine Both.GF (by exact rfl) ?_ | refine Both.GN (by exact rfl) ?_); conv => whnf)
              refine takeTextR_spec b2 z2 t2 16 hz (by omega) _ (fun z5 m5 r5 e5 he hz5 => ?_)
              have hrl5 := (txt_len he).2
              (conv => whnf); repeat ((first | (refine And.intro ?_ ?_; focus exact Cl4) | refine Both.T (by exact rfl) ?_ | refine Both.F (by exact rfl) ?_ | refine Both.GT (by exact rfl) (by exact rfl) ?_ | refine Both.GF (by exact rfl) ?_ | refine Both.GN (by exact rfl) ?_); conv => whnf)
              refine ⟨[], ({ y2 with s := m5 }, r5, z5, false, e5), ⟨?_, hyk, ⟨ha.v, Nat.le_trans (txt_len he).1 (by omega), ha.id, ha.n⟩, hz5, by show r5.length ≤ _; omega⟩, ?_⟩
              · show evTake (1 :: k :: r) = lift e5 (tS 4 { y2 with s := m5 } r5)
                rw [hTe]
                by_cases he50 : e5 = 0
                · subst he50
                  rw [txtE_ok he]; rfl
                · rw [txtE_err he he50, liftE he50]; rfl
              · simp [meets, ghosts, St.le, St.get, look, keys, PV.labs, labsL, lookB, Blk.labs, eco]
          · have hTe : evTake (1 :: k :: r) = .error e2 := by rw [hT, liftE hez]
            have h1 : (e2 == 0) = false := by simpa using hez
            (conv => whnf); repeat ((first | (refine And.intro ?_ ?_; focus exact Cl4) | refine Both.T (by exact rfl) ?_ | refine Both.F (by exact rfl) ?_ | refine Both.GT (by exact rfl) (by exact rfl) ?_ | refine Both.GF (by exact rfl) ?_ | refine Both.GN (by exact rfl) ?_); conv => whnf)
            rw [h1]
            (conv => whnf); repeat ((first | (refine And.intro ?_ ?_; focus exact Cl4) | refine Both.T (by exact rfl) ?_ | refine Both.F (by exact rfl) ?_ | refine Both.GT (by exact rfl) (by exact rfl) ?_ | refine Both.GF (by exact rfl) ?_ | refine Both.GN (by exact rfl) ?_); conv => whnf)
            refine ⟨[], (y2, b2, z2, t2, e2), ⟨by rw [hTe, liftE hez], hyk, ha, hz, hbr⟩, ?_⟩
            simp [meets, ghosts, St.le, St.get, look, keys, PV.labs, labsL, lookB, Blk.labs, eco]
        obtain ⟨y3, b3, z3, t3, e3⟩ := y
        clear hT hyk ha hz hbr
        obtain ⟨hT, hyk, ha, hz, hbr⟩ := hy
        simp only at hT hyk ha hz hbr
        conv => (arg 4; dsimp only)
        (conv => whnf); repeat ((first | (refine And.intro ?_ ?_; focus exact Cl4) | refine Both.T (by exact rfl) ?_ | refine Both.F (by exact rfl) ?_ | refine Both.GT (by exact rfl) (by exact rfl) ?_ | refine Both.GF (by exact rfl) ?_ | refine Both.GN (by exact rfl) ?_); conv => whnf)
        refine ⟨(EV × Nat × List PV × Bool × Nat × Bool × Bool) × List UInt8 × Nat × Bool × Int, fun x => ⟨111, [(9, .int .i64 x.2.2.2.2), (8, .sl x.2.2.1 (bs x.2.1) x.2.2.2.1 true), (6, .int .i64 (hasI k.toNat)), (5, .ptr 1 0), (2, .ptr 0 0)], [(0, .box [.int .i64 0, .int .i64 0, .int .i64 0, .int .i64 0, .str [], .int .i64 0, .int .i64 0, .str [], .sl 0 [] true false, .sl 0 [] true false]), (1, .box (eco x.1.2.2.2.2.2.2 x.1.1 x.1.2.1 x.1.2.2.1 x.1.2.2.2.1 x.1.2.2.2.2.1 x.1.2.2.2.2.2.1))], []⟩, fun x => evTake (1 :: k :: r) = lift x.2.2.2.2 (tS 5 x.1.1 x.2.1) ∧ EA x.1.1 x.1.2.1 x.1.2.2.1 x.1.2.2.2.2.1 ∧ (x.2.2.1 = 1 ∨ x.2.1 = []) ∧ x.2.1.length ≤ r.length, ?_, fun y hy => ?_⟩
        · by_cases hez : e3 = 0
          · subst hez
            rw [lift0] at hT
            have hTe : evTake (1 :: k :: r) = if hb k.toNat 8 then nxt (takeV b3) fun n r => tS 5 { y3 with v := n } r else tS 5 y3 b3 := by rw [hT, ← hyk]; rfl
            (conv => whnf); repeat ((first | (refine And.intro ?_ ?_; focus exact Cl4) | refine Both.T (by exact rfl) ?_ | refine Both.F (by exact rfl) ?_ | refine Both.GT (by exact rfl) (by exact rfl) ?_ | refine Both.GF (by exact rfl) ?_ | refine Both.GN (by exact rfl) ?_); conv => whnf)
            refine Both.E' (bit_r h2 8 (by decide)) ?_
            cases hbb : hb (k.toNat : Int) 8
            · rw [hbb, if_neg (by decide)] at hTe
              (conv => whnf); repeat ((first | (refine And.intro ?_ ?_; focus exact Cl4) | refine Both.T (by exact rfl) ?_ | refine Both.F (by exact rfl) ?_ | refine Both.GT (by exact rfl) (by exact rfl) ?_ | refine Both.GF (by exact rfl) ?_ | refine Both.GN (by exact rfl) ?_); conv => whnf)
              refine ⟨[], ((y3, 0, [], true, 0, true, false), b3, z3, t3, 0), ⟨hTe, ha, hz, hbr⟩, ?_⟩
              simp [meets, ghosts, St.le, St.get, look, keys, PV.labs, labsL, lookB, Blk.labs, eco]
            · rw [hbb, if_pos rfl] at hTe
              (conv => whnf); repeat ((first | (refine And.intro ?_ ?_; focus exact Cl4) | refine Both.T (by exact rfl) ?_ | refine Both.F (by exact rfl) ?_ | refine Both.GT (by exact rfl) (by exact rfl) ?_ | refine Both.GF (by exact rfl) ?_ | refine Both.GN (by exact rfl) ?_); conv => whnf)
              refine takeV_r b3 z3 t3 hz (by omega) _ (fun v r5 e5 w1 lp w2 z5 hv hz5 ho => ?_)
              (conv => whnf); repeat ((first | (refine And.intro ?_ ?_; focus exact Cl4) | refine Both.T (by exact rfl) ?_ | refine Both.F (by exact rfl) ?_ | refine Both.GT (by exact rfl) (by exact rfl) ?_ | refine Both.GF (by exact rfl) ?_ | refine Both.GN (by exact rfl) ?_); conv => whnf)
              refine ⟨[], (({ y3 with v := v }, w1, lp, false, w2, false, true), r5, z5, false, e5), ⟨?_, ?_, hz5, ?_⟩, ?_⟩
              · show evTake (1 :: k :: r) = lift e5 (tS 5 { y3 with v := v } r5)
                rw [hTe]
                rcases ho with ⟨ho, rfl⟩ | ⟨ho, he50, rfl, rfl⟩
                · rw [ho]; rfl
                · rw [ho, liftE he50]; rfl
              · rcases ho with ⟨ho, rfl⟩ | ⟨ho, he50, rfl, rfl⟩
                · exact ⟨hv.va (by have := takeV_bulk ho; omega), ha.s, ha.id, ha.n⟩
                · exact ⟨hv.va (by decide), ha.s, ha.id, ha.n⟩
              · show r5.length ≤ r.length
                rcases ho with ⟨ho, rfl⟩ | ⟨ho, he50, rfl, rfl⟩
                · have := takeV_bulk ho; omega
                · simp
              · simp [meets, ghosts, St.le, St.get, look, keys, PV.labs, labsL, lookB, Blk.labs, eco]
          · have hTe : evTake (1 :: k :: r) = .error e3 := by rw [hT, liftE hez]
            have h1 : (e3 == 0) = false := by simpa using hez
            (conv => whnf); repeat ((first | (refine And.intro ?_ ?_; focus exact Cl4) | refine Both.T (by exact rfl) ?_ | refine Both.F (by exact rfl) ?_ | refine Both.GT (by exact rfl) (by exact rfl) ?_ | refine Both.GF (by exact rfl) ?_ | refine Both.GN (by exact rfl) ?_); conv => whnf)
            rw [h1]
            (conv => whnf); repeat ((first | (refine And.intro ?_ ?_; focus exact Cl4) | refine Both.T (by exact rfl) ?_ | refine Both.F (by exact rfl) ?_ | refine Both.GT (by exact rfl) (by exact rfl) ?_ | refine Both.GF (by exact rfl) ?_ | refine Both.GN (by exact rfl) ?_); conv => whnf)
            refine ⟨[], ((y3, 0, [], true, 0, true, false), b3, z3, t3, e3), ⟨by rw [hTe, liftE hez], ha, hz, hbr⟩, ?_⟩
            simp [meets, ghosts, St.le, St.get, look, keys, PV.labs, labsL, lookB, Blk.labs, eco]
        obtain ⟨⟨y, w1, lp, t1', w2, t2', o⟩, b', z', t', e'⟩ := y
        clear hT hyk ha hz hbr
        obtain ⟨hT, ha, hz, hbr⟩ := hy
        simp only at hT ha hz hbr
        conv => (arg 4; dsimp only)
        (conv => whnf); repeat ((first | (refine And.intro ?_ ?_; focus exact Cl4) | refine Both.T (by exact rfl) ?_ | refine Both.F (by exact rfl) ?_ | refine Both.GT (by exact rfl) (by exact rfl) ?_ | refine Both.GF (by exact rfl) ?_ | refine Both.GN (by exact rfl) ?_); conv => whnf)
        by_cases hez : e' = 0
        · subst hez
          have hT5 : evTake (1 :: k :: r) = if evOk y then .ok (y, b') else .error 2 := hT
          (conv => whnf); repeat ((first | (refine And.intro ?_ ?_; focus exact Cl4) | refine Both.T (by exact rfl) ?_ | refine Both.F (by exact rfl) ?_ | refine Both.GT (by exact rfl) (by exact rfl) ?_ | refine Both.GF (by exact rfl) ?_ | refine Both.GN (by exact rfl) ?_); conv => whnf)
          refine evCheckR_x y _ rfl w1 w2 lp _ _ _ ha ?_
          cases hev : evOk y
          · rw [hev, if_neg (by decide)] at hT5
            (conv => whnf); repeat ((first | (refine And.intro ?_ ?_; focus exact Cl4) | refine Both.T (by exact rfl) ?_ | refine Both.F (by exact rfl) ?_ | refine Both.GT (by exact rfl) (by exact rfl) ?_ | refine Both.GF (by exact rfl) ?_ | refine Both.GN (by exact rfl) ?_); conv => whnf)
            exact herr 2 hT5 (by decide)
          · rw [hev, if_pos rfl] at hT5
            (conv => whnf); repeat ((first | (refine And.intro ?_ ?_; focus exact Cl4) | refine Both.T (by exact rfl) ?_ | refine Both.F (by exact rfl) ?_ | refine Both.GT (by exact rfl) (by exact rfl) ?_ | refine Both.GF (by exact rfl) ?_ | refine Both.GN (by exact rfl) ?_); conv => whnf)
            (conv => whnf); repeat' (first | ((first | (refine And.intro ?_ ?_; focus exact Cl4) | refine Both.T (by exact rfl) ?_ | refine Both.F (by exact rfl) ?_ | refine Both.GT (by exact rfl) (by exact rfl) ?_ | refine Both.GF (by exact rfl) ?_ | refine Both.GN (by exact rfl) ?_); conv => whnf) | (refine copyB_spec b' z' t' (by omega) _ ?_; conv => whnf) | ((refine Both.mk ?_ ?_ <;> fail_if_success (intro _)) <;> conv => whnf))
            all_goals exact hok y b' hT5 w1 lp w2 ha 1 (.inl rfl)
        · have h2' : (e' != 0) = true := by simpa using hez
          rw [h2']
          (conv => whnf); repeat ((first | (refine And.intro ?_ ?_; focus exact Cl4) | refine Both.T (by exact rfl) ?_ | refine Both.F (by exact rfl) ?_ | refine Both.GT (by exact rfl) (by exact rfl) ?_ | refine Both.GF (by exact rfl) ?_ | refine Both.GN (by exact rfl) ?_); conv => whnf)
          exact herr e' (by rw [hT, liftE hez]) hez
      · rw [if_pos (.inr h2)] at hT0
        (conv => whnf); repeat ((first | (refine And.intro ?_ ?_; focus exact Cl4) | refine Both.T (by exact rfl) ?_ | refine Both.F (by exact rfl) ?_ | refine Both.GT (by exact rfl) (by exact rfl) ?_ | refine Both.GF (by exact rfl) ?_ | refine Both.GN (by exact rfl) ?_); conv => whnf)
        exact herr 4 hT0 (by decide)
    · have hv : ((c.toNat : Int) != 1) = true := by
        simp
        intro h2
        exact hc (UInt8.toNat.inj (by show c.toNat = 1; omega))
      rw [if_pos (.inl hc)] at hT0
      rw [show ((c.toNat : Int) != 1) = true from hv]
      (conv => whnf); repeat ((first | (refine And.intro ?_ ?_; focus exact Cl4) | refine Both.T (by exact rfl) ?_ | refine Both.F (by exact rfl) ?_ | refine Both.GT (by exact rfl) (by exact rfl) ?_ | refine Both.GF (by exact rfl) ?_ | refine Both.GN (by exact rfl) ?_); conv => whnf)
      exact herr 4 hT0 (by decide)
end Go.Vc
