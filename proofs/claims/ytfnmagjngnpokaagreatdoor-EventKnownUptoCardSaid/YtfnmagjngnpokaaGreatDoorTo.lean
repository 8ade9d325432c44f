/- What is proved here: contracts of functions of the program: of each function what it hands back and what it leaves in memory. Conditions: those that each theorem names. -/
import Derived.Test.YtfnmagjngnpokaaGreatDoorTk
import Derived.Test.YtfnmagjngnpokaaGreatDoorTl
import Derived.Test.YtfnmagjngnpokaaGreatDoorWg
set_option linter.unusedVariables false
set_option linter.unusedSimpArgs false
set_option linter.unusedSectionVars false
namespace Go.Vc
open Go Go.Proofs
set_option maxRecDepth 100000
/-! EventReads. -/
theorem xor8 (a b : UInt8) : bitsI .xor .u8 (a.toNat : Int) (b.toNat : Int) = ((a ^^^ b).toNat : Int) := by
  have h : ∀ c : UInt8, BitVec.ofInt IntKind.u8.bits (c.toNat : Int) = c.toBitVec := fun c => by
    show BitVec.ofInt 8 (c.toBitVec.toNat : Int) = c.toBitVec
    rw [BitVec.ofInt_natCast, BitVec.ofNat_toNat, BitVec.setWidth_eq]
  unfold bitsI
  simp only [h]
  rw [wrapB]
  show ((UInt8.ofNat (a ^^^ b).toNat).toNat : Int) = _
  rw [UInt8.ofNat_toNat]
set_option maxHeartbeats 16000000 in
theorem law4 (b : List UInt8) (z : Nat) (t : Bool) (hz : z = 1 ∨ b = []) (hb : b.length ≤ 2000000) : CSpec K 10 [.sl z (bs b) t true] [] LawPost := by
  refine is10.cspec K_ok K_mix false (by simp) (by simp [keys]) ?_
  have hz2 : z = 1 ∨ bs b = [] := hz.imp id fun h => by rw [h]; rfl
  (conv => whnf); repeat ((first | (refine And.intro ?_ ?_; focus exact Cl4) | refine Both.T (by exact rfl) ?_ | refine Both.F (by exact rfl) ?_ | refine Both.GT (by exact rfl) (by exact rfl) ?_ | refine Both.GF (by exact rfl) ?_ | refine Both.GN (by exact rfl) ?_); conv => whnf)
  refine copyB_spec b z t (by omega) _ ?_
  (conv => whnf); repeat ((first | (refine And.intro ?_ ?_; focus exact Cl4) | refine Both.T (by exact rfl) ?_ | refine Both.F (by exact rfl) ?_ | refine Both.GT (by exact rfl) (by exact rfl) ?_ | refine Both.GF (by exact rfl) ?_ | refine Both.GN (by exact rfl) ?_); conv => whnf)
  refine take_p b 1 _ (.inl rfl) (by omega) _ (fun e he he0 => ?_) (fun y hy z1 lp z2 ha => ?_) (fun y r hy z1 lp z2 ha => ?_)
  · (conv => whnf); repeat ((first | (refine And.intro ?_ ?_; focus exact Cl4) | refine Both.T (by exact rfl) ?_ | refine Both.F (by exact rfl) ?_ | refine Both.GT (by exact rfl) (by exact rfl) ?_ | refine Both.GF (by exact rfl) ?_ | refine Both.GN (by exact rfl) ?_); conv => whnf)
    refine take_r b z t hz (by omega) _ (fun e' he' _ => ?_) (fun y r hy => by rw [he] at hy; cases hy)
    obtain rfl : e = e' := by rw [he] at he'; cases he'; rfl
    have hp : evParse b = .error e := by rw [evParse, he]
    (conv => whnf); repeat ((first | (refine And.intro ?_ ?_; focus exact Cl4) | refine Both.T (by exact rfl) ?_ | refine Both.F (by exact rfl) ?_ | refine Both.GT (by exact rfl) (by exact rfl) ?_ | refine Both.GF (by exact rfl) ?_ | refine Both.GN (by exact rfl) ?_); conv => whnf)
    refine parse_p b 1 _ (.inl rfl) (by omega) _ (fun e' he' => ?_) (fun y hy => by rw [hp] at hy; cases hy)
    obtain rfl : e = e' := by rw [hp] at he'; cases he'; rfl
    (conv => whnf); repeat ((first | (refine And.intro ?_ ?_; focus exact Cl4) | refine Both.T (by exact rfl) ?_ | refine Both.F (by exact rfl) ?_ | refine Both.GT (by exact rfl) (by exact rfl) ?_ | refine Both.GF (by exact rfl) ?_ | refine Both.GN (by exact rfl) ?_); conv => whnf)
    refine parse_r b z t hz (by omega) _ (fun e' he' => ?_) (fun y hy => by rw [hp] at hy; cases hy)
    obtain rfl : e = e' := by rw [hp] at he'; cases he'; rfl
    (conv => whnf); repeat ((first | (refine And.intro ?_ ?_; focus exact Cl4) | refine Both.T (by exact rfl) ?_ | refine Both.F (by exact rfl) ?_ | refine Both.GT (by exact rfl) (by exact rfl) ?_ | refine Both.GF (by exact rfl) ?_ | refine Both.GN (by exact rfl) ?_); conv => whnf)
    refine evSameR_x ⟨0, 0, 0, 0, [], V0⟩ ⟨0, 0, 0, 0, [], V0⟩ true (sameE_refl _) 0 0 [] _ _ 0 0 [] _ _ _ (EA0 0 0) (EA0 0 0) ?_
    (conv => whnf); repeat ((first | (refine And.intro ?_ ?_; focus exact Cl4) | refine Both.T (by exact rfl) ?_ | refine Both.F (by exact rfl) ?_ | refine Both.GT (by exact rfl) (by exact rfl) ?_ | refine Both.GF (by exact rfl) ?_ | refine Both.GN (by exact rfl) ?_); conv => whnf)
    refine eq_spec [] [] 0 0 _ _ _ _ (.inr rfl) (.inr rfl) (by decide) _ ?_
    (conv => whnf); repeat ((first | (refine And.intro ?_ ?_; focus exact Cl4) | refine Both.T (by exact rfl) ?_ | refine Both.F (by exact rfl) ?_ | refine Both.GT (by exact rfl) (by exact rfl) ?_ | refine Both.GF (by exact rfl) ?_ | refine Both.GN (by exact rfl) ?_); conv => whnf)
    rw [show (e != e) = false by simp]
    (conv => whnf); repeat ((first | (refine And.intro ?_ ?_; focus exact Cl4) | refine Both.T (by exact rfl) ?_ | refine Both.F (by exact rfl) ?_ | refine Both.GT (by exact rfl) (by exact rfl) ?_ | refine Both.GF (by exact rfl) ?_ | refine Both.GN (by exact rfl) ?_); conv => whnf)
    refine evSameR_x ⟨0, 0, 0, 0, [], V0⟩ ⟨0, 0, 0, 0, [], V0⟩ true (sameE_refl _) 0 0 [] _ _ 0 0 [] _ _ _ (EA0 0 0) (EA0 0 0) ?_
    (conv => whnf); repeat ((first | (refine And.intro ?_ ?_; focus exact Cl4) | refine Both.T (by exact rfl) ?_ | refine Both.F (by exact rfl) ?_ | refine Both.GT (by exact rfl) (by exact rfl) ?_ | refine Both.GF (by exact rfl) ?_ | refine Both.GN (by exact rfl) ?_); conv => whnf)
    rw [show (e != e) = false by simp]
    (conv => whnf); repeat ((first | (refine And.intro ?_ ?_; focus exact Cl4) | refine Both.T (by exact rfl) ?_ | refine Both.F (by exact rfl) ?_ | refine Both.GT (by exact rfl) (by exact rfl) ?_ | refine Both.GF (by exact rfl) ?_ | refine Both.GN (by exact rfl) ?_); conv => whnf)
    refine ⟨Unit, fun _ => ⟨85, [(14, .int .i64 0), (5, .sl 0 [] false true), (3, .sl 1 (bs b) false true), (0, .sl z (bs b) t true)], [], []⟩, fun _ => True, fun _ => 0, ⟨[], (), trivial, ?_⟩, fun _ _ => ?_⟩
    · simp [meets, ghosts, St.le, St.get, look, keys, PV.labs, labsL]
    · conv => (arg 5; dsimp only)
      (conv => whnf); repeat ((first | (refine And.intro ?_ ?_; focus exact Cl4) | refine Both.T (by exact rfl) ?_ | refine Both.F (by exact rfl) ?_ | refine Both.GT (by exact rfl) (by exact rfl) ?_ | refine Both.GF (by exact rfl) ?_ | refine Both.GN (by exact rfl) ?_); conv => whnf)
      refine eq_t b 1 z _ true _ true (.inl rfl) hz2 (by omega) _ ?_
      (conv => whnf); repeat ((first | (refine And.intro ?_ ?_; focus exact Cl4) | refine Both.T (by exact rfl) ?_ | refine Both.F (by exact rfl) ?_ | refine Both.GT (by exact rfl) (by exact rfl) ?_ | refine Both.GF (by exact rfl) ?_ | refine Both.GN (by exact rfl) ?_); conv => whnf)
      refine works_spec _ ?_
      (conv => whnf); repeat ((first | (refine And.intro ?_ ?_; focus exact Cl4) | refine Both.T (by exact rfl) ?_ | refine Both.F (by exact rfl) ?_ | refine Both.GT (by exact rfl) (by exact rfl) ?_ | refine Both.GF (by exact rfl) ?_ | refine Both.GN (by exact rfl) ?_); conv => whnf)
  · (conv => whnf); repeat ((first | (refine And.intro ?_ ?_; focus exact Cl4) | refine Both.T (by exact rfl) ?_ | refine Both.F (by exact rfl) ?_ | refine Both.GT (by exact rfl) (by exact rfl) ?_ | refine Both.GF (by exact rfl) ?_ | refine Both.GN (by exact rfl) ?_); conv => whnf)
    refine take_r b z t hz (by omega) _ (fun e' he' _ => by rw [hy] at he'; cases he') (fun y' r' hy' x1 mp x2 ha' z3 hz3 => ?_)
    obtain ⟨rfl, rfl⟩ : y = y' ∧ [] = r' := by rw [hy] at hy'; cases hy'; exact ⟨rfl, rfl⟩
    have hp : evParse b = .ok y := by rw [evParse, hy]; rfl
    (conv => whnf); repeat ((first | (refine And.intro ?_ ?_; focus exact Cl4) | refine Both.T (by exact rfl) ?_ | refine Both.F (by exact rfl) ?_ | refine Both.GT (by exact rfl) (by exact rfl) ?_ | refine Both.GF (by exact rfl) ?_ | refine Both.GN (by exact rfl) ?_); conv => whnf)
    refine parse_p b 1 _ (.inl rfl) (by omega) _ (fun e' he' => by rw [hp] at he'; cases he') (fun y2 hy2 w1 lq w2 ha2 => ?_)
    obtain rfl : y = y2 := by rw [hp] at hy2; cases hy2; rfl
    (conv => whnf); repeat ((first | (refine And.intro ?_ ?_; focus exact Cl4) | refine Both.T (by exact rfl) ?_ | refine Both.F (by exact rfl) ?_ | refine Both.GT (by exact rfl) (by exact rfl) ?_ | refine Both.GF (by exact rfl) ?_ | refine Both.GN (by exact rfl) ?_); conv => whnf)
    refine parse_r b z t hz (by omega) _ (fun e' he' => by rw [hp] at he'; cases he') (fun y3 hy3 u1 lr u2 ha3 => ?_)
    obtain rfl : y = y3 := by rw [hp] at hy3; cases hy3; rfl
    (conv => whnf); repeat ((first | (refine And.intro ?_ ?_; focus exact Cl4) | refine Both.T (by exact rfl) ?_ | refine Both.F (by exact rfl) ?_ | refine Both.GT (by exact rfl) (by exact rfl) ?_ | refine Both.GF (by exact rfl) ?_ | refine Both.GN (by exact rfl) ?_); conv => whnf)
    refine evSameR_x y y true (sameE_refl _) z1 z2 lp _ _ x1 x2 mp _ _ _ ha ha' ?_
    (conv => whnf); repeat ((first | (refine And.intro ?_ ?_; focus exact Cl4) | refine Both.T (by exact rfl) ?_ | refine Both.F (by exact rfl) ?_ | refine Both.GT (by exact rfl) (by exact rfl) ?_ | refine Both.GF (by exact rfl) ?_ | refine Both.GN (by exact rfl) ?_); conv => whnf)
    refine eq_spec [] [] 0 z3 _ _ _ _ (.inr rfl) (.inr rfl) (by decide) _ ?_
    (conv => whnf); repeat ((first | (refine And.intro ?_ ?_; focus exact Cl4) | refine Both.T (by exact rfl) ?_ | refine Both.F (by exact rfl) ?_ | refine Both.GT (by exact rfl) (by exact rfl) ?_ | refine Both.GF (by exact rfl) ?_ | refine Both.GN (by exact rfl) ?_); conv => whnf)
    refine evSameR_x y y true (sameE_refl _) w1 w2 lq _ _ u1 u2 lr _ _ _ ha2 ha3 ?_
    (conv => whnf); repeat ((first | (refine And.intro ?_ ?_; focus exact Cl4) | refine Both.T (by exact rfl) ?_ | refine Both.F (by exact rfl) ?_ | refine Both.GT (by exact rfl) (by exact rfl) ?_ | refine Both.GF (by exact rfl) ?_ | refine Both.GN (by exact rfl) ?_); conv => whnf)
    refine ⟨Unit, fun _ => ⟨85, [(14, .int .i64 0), (5, .sl 0 [] false true), (3, .sl 1 (bs b) false true), (0, .sl z (bs b) t true)], [], []⟩, fun _ => True, fun _ => 0, ⟨[], (), trivial, ?_⟩, fun _ _ => ?_⟩
    · simp [meets, ghosts, St.le, St.get, look, keys, PV.labs, labsL]
    · conv => (arg 5; dsimp only)
      (conv => whnf); repeat ((first | (refine And.intro ?_ ?_; focus exact Cl4) | refine Both.T (by exact rfl) ?_ | refine Both.F (by exact rfl) ?_ | refine Both.GT (by exact rfl) (by exact rfl) ?_ | refine Both.GF (by exact rfl) ?_ | refine Both.GN (by exact rfl) ?_); conv => whnf)
      refine eq_t b 1 z _ true _ true (.inl rfl) hz2 (by omega) _ ?_
      (conv => whnf); repeat ((first | (refine And.intro ?_ ?_; focus exact Cl4) | refine Both.T (by exact rfl) ?_ | refine Both.F (by exact rfl) ?_ | refine Both.GT (by exact rfl) (by exact rfl) ?_ | refine Both.GF (by exact rfl) ?_ | refine Both.GN (by exact rfl) ?_); conv => whnf)
      refine works_spec _ ?_
      (conv => whnf); repeat ((first | (refine And.intro ?_ ?_; focus exact Cl4) | refine Both.T (by exact rfl) ?_ | refine Both.F (by exact rfl) ?_ | refine Both.GT (by exact rfl) (by exact rfl) ?_ | refine Both.GF (by exact rfl) ?_ | refine Both.GN (by exact rfl) ?_); conv => whnf)
  · have hrl : r.length ≤ b.length := by have := (ev_inv hy).1; rw [this]; simp
    (conv => whnf); repeat ((first | (refine And.intro ?_ ?_; focus exact Cl4) | refine Both.T (by exact rfl) ?_ | refine Both.F (by exact rfl) ?_ | refine Both.GT (by exact rfl) (by exact rfl) ?_ | refine Both.GF (by exact rfl) ?_ | refine Both.GN (by exact rfl) ?_); conv => whnf)
    refine take_r b z t hz (by omega) _ (fun e' he' _ => by rw [hy] at he'; cases he') (fun y' r' hy' x1 mp x2 ha' z3 hz3 => ?_)
    obtain ⟨rfl, rfl⟩ : y = y' ∧ r = r' := by rw [hy] at hy'; cases hy'; exact ⟨rfl, rfl⟩
    have hz4 : z3 = 1 ∨ bs r = [] := hz3.imp id fun h => by rw [h]; rfl
    (conv => whnf); repeat ((first | (refine And.intro ?_ ?_; focus exact Cl4) | refine Both.T (by exact rfl) ?_ | refine Both.F (by exact rfl) ?_ | refine Both.GT (by exact rfl) (by exact rfl) ?_ | refine Both.GF (by exact rfl) ?_ | refine Both.GN (by exact rfl) ?_); conv => whnf)
    by_cases hr0 : r = []
    · have hp : evParse b = .ok y := by rw [evParse, hy]; exact if_pos hr0
      refine parse_p b 1 _ (.inl rfl) (by omega) _ (fun e' he' => by rw [hp] at he'; cases he') (fun y2 hy2 w1 lq w2 ha2 => ?_)
      obtain rfl : y = y2 := by rw [hp] at hy2; cases hy2; rfl
      (conv => whnf); repeat ((first | (refine And.intro ?_ ?_; focus exact Cl4) | refine Both.T (by exact rfl) ?_ | refine Both.F (by exact rfl) ?_ | refine Both.GT (by exact rfl) (by exact rfl) ?_ | refine Both.GF (by exact rfl) ?_ | refine Both.GN (by exact rfl) ?_); conv => whnf)
      refine parse_r b z t hz (by omega) _ (fun e' he' => by rw [hp] at he'; cases he') (fun y3 hy3 u1 lr u2 ha3 => ?_)
      obtain rfl : y = y3 := by rw [hp] at hy3; cases hy3; rfl
      (conv => whnf); repeat ((first | (refine And.intro ?_ ?_; focus exact Cl4) | refine Both.T (by exact rfl) ?_ | refine Both.F (by exact rfl) ?_ | refine Both.GT (by exact rfl) (by exact rfl) ?_ | refine Both.GF (by exact rfl) ?_ | refine Both.GN (by exact rfl) ?_); conv => whnf)
      refine evSameR_x y y true (sameE_refl _) z1 z2 lp _ _ x1 x2 mp _ _ _ ha ha' ?_
      (conv => whnf); repeat ((first | (refine And.intro ?_ ?_; focus exact Cl4) | refine Both.T (by exact rfl) ?_ | refine Both.F (by exact rfl) ?_ | refine Both.GT (by exact rfl) (by exact rfl) ?_ | refine Both.GF (by exact rfl) ?_ | refine Both.GN (by exact rfl) ?_); conv => whnf)
      rw [List.drop_zero, tka]
      refine eq_t r 1 z3 _ true _ true (.inl rfl) hz4 (by omega) _ ?_
      (conv => whnf); repeat ((first | (refine And.intro ?_ ?_; focus exact Cl4) | refine Both.T (by exact rfl) ?_ | refine Both.F (by exact rfl) ?_ | refine Both.GT (by exact rfl) (by exact rfl) ?_ | refine Both.GF (by exact rfl) ?_ | refine Both.GN (by exact rfl) ?_); conv => whnf)
      refine evSameR_x y y true (sameE_refl _) w1 w2 lq _ _ u1 u2 lr _ _ _ ha2 ha3 ?_
      (conv => whnf); repeat ((first | (refine And.intro ?_ ?_; focus exact Cl4) | refine Both.T (by exact rfl) ?_ | refine Both.F (by exact rfl) ?_ | refine Both.GT (by exact rfl) (by exact rfl) ?_ | refine Both.GF (by exact rfl) ?_ | refine Both.GN (by exact rfl) ?_); conv => whnf)
      refine ⟨Nat × List UInt8, fun x => ⟨85, [(14, .int .i64 x.1), (5, .ref 1 0 0 r.length), (3, .sl 1 (bs b) false true), (0, .sl z (bs b) t true)], [(0, .row 5 1 (bs x.2) true)], []⟩, fun x => x.1 ≤ r.length ∧ x.2.length = r.length, fun x => r.length - x.1,
        ⟨[], (0, r), ⟨Nat.zero_le _, rfl⟩, ?_⟩, fun x hI => ?_⟩
      · simp [meets, ghosts, St.le, St.get, look, keys, PV.labs, labsL, lookB, Blk.labs]
      · obtain ⟨i, c⟩ := x
        obtain ⟨hi, hc⟩ := hI
        simp only at hi hc
        conv => (arg 5; dsimp only)
        (conv => whnf); repeat ((first | (refine And.intro ?_ ?_; focus exact Cl4) | refine Both.T (by exact rfl) ?_ | refine Both.F (by exact rfl) ?_ | refine Both.GT (by exact rfl) (by exact rfl) ?_ | refine Both.GF (by exact rfl) ?_ | refine Both.GN (by exact rfl) ?_); conv => whnf)
        by_cases hix : i < r.length
        · have hic : i < c.length := by omega
          rw [decide_eq_true (show (i : Int) < (r.length : Int) by omega)]
          (conv => whnf); repeat ((first | (refine And.intro ?_ ?_; focus exact Cl4) | refine Both.T (by exact rfl) ?_ | refine Both.F (by exact rfl) ?_ | refine Both.GT (by exact rfl) (by exact rfl) ?_ | refine Both.GF (by exact rfl) ?_ | refine Both.GN (by exact rfl) ?_); conv => whnf)
          have hel : partP K 5 (List.map (PV.retag true) (nth (bs c) (0 + ((i : Int)).toNat)).cells) 0 = .int .u8 (c[i].toNat : Int) := by
            rw [Nat.zero_add, Int.toNat_natCast, nth_bs hic]
            rfl
          rw [hel]
          (conv => whnf); repeat ((first | (refine And.intro ?_ ?_; focus exact Cl4) | refine Both.T (by exact rfl) ?_ | refine Both.F (by exact rfl) ?_ | refine Both.GT (by exact rfl) (by exact rfl) ?_ | refine Both.GF (by exact rfl) ?_ | refine Both.GN (by exact rfl) ?_); conv => whnf)
          have hset : (bs c).set (0 + ((i : Int)).toNat) (putElem (nth (bs c) (0 + ((i : Int)).toNat)) 0 [.int .u8 (bitsI .xor .u8 (c[i].toNat : Int) 90)]) = bs (c.set i (c[i] ^^^ 90)) := by
            rw [Nat.zero_add, Int.toNat_natCast]
            exact set_bs hic (xor8 c[i] 90)
          rw [hset, wrap64 (n := (i : Int) + 1) (by omega) (by omega)]
          refine ⟨[], (i + 1, c.set i (c[i] ^^^ 90)), ⟨hix, by simp [hc]⟩, by show r.length - (i + 1) < r.length - i; omega, ?_⟩
          simp [meets, ghosts, St.le, St.get, look, keys, PV.labs, labsL, lookB, Blk.labs]
        · rw [decide_eq_false (show ¬ (i : Int) < (r.length : Int) by omega)]
          (conv => whnf); repeat ((first | (refine And.intro ?_ ?_; focus exact Cl4) | refine Both.T (by exact rfl) ?_ | refine Both.F (by exact rfl) ?_ | refine Both.GT (by exact rfl) (by exact rfl) ?_ | refine Both.GF (by exact rfl) ?_ | refine Both.GN (by exact rfl) ?_); conv => whnf)
          refine eq_t b 1 z _ true _ true (.inl rfl) hz2 (by omega) _ ?_
          (conv => whnf); repeat ((first | (refine And.intro ?_ ?_; focus exact Cl4) | refine Both.T (by exact rfl) ?_ | refine Both.F (by exact rfl) ?_ | refine Both.GT (by exact rfl) (by exact rfl) ?_ | refine Both.GF (by exact rfl) ?_ | refine Both.GN (by exact rfl) ?_); conv => whnf)
          refine works_spec _ ?_
          (conv => whnf); repeat ((first | (refine And.intro ?_ ?_; focus exact Cl4) | refine Both.T (by exact rfl) ?_ | refine Both.F (by exact rfl) ?_ | refine Both.GT (by exact rfl) (by exact rfl) ?_ | refine Both.GF (by exact rfl) ?_ | refine Both.GN (by exact rfl) ?_); conv => whnf)
    · have hp : evParse b = .error 4 := by rw [evParse, hy]; exact if_neg hr0
      refine parse_p b 1 _ (.inl rfl) (by omega) _ (fun e' he' => ?_) (fun y hy => by rw [hp] at hy; cases hy)
      obtain rfl : 4 = e' := by rw [hp] at he'; cases he'; rfl
      (conv => whnf); repeat ((first | (refine And.intro ?_ ?_; focus exact Cl4) | refine Both.T (by exact rfl) ?_ | refine Both.F (by exact rfl) ?_ | refine Both.GT (by exact rfl) (by exact rfl) ?_ | refine Both.GF (by exact rfl) ?_ | refine Both.GN (by exact rfl) ?_); conv => whnf)
      refine parse_r b z t hz (by omega) _ (fun e' he' => ?_) (fun y hy => by rw [hp] at hy; cases hy)
      obtain rfl : 4 = e' := by rw [hp] at he'; cases he'; rfl
      (conv => whnf); repeat ((first | (refine And.intro ?_ ?_; focus exact Cl4) | refine Both.T (by exact rfl) ?_ | refine Both.F (by exact rfl) ?_ | refine Both.GT (by exact rfl) (by exact rfl) ?_ | refine Both.GF (by exact rfl) ?_ | refine Both.GN (by exact rfl) ?_); conv => whnf)
      refine evSameR_x y y true (sameE_refl _) z1 z2 lp _ _ x1 x2 mp _ _ _ ha ha' ?_
      (conv => whnf); repeat ((first | (refine And.intro ?_ ?_; focus exact Cl4) | refine Both.T (by exact rfl) ?_ | refine Both.F (by exact rfl) ?_ | refine Both.GT (by exact rfl) (by exact rfl) ?_ | refine Both.GF (by exact rfl) ?_ | refine Both.GN (by exact rfl) ?_); conv => whnf)
      rw [List.drop_zero, tka]
      refine eq_t r 1 z3 _ true _ true (.inl rfl) hz4 (by omega) _ ?_
      (conv => whnf); repeat ((first | (refine And.intro ?_ ?_; focus exact Cl4) | refine Both.T (by exact rfl) ?_ | refine Both.F (by exact rfl) ?_ | refine Both.GT (by exact rfl) (by exact rfl) ?_ | refine Both.GF (by exact rfl) ?_ | refine Both.GN (by exact rfl) ?_); conv => whnf)
      refine evSameR_x ⟨0, 0, 0, 0, [], V0⟩ ⟨0, 0, 0, 0, [], V0⟩ true (sameE_refl _) 0 0 [] _ _ 0 0 [] _ _ _ (EA0 0 0) (EA0 0 0) ?_
      (conv => whnf); repeat ((first | (refine And.intro ?_ ?_; focus exact Cl4) | refine Both.T (by exact rfl) ?_ | refine Both.F (by exact rfl) ?_ | refine Both.GT (by exact rfl) (by exact rfl) ?_ | refine Both.GF (by exact rfl) ?_ | refine Both.GN (by exact rfl) ?_); conv => whnf)
      refine ⟨Nat × List UInt8, fun x => ⟨85, [(14, .int .i64 x.1), (5, .ref 1 0 0 r.length), (3, .sl 1 (bs b) false true), (0, .sl z (bs b) t true)], [(0, .row 5 1 (bs x.2) true)], []⟩, fun x => x.1 ≤ r.length ∧ x.2.length = r.length, fun x => r.length - x.1,
        ⟨[], (0, r), ⟨Nat.zero_le _, rfl⟩, ?_⟩, fun x hI => ?_⟩
      · simp [meets, ghosts, St.le, St.get, look, keys, PV.labs, labsL, lookB, Blk.labs]
      · obtain ⟨i, c⟩ := x
        obtain ⟨hi, hc⟩ := hI
        simp only at hi hc
        conv => (arg 5; dsimp only)
        (conv => whnf); repeat ((first | (refine And.intro ?_ ?_; focus exact Cl4) | refine Both.T (by exact rfl) ?_ | refine Both.F (by exact rfl) ?_ | refine Both.GT (by exact rfl) (by exact rfl) ?_ | refine Both.GF (by exact rfl) ?_ | refine Both.GN (by exact rfl) ?_); conv => whnf)
        by_cases hix : i < r.length
        · have hic : i < c.length := by omega
          rw [decide_eq_true (show (i : Int) < (r.length : Int) by omega)]
          (conv => whnf); repeat ((first | (refine And.intro ?_ ?_; focus exact Cl4) | refine Both.T (by exact rfl) ?_ | refine Both.F (by exact rfl) ?_ | refine Both.GT (by exact rfl) (by exact rfl) ?_ | refine Both.GF (by exact rfl) ?_ | refine Both.GN (by exact rfl) ?_); conv => whnf)
          have hel : partP K 5 (List.map (PV.retag true) (nth (bs c) (0 + ((i : Int)).toNat)).cells) 0 = .int .u8 (c[i].toNat : Int) := by
            rw [Nat.zero_add, Int.toNat_natCast, nth_bs hic]
            rfl
          rw [hel]
          (conv => whnf); repeat ((first | (refine And.intro ?_ ?_; focus exact Cl4) | refine Both.T (by exact rfl) ?_ | refine Both.F (by exact rfl) ?_ | refine Both.GT (by exact rfl) (by exact rfl) ?_ | refine Both.GF (by exact rfl) ?_ | refine Both.GN (by exact rfl) ?_); conv => whnf)
          have hset : (bs c).set (0 + ((i : Int)).toNat) (putElem (nth (bs c) (0 + ((i : Int)).toNat)) 0 [.int .u8 (bitsI .xor .u8 (c[i].toNat : Int) 90)]) = bs (c.set i (c[i] ^^^ 90)) := by
            rw [Nat.zero_add, Int.toNat_natCast]
            exact set_bs hic (xor8 c[i] 90)
          rw [hset, wrap64 (n := (i : Int) + 1) (by omega) (by omega)]
          refine ⟨[], (i + 1, c.set i (c[i] ^^^ 90)), ⟨hix, by simp [hc]⟩, by show r.length - (i + 1) < r.length - i; omega, ?_⟩
          simp [meets, ghosts, St.le, St.get, look, keys, PV.labs, labsL, lookB, Blk.labs]
        · rw [decide_eq_false (show ¬ (i : Int) < (r.length : Int) by omega)]
          (conv => whnf); repeat ((first | (refine And.intro ?_ ?_; focus exact Cl4) | refine Both.T (by exact rfl) ?_ | refine Both.F (by exact rfl) ?_ | refine Both.GT (by exact rfl) (by exact rfl) ?_ | refine Both.GF (by exact rfl) ?_ | refine Both.GN (by exact rfl) ?_); conv => whnf)
          refine eq_t b 1 z _ true _ true (.inl rfl) hz2 (by omega) _ ?_
          (conv => whnf); repeat ((first | (refine And.intro ?_ ?_; focus exact Cl4) | refine Both.T (by exact rfl) ?_ | refine Both.F (by exact rfl) ?_ | refine Both.GT (by exact rfl) (by exact rfl) ?_ | refine Both.GF (by exact rfl) ?_ | refine Both.GN (by exact rfl) ?_); conv => whnf)
          refine works_spec _ ?_
          (conv => whnf); repeat ((first | (refine And.intro ?_ ?_; focus exact Cl4) | refine Both.T (by exact rfl) ?_ | refine Both.F (by exact rfl) ?_ | refine Both.GT (by exact rfl) (by exact rfl) ?_ | refine Both.GF (by exact rfl) ?_ | refine Both.GN (by exact rfl) ?_); conv => whnf)
end Go.Vc
