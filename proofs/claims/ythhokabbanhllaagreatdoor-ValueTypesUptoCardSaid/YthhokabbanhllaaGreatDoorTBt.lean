/- What is proved here: contracts of functions of the program: of each function what it hands back and what it leaves in memory. Conditions: those that each theorem names. -/
import Derived.Test.YthhokabbanhllaaGreatDoorTBs
set_option linter.unusedVariables false
set_option linter.unusedSimpArgs false
set_option linter.unusedSectionVars false
namespace Go.Vc
open Go Go.Proofs
set_option maxRecDepth 100000
theorem num_val (n : Int) (Post : PV → List (Nat × Blk) → Prop) (h : ∀ z1 z2, Post (.agg (vc (.mk 1 n [] [] []) z1 [] false z2 false)) []) : Spec K 36 [.int .i64 n] [] Post := by
 refine is36.specW K_ok K_mix false (by simp) (by simp [keys]) ?_
 (conv => whnf); repeat ((first | (apply And.intro;· exact Cl4) | apply T1 | apply T2 | apply T3 | apply T4 | apply T6 | apply T5); conv => whnf)
 exact h _ _
theorem text_val (s : List UInt8) (Post : PV → List (Nat × Blk) → Prop) (h : ∀ z1 z2, Post (.agg (vc (.mk 3 0 s [] []) z1 [] false z2 false)) []) : Spec K 37 [.str s] [] Post := by
 refine is37.specW K_ok K_mix false (by simp) (by simp [keys]) ?_
 (conv => whnf); repeat ((first | (apply And.intro;· exact Cl4) | apply T1 | apply T2 | apply T3 | apply T4 | apply T6 | apply T5); conv => whnf)
 exact h _ _
theorem list_val (l : List V) (z : Nat) (lp : List PV) (t : Bool) (Post : PV → List (Nat × Blk) → Prop) (h : ∀ z2, Post (.agg (vc (.mk 4 0 [] l []) z lp false z2 false)) []) : Spec K 34 [.sl z lp t true] [] Post := by
 refine is34.specW K_ok K_mix false (by simp) (by simp [keys]) ?_
 (conv => whnf); repeat ((first | (apply And.intro;· exact Cl4) | apply T1 | apply T2 | apply T3 | apply T4 | apply T6 | apply T5); conv => whnf)
 exact h _
set_option maxHeartbeats 8000000 in
theorem written_spec (v : V) (want : List UInt8) (z1 z2 : Nat) (lp : List PV) (t1 t2 : Bool) (z : Nat) (t : Bool) (a : VA v z1 lp z2) (hz : z = 1 ∨ want = []) (hm : mayV v = true) (hw : writeV v = want) (hwl : want.length ≤ 1000000) (Post : PV → List (Nat × Blk) → Prop) (h : Post (.bool true) []) :
  Spec K 35 [.agg (vc v z1 lp t1 z2 t2), .sl z (bs want) t true] [] Post := by
 refine is35.specW K_ok K_mix false (by simp) (by simp [keys]) ?_
 (conv => whnf); repeat ((first | (apply And.intro;· exact Cl4) | apply T1 | apply T2 | apply T3 | apply T4 | apply T6 | apply T5); conv => whnf)
 refine valueBytes_spec v z1 z2 lp _ _ _ a (fun _ => ?_) (fun hc => by rw [hm] at hc; cases hc)
 (conv => whnf); repeat ((first | (apply And.intro;· exact Cl4) | apply T1 | apply T2 | apply T3 | apply T4 | apply T6 | apply T5); conv => whnf)
 refine takeV_p want z t hz (by omega) _ (fun v' r e x1 mp x2 y hv hy ho => ?_)
 have hte := (takeV_enc hm a.nV).1 []
 rw [List.append_nil, hw] at hte
 rcases ho with ⟨ho, rfl⟩ | ⟨ho, he, _, _⟩
 rotate_left
 ·rw [hte] at ho; cases ho
 rw [hte] at ho
 cases ho
 (conv => whnf); repeat ((first | (apply And.intro;· exact Cl4) | apply T1 | apply T2 | apply T3 | apply T4 | apply T6 | apply T5); conv => whnf)
 refine eq_spec (writeV v) want _ _ _ _ _ _ (.inl rfl) (hz.imp id fun h => by rw [h]; rfl) (by rw [hw]; omega) _ ?_
 rw [hw]
 (conv => whnf); repeat ((first | (apply And.intro;· exact Cl4) | apply T1 | apply T2 | apply T3 | apply T4 | apply T6 | apply T5); conv => whnf)
 rw [beq_self_eq_true want]
 (conv => whnf); repeat ((first | (apply And.intro;· exact Cl4) | apply T1 | apply T2 | apply T3 | apply T4 | apply T6 | apply T5); conv => whnf)
 refine sameR_spec v v z1 z2 lp _ _ x1 x2 mp _ _ _ a ⟨hv.l, hv.z1, hv.z2, hv.n, a.b⟩ ?_
 rw [show sameV v v = true by unfold sameV; rw [cmpV_self]; rfl]
 (conv => whnf); repeat ((first | (apply And.intro;· exact Cl4) | apply T1 | apply T2 | apply T3 | apply T4 | apply T6 | apply T5); conv => whnf)
 exact h
theorem show_spec (v : V) (z1 z2 : Nat) (lp : List PV) (t1 t2 : Bool) (a : VA v z1 lp z2) (Post : PV → List (Nat × Blk) → Prop) (h : Post (.str (if mayV v = true then showV v else [])) []) : Spec K 28 [.agg (vc v z1 lp t1 z2 t2)] [] Post := by
 refine is28.specW K_ok K_mix false (by simp) (by simp [keys]) ?_
 (conv => whnf); repeat ((first | (apply And.intro;· exact Cl4) | apply T1 | apply T2 | apply T3 | apply T4 | apply T6 | apply T5); conv => whnf)
 refine check_spec v z1 z2 lp _ _ _ a ?_
 cases hm : mayV v
 ·rw [hm, if_neg (by decide)] at h
  (conv => whnf); repeat ((first | (apply And.intro;· exact Cl4) | apply T1 | apply T2 | apply T3 | apply T4 | apply T6 | apply T5); conv => whnf)
  exact h
 ·rw [hm, if_pos rfl] at h
  (conv => whnf); repeat ((first | (apply And.intro;· exact Cl4) | apply T1 | apply T2 | apply T3 | apply T4 | apply T6 | apply T5); conv => whnf)
  refine show_all _ v (Nat.le_refl _) a.b (okV_iff.1 hm).2 (by have := (okV_iff.1 hm).1.2; omega) z1 z2 lp _ _ a _ ?_
  (conv => whnf); repeat ((first | (apply And.intro;· exact Cl4) | apply T1 | apply T2 | apply T3 | apply T4 | apply T6 | apply T5); conv => whnf)
  exact h
def yesV : V := .mk 2 1 [] [] []
def recV : V := .mk 5 0 [] [V0, .mk 4 0 [] [yesV] []] [[97], [98]]
def abV : V := .mk 5 0 [] [.mk 3 0 [120, 121, 122] [] []] [[97, 98]]
theorem rec_check (z1 z2 : Nat) (lp : List PV) (t1 t2 : Bool) (a : VA recV z1 lp z2) (Post : PV → List (Nat × Blk) → Prop) (h : Post (.int .i64 0) []) : Spec K 9 [.agg (vc recV z1 lp t1 z2 t2)] [] Post :=
 check_spec recV z1 z2 lp t1 t2 Post a (by rw [show mayV recV = true by decide +kernel]; exact h)
theorem ab_size (z1 z2 : Nat) (lp : List PV) (t1 t2 : Bool) (a : VA abV z1 lp z2) (Post : PV → List (Nat × Blk) → Prop) (h : Post (.int .i64 7) []) : Spec K 11 [.agg (vc abV z1 lp t1 z2 t2)] [] Post :=
 size_all _ abV (Nat.le_refl _) a.b z1 z2 lp t1 t2 Post a.l a.z1 a.z2 (by rw [show (sizeV abV : Int) = 7 by decide +kernel]; exact h)
theorem ab_depth (z1 z2 : Nat) (lp : List PV) (t1 t2 : Bool) (a : VA abV z1 lp z2) (Post : PV → List (Nat × Blk) → Prop) (h : Post (.int .i64 2) []) : Spec K 13 [.agg (vc abV z1 lp t1 z2 t2)] [] Post :=
 depth_all _ abV (Nat.le_refl _) a.b z1 z2 lp t1 t2 Post a.l a.z1 a.z2 (by rw [show (depthV abV : Int) = 2 by decide +kernel]; exact h)
theorem ab_same (z1 z2 x1 x2 : Nat) (lp mp : List PV) (t1 t2 u1 u2 : Bool) (a : VA abV z1 lp z2) (b : VA abV x1 mp x2) (Post : PV → List (Nat × Blk) → Prop) (h : Post (.bool true) []) : Spec K 38 [.agg (vc abV z1 lp t1 z2 t2), .agg (vc abV x1 mp u1 x2 u2)] [] Post :=
 sameP_spec _ abV abV (Nat.le_refl _) a.b b.b z1 z2 lp t1 t2 x1 x2 mp u1 u2 Post a.l a.z1 a.z2 b.l b.z1 b.z2 (by rw [show sameV abV abV = true by unfold sameV; rw [cmpV_self]; rfl]; exact h)
theorem ab_show (z1 z2 : Nat) (lp : List PV) (t1 t2 : Bool) (a : VA abV z1 lp z2) (Post : PV → List (Nat × Blk) → Prop) (h : Post (.str [123, 97, 98, 58, 34, 120, 121, 122, 34, 125]) []) : Spec K 28 [.agg (vc abV z1 lp t1 z2 t2)] [] Post :=
 show_spec abV z1 z2 lp t1 t2 a Post (by rw [if_pos (by decide +kernel), show showV abV = [123, 97, 98, 58, 34, 120, 121, 122, 34, 125] by decide +kernel]; exact h)
theorem one_yes (z1 z2 x1 x2 : Nat) (lp mp : List PV) (t1 t2 u1 u2 : Bool) (a : VA (.mk 1 1 [] [] []) z1 lp z2) (b : VA yesV x1 mp x2) (Post : PV → List (Nat × Blk) → Prop) (h : Post (.int .i64 (-1)) []) : Spec K 39 [.agg (vc (.mk 1 1 [] [] []) z1 lp t1 z2 t2), .agg (vc yesV x1 mp u1 x2 u2)] [] Post :=
 cmp_spec (.mk 1 1 [] [] []) yesV z1 z2 lp t1 t2 x1 x2 mp u1 u2 Post a b (by rw [show cmpV (.mk 1 1 [] [] []) yesV = -1 by decide +kernel]; exact h)
theorem fits_ints (Post : PV → List (Nat × Blk) → Prop) (h : Post (.bool true) []) : Spec K 24 [.str [91, 105, 110, 116, 93]] [] Post :=
 fits_all _ (by decide) Post (by rw [show fitsT [91, 105, 110, 116, 93] = true by decide +kernel]; exact h)
def intsV : V := .mk 4 0 [] [.mk 1 1 [] [] [], .mk 1 2 [] [] []] []
theorem is_ints (z1 z2 : Nat) (lp : List PV) (t1 t2 : Bool) (a : VA intsV z1 lp z2) (Post : PV → List (Nat × Blk) → Prop) (h : Post (.bool true) []) : Spec K 26 [.agg (vc intsV z1 lp t1 z2 t2), .str [91, 105, 110, 116, 93]] [] Post :=
 is_spec intsV _ (by decide) z1 z2 lp t1 t2 a Post (by
  have ht : treeT [91, 105, 110, 116, 93] = .mk 4 [] [.mk 1 [] []] := tree_of (.list (.mk 1 [] []) [105, 110, 116] (.word [105, 110, 116] (by decide)))
  have : isVB intsV [91, 105, 110, 116, 93] = true := by
   unfold isVB
   rw [ht, show fitsT [91, 105, 110, 116, 93] = true by decide +kernel, show mayV intsV = true by decide +kernel]
   decide +kernel
  rw [this]; exact h)
theorem i0ok : i64 0 := ⟨by decide, by decide⟩
set_option maxHeartbeats 16000000 in
theorem works_spec (Post : PV → List (Nat × Blk) → Prop) (h : Post (.bool true) []) : Spec K 16 [] [] Post := by
 refine is16.specC [25] K_ok K_mix false (by simp) (by simp [keys]) ?_
 (conv => whnf); repeat ((first | (apply And.intro;· exact Cl4) | apply T1 | apply T2 | apply T3 | apply T4 | apply T6 | apply T5); conv => whnf)
 refine list_val [yesV] _ _ _ _ (fun z2 => ?_)
 (conv => whnf); repeat ((first | (apply And.intro;· exact Cl4) | apply T1 | apply T2 | apply T3 | apply T4 | apply T6 | apply T5); conv => whnf)
 refine num_val 258 _ (fun z1 z2 => ?_)
 (conv => whnf); repeat ((first | (apply And.intro;· exact Cl4) | apply T1 | apply T2 | apply T3 | apply T4 | apply T6 | apply T5); conv => whnf)
 refine written_spec (.mk 1 258 [] [] []) [1, 0, 0, 0, 0, 0, 0, 1, 2] z1 z2 [] _ _ 1 _ ⟨rfl, .inr rfl, .inr rfl, ⟨by decide, by decide⟩, by decide +kernel⟩ (.inl rfl) (by decide +kernel) (by decide +kernel) (by decide) _ ?_
 (conv => whnf); repeat ((first | (apply And.intro;· exact Cl4) | apply T1 | apply T2 | apply T3 | apply T4 | apply T6 | apply T5); conv => whnf)
 refine written_spec recV [5, 2, 1, 97, 0, 1, 98, 4, 1, 2, 1] _ _ _ _ _ 1 _ ⟨⟨_, _, rfl, ⟨_, _, _, _, _, _, _, rfl, rfl, .inr rfl, .inr rfl, i0ok⟩, _, _, rfl, ⟨_, _, _, _, _, _, _, rfl, ⟨_, _, rfl, ⟨_, _, _, _, _, _, _, rfl, rfl, .inr rfl, .inr rfl, ⟨by decide, by decide⟩⟩, rfl⟩, .inl rfl, .inr rfl, i0ok⟩, rfl⟩, .inl rfl, .inl rfl, i0ok, by decide +kernel⟩ (.inl rfl) (by decide +kernel) (by decide +kernel) (by decide) _ ?_
 (conv => whnf); repeat ((first | (apply And.intro;· exact Cl4) | apply T1 | apply T2 | apply T3 | apply T4 | apply T6 | apply T5); conv => whnf)
 refine text_val [120, 121, 122] _ (fun z1 z2 => ?_)
 (conv => whnf); repeat ((first | (apply And.intro;· exact Cl4) | apply T1 | apply T2 | apply T3 | apply T4 | apply T6 | apply T5); conv => whnf)
 refine ⟨Unit, fun _ => ⟨67, [(0, .bool true)], [], []⟩, fun _ => True, ?_, fun _ _ => ?_⟩
 ·have hab : ∀ z1 z2 w1 w2, VA abV 5 [.agg [.int .i64 3, .int .i64 0, .str [120, 121, 122], .sl z1 [] w1 true, .sl z2 [] w2 true]] 1 := fun z1 z2 w1 w2 => ⟨⟨_, _, rfl, ⟨_, _, _, _, _, _, _, rfl, rfl, .inr rfl, .inr rfl, i0ok⟩, rfl⟩, .inl rfl, .inl rfl, i0ok, by decide +kernel⟩
  (conv => whnf); repeat' (first | ((first | (apply And.intro;· exact Cl4) | apply T1 | apply T2 | apply T3 | apply T4 | apply T6 | apply T5); conv => whnf) | (refine rec_check _ _ _ _ _ ⟨⟨_, _, rfl, ⟨_, _, _, _, _, _, _, rfl, rfl, .inr rfl, .inr rfl, i0ok⟩, _, _, rfl, ⟨_, _, _, _, _, _, _, rfl, ⟨_, _, rfl, ⟨_, _, _, _, _, _, _, rfl, rfl, .inr rfl, .inr rfl, ⟨by decide, by decide⟩⟩, rfl⟩, .inl rfl, .inr rfl, i0ok⟩, rfl⟩, .inl rfl, .inl rfl, i0ok, by decide +kernel⟩ _ ?_; conv => whnf) | (refine ab_size _ _ _ _ _ (hab _ _ _ _) _ ?_; conv => whnf) | (refine ab_depth _ _ _ _ _ (hab _ _ _ _) _ ?_; conv => whnf) | (refine ab_same _ _ _ _ _ _ _ _ _ _ (hab _ _ _ _) (hab _ _ _ _) _ ?_; conv => whnf) | (refine num_val _ _ (fun y1 y2 => ?_); conv => whnf) | (refine one_yes _ _ _ _ _ _ _ _ _ _ ⟨rfl, .inr rfl, .inr rfl, ⟨by decide, by decide⟩, by decide +kernel⟩ ⟨rfl, .inr rfl, .inr rfl, ⟨by decide, by decide⟩, by decide +kernel⟩ _ ?_; conv => whnf) | (refine fits_ints _ ?_; conv => whnf) | (refine list_val intsV.l _ _ _ _ (fun y3 => ?_); conv => whnf) | (refine is_ints _ _ _ _ _ ⟨⟨_, _, rfl, ⟨_, _, _, _, _, _, _, rfl, rfl, .inr rfl, .inr rfl, ⟨by decide, by decide⟩⟩, _, _, rfl, ⟨_, _, _, _, _, _, _, rfl, rfl, .inr rfl, .inr rfl, ⟨by decide, by decide⟩⟩, rfl⟩, .inl rfl, .inr rfl, i0ok, by decide +kernel⟩ _ ?_; conv => whnf) | (refine ab_show _ _ _ _ _ (hab _ _ _ _) _ ?_; conv => whnf) | ((refine Both.mk ?_ ?_ <;> fail_if_success (intro _)) <;> conv => whnf))
  all_goals (
   refine ⟨[], (), trivial, ?_⟩
   simp [meets, ghosts, St.le, St.get, look, keys, PV.labs, labsL, lookB, Blk.labs])
 conv => (arg 4; dsimp only)
 (conv => whnf); repeat ((first | (apply And.intro;· exact Cl4) | apply T1 | apply T2 | apply T3 | apply T4 | apply T6 | apply T5); conv => whnf)
 exact h
end Go.Vc
