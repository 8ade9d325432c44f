/- What is proved here: contracts of functions of the program: of each function what it hands back and what it leaves in memory. Conditions: those that each theorem names. -/
import Derived.Test.YthhokabbanhllaaDoorTBz
import Derived.Test.YthhokabbanhllaaDoorTCa
set_option linter.unusedVariables false
set_option linter.unusedSimpArgs false
set_option linter.unusedSectionVars false
namespace Go.Vc
open Go Go.Proofs
set_option maxRecDepth 100000
theorem comp_x (a b : V) (x : Int) (hx : cmpV a b = x) (z1 z2 : Nat) (lp : List PV) (t1 t2 : Bool) (x1 x2 : Nat) (mp : List PV) (u1 u2 : Bool) (Post : PV → List (Nat × Blk) → Prop) (ha : VA a z1 lp z2) (hb : VA b x1 mp x2)
  (h : Post (.int .i64 x) []) : Spec K 11 [.agg (vc a z1 lp t1 z2 t2), .agg (vc b x1 mp u1 x2 u2)] [] Post := by
 subst hx
 exact compare_spec 100000000000 a.k a.n a.s a.l a.ns b (by rw [V.eta]; exact ha.b) (by omega) hb.b z1 z2 lp t1 t2 x1 x2 mp u1 u2 Post ha.l ha.z1 ha.z2 hb.l hb.z1 hb.z2 (by rw [V.eta]; exact h)
theorem cmp_x (a b : V) (x : Int) (hx : cmpV a b = x) (z1 z2 : Nat) (lp : List PV) (t1 t2 : Bool) (x1 x2 : Nat) (mp : List PV) (u1 u2 : Bool) (Post : PV → List (Nat × Blk) → Prop) (ha : VA a z1 lp z2) (hb : VA b x1 mp x2)
  (h : Post (.int .i64 x) []) : Spec K 10 [.agg (vc a z1 lp t1 z2 t2), .agg (vc b x1 mp u1 x2 u2)] [] Post := by
 subst hx
 exact cmp_spec a b z1 z2 lp t1 t2 x1 x2 mp u1 u2 Post ha hb h
theorem same_x (a b : V) (x : Bool) (hx : sameV a b = x) (z1 z2 : Nat) (lp : List PV) (t1 t2 : Bool) (x1 x2 : Nat) (mp : List PV) (u1 u2 : Bool) (Post : PV → List (Nat × Blk) → Prop) (ha : VA a z1 lp z2) (hb : VA b x1 mp x2)
  (h : Post (.bool x) []) : Spec K 12 [.agg (vc a z1 lp t1 z2 t2), .agg (vc b x1 mp u1 x2 u2)] [] Post := by
 subst hx
 exact same_spec a b z1 z2 lp t1 t2 x1 x2 mp u1 u2 Post ha hb h
theorem sameS_x (a b : V) (x : Bool) (hx : sameV a b = x) (z1 z2 : Nat) (lp : List PV) (t1 t2 : Bool) (x1 x2 : Nat) (mp : List PV) (u1 u2 : Bool) (Post : PV → List (Nat × Blk) → Prop) (ha : VA a z1 lp z2) (hb : VA b x1 mp x2)
  (h : Post (.bool x) []) : Spec K 13 [.agg (vc a z1 lp t1 z2 t2), .agg (vc b x1 mp u1 x2 u2)] [] Post := by
 subst hx
 exact sameR_spec a b z1 z2 lp t1 t2 x1 x2 mp u1 u2 Post ha hb h
set_option maxHeartbeats 16000000 in
theorem orders_law (a b : V) (z1 z2 : Nat) (lp : List PV) (t1 t2 : Bool) (x1 x2 : Nat) (mp : List PV) (u1 u2 : Bool) (ha : VA a z1 lp z2) (hb : VA b x1 mp x2) :
  CSpec K 3 [.agg (vc a z1 lp t1 z2 t2), .agg (vc b x1 mp u1 x2 u2)] [] LawPost := by
 refine is3.cspec K_ok K_mix false (by simp) (by simp [keys]) ?_
 obtain ⟨x, hx⟩ : ∃ x, cmpV a b = x := ⟨_, rfl⟩
 obtain ⟨y, hy⟩ : ∃ y, sameV a b = y := ⟨_, rfl⟩
 (conv => whnf); repeat ((first | (apply And.intro;· exact Cl4) | apply T1 | apply T2 | apply T3 | apply T4 | apply T6 | apply T5); conv => whnf)
 refine ⟨Unit, fun _ => ⟨24, [(7, .int .i64 x), (8, .agg (vc a z1 lp t1 z2 t2)), (9, .agg (vc b x1 mp u1 x2 u2)), (3, .ptr 1 0), (2, .ptr 0 0)], [(1, .box (vc b x1 mp u1 x2 u2)), (0, .box (vc a z1 lp t1 z2 t2))], []⟩, fun _ => True, ?_, fun _ _ => ?_⟩
 ·(conv => whnf); repeat' (first | ((first | (apply And.intro;· exact Cl4) | apply T1 | apply T2 | apply T3 | apply T4 | apply T6 | apply T5); conv => whnf) | (refine cmp_x a b x hx z1 z2 lp _ _ x1 x2 mp _ _ _ ha hb ?_; conv => whnf) | ((refine Both.mk ?_ ?_ <;> fail_if_success (intro _)) <;> conv => whnf))
  all_goals (
   refine ⟨[], (), trivial, ?_⟩
   simp [meets, ghosts, St.le, St.get, look, keys, PV.labs, labsL, lookB, Blk.labs, vc])
 conv => (arg 4; dsimp only)
 (conv => whnf); repeat ((first | (apply And.intro;· exact Cl4) | apply T1 | apply T2 | apply T3 | apply T4 | apply T6 | apply T5); conv => whnf)
 refine comp_x a b x hx z1 z2 lp _ _ x1 x2 mp _ _ _ ha hb ?_
 (conv => whnf); repeat ((first | (apply And.intro;· exact Cl4) | apply T1 | apply T2 | apply T3 | apply T4 | apply T6 | apply T5); conv => whnf)
 rw [beq_self_eq_true]
 (conv => whnf); repeat ((first | (apply And.intro;· exact Cl4) | apply T1 | apply T2 | apply T3 | apply T4 | apply T6 | apply T5); conv => whnf)
 refine ⟨Unit, fun _ => ⟨24, [(15, .bool y), (16, .cond (true && true == true) (.agg (vc a z1 lp t1 z2 t2))), (17, .cond (true && true == true) (.agg (vc b x1 mp u1 x2 u2))), (12, .bool true)], [], []⟩, fun _ => True, ?_, fun _ _ => ?_⟩
 ·(conv => whnf); repeat' (first | ((first | (apply And.intro;· exact Cl4) | apply T1 | apply T2 | apply T3 | apply T4 | apply T6 | apply T5); conv => whnf) | (refine same_x a b y hy z1 z2 lp _ _ x1 x2 mp _ _ _ ha hb ?_; conv => whnf) | ((refine Both.mk ?_ ?_ <;> fail_if_success (intro _)) <;> conv => whnf))
  all_goals (
   refine ⟨[], (), trivial, ?_⟩
   simp [meets, ghosts, St.le, St.get, look, keys, PV.labs, labsL, lookB, Blk.labs, vc])
 conv => (arg 4; dsimp only)
 (conv => whnf); repeat ((first | (apply And.intro;· exact Cl4) | apply T1 | apply T2 | apply T3 | apply T4 | apply T6 | apply T5); conv => whnf)
 refine sameS_x a b y hy z1 z2 lp _ _ x1 x2 mp _ _ _ ha hb ?_
 (conv => whnf); repeat ((first | (apply And.intro;· exact Cl4) | apply T1 | apply T2 | apply T3 | apply T4 | apply T6 | apply T5); conv => whnf)
 rw [beq_self_eq_true]
 (conv => whnf); repeat ((first | (apply And.intro;· exact Cl4) | apply T1 | apply T2 | apply T3 | apply T4 | apply T6 | apply T5); conv => whnf)
 refine works_spec _ ?_
 (conv => whnf); repeat ((first | (apply And.intro;· exact Cl4) | apply T1 | apply T2 | apply T3 | apply T4 | apply T6 | apply T5); conv => whnf)
end Go.Vc
