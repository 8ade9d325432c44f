/- What is proved here: contracts of functions of the program: of each function what it hands back and what it leaves in memory. Conditions: those that each theorem names. -/
import Derived.Test.YthhokabbanhllaaGreatDoorTBq
import Derived.Test.YthhokabbanhllaaGreatDoorTBt
import Derived.Test.YthhokabbanhllaaGreatDoorTAp
import Derived.Test.YthhokabbanhllaaGreatDoorTBa
import Derived.Test.YthhokabbanhllaaGreatDoorTBu
set_option linter.unusedVariables false
set_option linter.unusedSimpArgs false
set_option linter.unusedSectionVars false
namespace Go.Vc
open Go Go.Proofs
set_option maxRecDepth 100000
theorem check_x (v : V) (e : Int) (he : (bif mayV v then 0 else 2) = e) (z1 z2 : Nat) (lp : List PV) (t1 t2 : Bool) (Post : PV → List (Nat × Blk) → Prop) (a : VA v z1 lp z2) (h : Post (.int .i64 e) []) : Spec K 9 [.agg (vc v z1 lp t1 z2 t2)] [] Post := by
 subst he; exact check_spec v z1 z2 lp t1 t2 Post a h
theorem checkR_x (v : V) (e : Int) (he : (bif mayV v then 0 else 2) = e) (z1 z2 : Nat) (lp : List PV) (t1 t2 : Bool) (Post : PV → List (Nat × Blk) → Prop) (a : VA v z1 lp z2) (h : Post (.int .i64 e) []) : Spec K 10 [.agg (vc v z1 lp t1 z2 t2)] [] Post := by
 subst he; exact checkR_spec v z1 z2 lp t1 t2 Post a h
theorem size_x (v : V) (e : Int) (he : (sizeV v : Int) = e) (z1 z2 : Nat) (lp : List PV) (t1 t2 : Bool) (Post : PV → List (Nat × Blk) → Prop) (a : VA v z1 lp z2) (h : Post (.int .i64 e) []) : Spec K 11 [.agg (vc v z1 lp t1 z2 t2)] [] Post := by
 subst he; exact size_all _ v (Nat.le_refl _) a.b z1 z2 lp t1 t2 Post a.l a.z1 a.z2 h
theorem sizeR_x (v : V) (e : Int) (he : (sizeV v : Int) = e) (z1 z2 : Nat) (lp : List PV) (t1 t2 : Bool) (Post : PV → List (Nat × Blk) → Prop) (a : VA v z1 lp z2) (h : Post (.int .i64 e) []) : Spec K 12 [.agg (vc v z1 lp t1 z2 t2)] [] Post := by
 subst he; exact size_spec 100000000000 v.k v.n v.s v.l v.ns (by rw [V.eta]; exact a.b) (by omega) z1 z2 lp t1 t2 Post a.l a.z1 a.z2 (by rw [V.eta]; exact h)
theorem depth_x (v : V) (e : Int) (he : (depthV v : Int) = e) (z1 z2 : Nat) (lp : List PV) (t1 t2 : Bool) (Post : PV → List (Nat × Blk) → Prop) (a : VA v z1 lp z2) (h : Post (.int .i64 e) []) : Spec K 13 [.agg (vc v z1 lp t1 z2 t2)] [] Post := by
 subst he; exact depth_all _ v (Nat.le_refl _) a.b z1 z2 lp t1 t2 Post a.l a.z1 a.z2 h
theorem depthR_x (v : V) (e : Int) (he : (depthV v : Int) = e) (z1 z2 : Nat) (lp : List PV) (t1 t2 : Bool) (Post : PV → List (Nat × Blk) → Prop) (a : VA v z1 lp z2) (h : Post (.int .i64 e) []) : Spec K 14 [.agg (vc v z1 lp t1 z2 t2)] [] Post := by
 subst he; exact depth_spec 100000000000 v.k v.n v.s v.l v.ns (by rw [V.eta]; exact a.b) (by omega) z1 z2 lp t1 t2 Post a.l a.z1 a.z2 (by rw [V.eta]; exact h)
set_option maxHeartbeats 16000000 in
theorem checks_law (v : V) (z1 z2 : Nat) (lp : List PV) (t1 t2 : Bool) (a : VA v z1 lp z2) : CSpec K 3 [.agg (vc v z1 lp t1 z2 t2)] [] LawPost := by
 refine is3.cspec K_ok K_mix false (by simp) (by simp [keys]) ?_
 have hsame := sameV_self v
 obtain ⟨e, he⟩ : ∃ e : Int, (bif mayV v then 0 else 2) = e := ⟨_, rfl⟩
 obtain ⟨n, hn⟩ : ∃ n : Int, (sizeV v : Int) = n := ⟨_, rfl⟩
 obtain ⟨d, hd⟩ : ∃ d : Int, (depthV v : Int) = d := ⟨_, rfl⟩
 (conv => whnf); repeat ((first | (apply And.intro;· exact Cl4) | apply T1 | apply T2 | apply T3 | apply T4 | apply T6 | apply T5); conv => whnf)
 refine copyV_spec v z1 lp _ z2 _ a _ (fun y1 mp y2 hv => ?_)
 have hva := hv.va a.b
 (conv => whnf); repeat ((first | (apply And.intro;· exact Cl4) | apply T1 | apply T2 | apply T3 | apply T4 | apply T6 | apply T5); conv => whnf)
 refine ⟨Unit, fun _ => ⟨33, [(7, .int .i64 e), (8, .agg (vc v z1 lp t1 z2 t2)), (3, .ptr 1 0), (1, .ptr 0 0)], [(1, .box (vc v y1 mp false y2 false)), (0, .box (vc v z1 lp t1 z2 t2))], []⟩, fun _ => True, ?_, fun _ _ => ?_⟩
 ·(conv => whnf); repeat' (first | ((first | (apply And.intro;· exact Cl4) | apply T1 | apply T2 | apply T3 | apply T4 | apply T6 | apply T5); conv => whnf) | (refine check_x v e he y1 y2 mp _ _ _ hva ?_; conv => whnf) | ((refine Both.mk ?_ ?_ <;> fail_if_success (intro _)) <;> conv => whnf))
  all_goals (
   refine ⟨[], (), trivial, ?_⟩
   simp [meets, ghosts, St.le, St.get, look, keys, PV.labs, labsL, lookB, Blk.labs, vc])
 conv => (arg 4; dsimp only)
 (conv => whnf); repeat ((first | (apply And.intro;· exact Cl4) | apply T1 | apply T2 | apply T3 | apply T4 | apply T6 | apply T5); conv => whnf)
 refine checkR_x v e he z1 z2 lp _ _ _ a ?_
 (conv => whnf); repeat ((first | (apply And.intro;· exact Cl4) | apply T1 | apply T2 | apply T3 | apply T4 | apply T6 | apply T5); conv => whnf)
 rw [beq_self_eq_true]
 (conv => whnf); repeat ((first | (apply And.intro;· exact Cl4) | apply T1 | apply T2 | apply T3 | apply T4 | apply T6 | apply T5); conv => whnf)
 refine ⟨Unit, fun _ => ⟨33, [(13, .int .i64 n), (14, .cond (true && true == true) (.agg (vc v z1 lp t1 z2 t2))), (11, .bool true), (3, .ptr 1 0), (1, .ptr 0 0)], [(1, .box (vc v y1 mp false y2 false)), (0, .box (vc v z1 lp t1 z2 t2))], []⟩, fun _ => True, ?_, fun _ _ => ?_⟩
 ·(conv => whnf); repeat' (first | ((first | (apply And.intro;· exact Cl4) | apply T1 | apply T2 | apply T3 | apply T4 | apply T6 | apply T5); conv => whnf) | (refine size_x v n hn y1 y2 mp _ _ _ hva ?_; conv => whnf) | ((refine Both.mk ?_ ?_ <;> fail_if_success (intro _)) <;> conv => whnf))
  all_goals (
   refine ⟨[], (), trivial, ?_⟩
   simp [meets, ghosts, St.le, St.get, look, keys, PV.labs, labsL, lookB, Blk.labs, vc])
 conv => (arg 4; dsimp only)
 (conv => whnf); repeat ((first | (apply And.intro;· exact Cl4) | apply T1 | apply T2 | apply T3 | apply T4 | apply T6 | apply T5); conv => whnf)
 refine sizeR_x v n hn z1 z2 lp _ _ _ a ?_
 (conv => whnf); repeat ((first | (apply And.intro;· exact Cl4) | apply T1 | apply T2 | apply T3 | apply T4 | apply T6 | apply T5); conv => whnf)
 rw [beq_self_eq_true]
 (conv => whnf); repeat ((first | (apply And.intro;· exact Cl4) | apply T1 | apply T2 | apply T3 | apply T4 | apply T6 | apply T5); conv => whnf)
 refine ⟨Unit, fun _ => ⟨33, [(20, .int .i64 d), (21, .cond (true && true == true) (.agg (vc v z1 lp t1 z2 t2))), (18, .bool true), (3, .ptr 1 0), (1, .ptr 0 0)], [(1, .box (vc v y1 mp false y2 false)), (0, .box (vc v z1 lp t1 z2 t2))], []⟩, fun _ => True, ?_, fun _ _ => ?_⟩
 ·(conv => whnf); repeat' (first | ((first | (apply And.intro;· exact Cl4) | apply T1 | apply T2 | apply T3 | apply T4 | apply T6 | apply T5); conv => whnf) | (refine depth_x v d hd y1 y2 mp _ _ _ hva ?_; conv => whnf) | ((refine Both.mk ?_ ?_ <;> fail_if_success (intro _)) <;> conv => whnf))
  all_goals (
   refine ⟨[], (), trivial, ?_⟩
   simp [meets, ghosts, St.le, St.get, look, keys, PV.labs, labsL, lookB, Blk.labs, vc])
 conv => (arg 4; dsimp only)
 (conv => whnf); repeat ((first | (apply And.intro;· exact Cl4) | apply T1 | apply T2 | apply T3 | apply T4 | apply T6 | apply T5); conv => whnf)
 refine depthR_x v d hd z1 z2 lp _ _ _ a ?_
 (conv => whnf); repeat ((first | (apply And.intro;· exact Cl4) | apply T1 | apply T2 | apply T3 | apply T4 | apply T6 | apply T5); conv => whnf)
 rw [beq_self_eq_true]
 (conv => whnf); repeat ((first | (apply And.intro;· exact Cl4) | apply T1 | apply T2 | apply T3 | apply T4 | apply T6 | apply T5); conv => whnf)
 refine ⟨Unit, fun _ => ⟨33, [(26, .cond (true && true == true) (.agg (vc v y1 mp false y2 false))), (27, .cond (true && true == true) (.agg (vc v z1 lp t1 z2 t2))), (25, .bool true)], [], []⟩, fun _ => True, ?_, fun _ _ => ?_⟩
 ·(conv => whnf); repeat' (first | ((first | (apply And.intro;· exact Cl4) | apply T1 | apply T2 | apply T3 | apply T4 | apply T6 | apply T5); conv => whnf) | (fail; conv => whnf) | ((refine Both.mk ?_ ?_ <;> fail_if_success (intro _)) <;> conv => whnf))
  all_goals (
   refine ⟨[], (), trivial, ?_⟩
   simp [meets, ghosts, St.le, St.get, look, keys, PV.labs, labsL, lookB, Blk.labs, vc])
 conv => (arg 4; dsimp only)
 (conv => whnf); repeat ((first | (apply And.intro;· exact Cl4) | apply T1 | apply T2 | apply T3 | apply T4 | apply T6 | apply T5); conv => whnf)
 refine sameS_x v v true hsame y1 y2 mp _ _ z1 z2 lp _ _ _ hva a ?_
 (conv => whnf); repeat ((first | (apply And.intro;· exact Cl4) | apply T1 | apply T2 | apply T3 | apply T4 | apply T6 | apply T5); conv => whnf)
 refine works_spec _ ?_
 (conv => whnf); repeat ((first | (apply And.intro;· exact Cl4) | apply T1 | apply T2 | apply T3 | apply T4 | apply T6 | apply T5); conv => whnf)
end Go.Vc
