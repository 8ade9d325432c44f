/- What is proved here: contracts of functions of the program: of each function what it hands back and what it leaves in memory. Conditions: those that each theorem names. -/
import Derived.Test.YthhokabbanhllaaGreatDoorTBq
import Derived.Test.YthhokabbanhllaaGreatDoorTBt
import Derived.Test.YthhokabbanhllaaGreatDoorTBv
import Derived.Test.YthhokabbanhllaaGreatDoorTBw
import Derived.Test.YthhokabbanhllaaGreatDoorTBx
set_option linter.unusedVariables false
set_option linter.unusedSimpArgs false
set_option linter.unusedSectionVars false
namespace Go.Vc
open Go Go.Proofs
set_option maxRecDepth 100000
theorem eq_v (a b : List UInt8) (v : Bool) (hv : (a == b) = v) (z1 z2 : Nat) (t1 o1 t2 o2 : Bool) (h1 : z1 = 1 ∨ bs a = []) (h2 : z2 = 1 ∨ bs b = []) (ha : a.length ≤ 1000000000) (Post : PV → List (Nat × Blk) → Prop) (h : Post (.bool v) []) :
  Spec K 19 [.sl z1 (bs a) t1 o1, .sl z2 (bs b) t2 o2] [] Post := eq_spec a b z1 z2 t1 o1 t2 o2 h1 h2 ha Post (by rw [hv]; exact h)
set_option maxHeartbeats 16000000 in
theorem bytes_law (v : V) (z1 z2 : Nat) (lp : List PV) (t1 t2 : Bool) (a : VA v z1 lp z2) (hb : bulkV v ≤ 2000000) : CSpec K 4 [.agg (vc v z1 lp t1 z2 t2)] [] LawPost := by
 refine is4.cspec K_ok K_mix false (by simp) (by simp [keys]) ?_
 have hl := writeV_len v
 have hsame := sameV_self v
 (conv => whnf); repeat ((first | (apply And.intro;· exact Cl4) | apply T1 | apply T2 | apply T3 | apply T4 | apply T6 | apply T5); conv => whnf)
 refine copyV_spec v z1 lp _ z2 _ a _ (fun y1 mp y2 hv => ?_)
 have hva := hv.va a.b
 (conv => whnf); repeat ((first | (apply And.intro;· exact Cl4) | apply T1 | apply T2 | apply T3 | apply T4 | apply T6 | apply T5); conv => whnf)
 cases hm : mayV v
 ·refine valueBytes_spec v y1 y2 mp _ _ _ hva (fun hc => by rw [hm] at hc; cases hc) (fun _ => ?_)
  (conv => whnf); repeat ((first | (apply And.intro;· exact Cl4) | apply T1 | apply T2 | apply T3 | apply T4 | apply T6 | apply T5); conv => whnf)
  refine valueBytesR_spec v z1 z2 lp _ _ _ a (fun hc => by rw [hm] at hc; cases hc) (fun _ => ?_)
  (conv => whnf); repeat ((first | (apply And.intro;· exact Cl4) | apply T1 | apply T2 | apply T3 | apply T4 | apply T6 | apply T5); conv => whnf)
  refine eq_v [] [] true rfl 0 0 _ _ _ _ (.inr rfl) (.inr rfl) (by decide) _ ?_
  (conv => whnf); repeat ((first | (apply And.intro;· exact Cl4) | apply T1 | apply T2 | apply T3 | apply T4 | apply T6 | apply T5); conv => whnf)
  refine sameS_x v v true hsame y1 y2 mp _ _ z1 z2 lp _ _ _ hva a ?_
  (conv => whnf); repeat ((first | (apply And.intro;· exact Cl4) | apply T1 | apply T2 | apply T3 | apply T4 | apply T6 | apply T5); conv => whnf)
  refine works_spec _ ?_
  (conv => whnf); repeat ((first | (apply And.intro;· exact Cl4) | apply T1 | apply T2 | apply T3 | apply T4 | apply T6 | apply T5); conv => whnf)
 ·refine valueBytes_spec v y1 y2 mp _ _ _ hva (fun _ => ?_) (fun hc => by rw [hm] at hc; cases hc)
  (conv => whnf); repeat ((first | (apply And.intro;· exact Cl4) | apply T1 | apply T2 | apply T3 | apply T4 | apply T6 | apply T5); conv => whnf)
  refine valueBytesR_spec v z1 z2 lp _ _ _ a (fun _ => ?_) (fun hc => by rw [hm] at hc; cases hc)
  (conv => whnf); repeat ((first | (apply And.intro;· exact Cl4) | apply T1 | apply T2 | apply T3 | apply T4 | apply T6 | apply T5); conv => whnf)
  refine eq_v (writeV v) (writeV v) true (beq_self_eq_true _) 1 1 _ _ _ _ (.inl rfl) (.inl rfl) (by omega) _ ?_
  (conv => whnf); repeat ((first | (apply And.intro;· exact Cl4) | apply T1 | apply T2 | apply T3 | apply T4 | apply T6 | apply T5); conv => whnf)
  refine sameS_x v v true hsame y1 y2 mp _ _ z1 z2 lp _ _ _ hva a ?_
  (conv => whnf); repeat ((first | (apply And.intro;· exact Cl4) | apply T1 | apply T2 | apply T3 | apply T4 | apply T6 | apply T5); conv => whnf)
  refine works_spec _ ?_
  (conv => whnf); repeat ((first | (apply And.intro;· exact Cl4) | apply T1 | apply T2 | apply T3 | apply T4 | apply T6 | apply T5); conv => whnf)
end Go.Vc
