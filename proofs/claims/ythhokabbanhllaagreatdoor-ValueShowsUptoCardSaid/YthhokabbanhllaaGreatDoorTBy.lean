/- What is proved here: contracts of functions of the program: of each function what it hands back and what it leaves in memory. Conditions: those that each theorem names. -/
import Derived.Test.YthhokabbanhllaaGreatDoorTBx
set_option linter.unusedVariables false
set_option linter.unusedSimpArgs false
set_option linter.unusedSectionVars false
namespace Go.Vc
open Go Go.Proofs
set_option maxRecDepth 100000
set_option maxHeartbeats 8000000 in
theorem valueBytesR_spec (v : V) (z1 z2 : Nat) (lp : List PV) (t1 t2 : Bool) (Post : PV → List (Nat × Blk) → Prop) (a : VA v z1 lp z2)
  (h1 : mayV v = true → Post (.tup [.sl 1 (bs (writeV v)) false true, .int .i64 0]) []) (h2 : mayV v = false → Post (.tup [.sl 0 [] false true, .int .i64 2]) []) :
  Spec K 18 [.agg (vc v z1 lp t1 z2 t2)] [] Post := by
 refine is18.specW K_ok K_mix false (by simp) (by simp [keys]) ?_
 (conv => whnf); repeat ((first | (apply And.intro;· exact Cl3) | apply T1 | apply T2 | apply T3 | apply T4 | apply T6 | apply T5); conv => whnf)
 refine may_spec v z1 z2 lp t1 t2 _ a ?_
 cases hm : mayV v
 ·(conv => whnf); repeat ((first | (apply And.intro;· exact Cl3) | apply T1 | apply T2 | apply T3 | apply T4 | apply T6 | apply T5); conv => whnf)
  exact h2 hm
 ·(conv => whnf); repeat ((first | (apply And.intro;· exact Cl3) | apply T1 | apply T2 | apply T3 | apply T4 | apply T6 | apply T5); conv => whnf)
  refine writeR_spec 100000000000 v.k v.n v.s v.l v.ns (by rw [V.eta]; exact a.b) (by omega) z1 z2 lp t1 t2 _ a.l a.z1 a.z2 (by rw [V.eta]; exact allV_of hm) ?_
  rw [V.eta]
  (conv => whnf); repeat ((first | (apply And.intro;· exact Cl3) | apply T1 | apply T2 | apply T3 | apply T4 | apply T6 | apply T5); conv => whnf)
  exact h1 hm
end Go.Vc
