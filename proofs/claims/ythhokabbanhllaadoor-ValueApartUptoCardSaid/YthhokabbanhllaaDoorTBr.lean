/- What is proved here: contracts of functions of the program: of each function what it hands back and what it leaves in memory. Conditions: those that each theorem names. -/
import Derived.Test.YthhokabbanhllaaDoorTBp
import Derived.Test.YthhokabbanhllaaDoorTBj
import Derived.Test.YthhokabbanhllaaDoorTBk
set_option linter.unusedVariables false
set_option linter.unusedSimpArgs false
set_option linter.unusedSectionVars false
namespace Go.Vc
open Go Go.Proofs
set_option maxRecDepth 100000
theorem takeV_may {b : List UInt8} {v : V} {r : List UInt8} (h : takeV b = .ok (v, r)) : mayV v = true ∧ ∃ r', parseV 8 b = .ok (v, r') := by
 unfold takeV at h
 split at h
 ·cases h
 ·rename_i v' r' hp
  split at h
  ·rename_i hm
   cases h; exact ⟨hm, _, hp⟩
  ·cases h
theorem writeV_ne (v : V) : writeV v ≠ [] := by cases v; simp only [writeV]; split <;> simp
theorem copyB_ref (a : List UInt8) (hn : a ≠ []) (z : Nat) (t : Bool) (ha : a.length ≤ 1000000000) (Post : PV → List (Nat × Blk) → Prop) (h : Post (.ref 1 0 0 a.length) [(0, .row 5 1 (bs a) true)]) : Spec K 18 [.sl z (bs a) t true] [] Post := by
 refine is18.specW K_ok K_mix true (by simp) (by simp [keys]) ?_
 (conv => whnf); repeat ((apply And.intro;· exact Cl1); conv => whnf)
 refine ⟨by rw [bs_len]; show a.length * 2 ≤ _; omega, ?_⟩
 (conv => whnf); repeat ((apply And.intro;· exact Cl1); conv => whnf)
 rw [bs_len]
 exact h
theorem eq_tt (b : List UInt8) (z1 z2 : Nat) (t1 o1 t2 o2 : Bool) (h1 : z1 = 1 ∨ bs b = []) (h2 : z2 = 1 ∨ bs b = []) (ha : b.length ≤ 1000000000) (Post : PV → List (Nat × Blk) → Prop) (h : Post (.bool true) []) :
  Spec K 17 [.sl z1 (bs b) t1 o1, .sl z2 (bs b) t2 o2] [] Post := eq_spec b b z1 z2 t1 o1 t2 o2 h1 h2 ha Post (by rw [beq_self_eq_true]; exact h)
set_option maxHeartbeats 16000000 in
theorem again_law (b : List UInt8) (z : Nat) (t : Bool) (hz : z = 1 ∨ b = []) (hb : b.length ≤ 2000000) : CSpec K 4 [.sl z (bs b) t true] [] LawPost := by
 refine is4.cspec K_ok K_mix false (by simp) (by simp [keys]) ?_
 have hz2 : z = 1 ∨ bs b = [] := hz.imp id fun h => by rw [h]; rfl
 (conv => whnf); repeat ((first | (apply And.intro;· exact Cl4) | apply T1 | apply T2 | apply T3 | apply T4 | apply T6 | apply T5); conv => whnf)
 refine works_spec _ ?_
 (conv => whnf); repeat ((first | (apply And.intro;· exact Cl4) | apply T1 | apply T2 | apply T3 | apply T4 | apply T6 | apply T5); conv => whnf)
 refine takeV_p b z _ hz (by omega) _ (fun v r e z1 lp z2 z3 hv hz3 ho => ?_)
 have hbk0 : bulkV v ≤ 100000000000 := by
  rcases ho with ⟨ho, rfl⟩ | ⟨ho, he, rfl, rfl⟩
  ·obtain ⟨hm, r', hp⟩ := takeV_may ho
   have := parse_bulk _ _ _ _ hp; omega
  ·decide
 have hva := hv.va hbk0
 rcases ho with ⟨ho, rfl⟩ | ⟨ho, he, rfl, rfl⟩
 ·obtain ⟨hm, r', hp⟩ := takeV_may ho
  have hw := takeV_inv ho
  have hbk := parse_bulk _ _ _ _ hp
  have hwl : (writeV v).length ≤ b.length := by rw [hw]; simp
  have hrl : r.length ≤ b.length := by rw [hw]; simp
  have hz4 : z3 = 1 ∨ bs r = [] := hz3.imp id fun h => by rw [h]; rfl
  (conv => whnf); repeat ((first | (apply And.intro;· exact Cl4) | apply T1 | apply T2 | apply T3 | apply T4 | apply T6 | apply T5); conv => whnf)
  refine valueBytes_spec v z1 z2 lp _ _ _ (hv.va (by omega)) (fun _ => ?_) (fun hc => by rw [hm] at hc; cases hc)
  (conv => whnf); repeat ((first | (apply And.intro;· exact Cl4) | apply T1 | apply T2 | apply T3 | apply T4 | apply T6 | apply T5); conv => whnf)
  refine copyB_ref (writeV v) (fun h0 => writeV_ne v h0) 1 _ (by omega) _ ?_
  (conv => whnf); repeat ((first | (apply And.intro;· exact Cl4) | apply T1 | apply T2 | apply T3 | apply T4 | apply T6 | apply T5); conv => whnf)
  have hab : ((writeV v).length + (bs r).length) * 2 ≤ 70368744177664 := by rw [bs_len]; omega
  refine ⟨hab, ?_⟩
  (conv => whnf); repeat ((first | (apply And.intro;· exact Cl4) | apply T1 | apply T2 | apply T3 | apply T4 | apply T6 | apply T5); conv => whnf)
  have hcat : List.take ((writeV v).length + (bs r).length) (List.drop 0 (List.take (writeV v).length (bs (writeV v)) ++ bs r)) = bs b := by
   rw [List.drop_zero, List.take_of_length_le (l := bs (writeV v)) (by rw [bs_len]; exact Nat.le_refl _), ← bs_app, ← hw, List.take_of_length_le (by rw [bs_len, bs_len, hw]; simp)]
  rw [hcat]
  refine eq_tt b 1 z _ _ _ _ (.inl rfl) hz2 (by omega) _ ?_
  (conv => whnf); repeat ((first | (apply And.intro;· exact Cl4) | apply T1 | apply T2 | apply T3 | apply T4 | apply T6 | apply T5); conv => whnf)
 ·have h1 : (e != 0) = true := by simpa using he
  (conv => whnf); repeat ((first | (apply And.intro;· exact Cl4) | apply T1 | apply T2 | apply T3 | apply T4 | apply T6 | apply T5); conv => whnf)
  rw [h1]
  (conv => whnf); repeat ((first | (apply And.intro;· exact Cl4) | apply T1 | apply T2 | apply T3 | apply T4 | apply T6 | apply T5); conv => whnf)
  refine sameR_x V0 V0 true (by decide) z1 z2 lp _ _ 0 0 [] _ _ _ hva V0_VA ?_
  (conv => whnf); repeat ((first | (apply And.intro;· exact Cl4) | apply T1 | apply T2 | apply T3 | apply T4 | apply T6 | apply T5); conv => whnf)
end Go.Vc
