/- What is proved here: contracts of functions of the program: of each function what it hands back and what it leaves in memory. Conditions: those that each theorem names. -/
import Derived.Test.YtmbopgmllnijjaaGreatTAr
import Derived.Test.YtmbopgmllnijjaaGreatTAy
import Derived.Test.YtmbopgmllnijjaaGreatTBf
import Derived.Test.YtmbopgmllnijjaaGreatTBh
import Derived.Test.YtmbopgmllnijjaaGreatTBg
set_option linter.unusedVariables false
set_option linter.unusedSimpArgs false
set_option linter.unusedSectionVars false
namespace Go.Vc
open Go Go.Proofs
set_option maxRecDepth 100000
theorem num_spec (n : Int) (Post : PV → List (Nat × Blk) → Prop) (h : Post (.agg [.int .i64 1, .int .i64 n, .str [], .sl 0 [] false true, .sl 0 [] false true]) []) : Spec K 78 [.int .i64 n] [] Post := by
 refine is78.specW K_ok K_mix false (by simp) (by simp [keys]) ?_
 (conv => whnf); repeat ((first | (apply And.intro;· exact Cl4) | apply T1 | apply T2 | apply T3 | apply T4 | apply T6 | apply T5); conv => whnf)
 exact h
theorem small_spec (Post : PV → List (Nat × Blk) → Prop) (h : ∀ lf lc, PGA (ofP wOne) 4 lf 5 lc → Post (.agg (pgc 4 lf false 5 lc false)) []) : Spec K 45 [] [] Post := by
 refine is45.specW K_ok K_mix false (by simp) (by simp [keys]) ?_
 (conv => whnf); repeat ((first | (apply And.intro;· exact Cl4) | apply T1 | apply T2 | apply T3 | apply T4 | apply T6 | apply T5); conv => whnf)
 refine num_spec 1 _ ?_
 (conv => whnf); repeat ((first | (apply And.intro;· exact Cl4) | apply T1 | apply T2 | apply T3 | apply T4 | apply T6 | apply T5); conv => whnf)
 exact h _ _ ⟨⟨_, [], rfl, ⟨3, false, false, rfl, .inl rfl⟩, rfl⟩, ⟨_, [], rfl, ⟨0, [], false, true, 0, false, true, rfl, rfl, .inr rfl, .inr rfl, by unfold i64; decide⟩, rfl⟩, .inl rfl, .inl rfl, (by decide : (1 : Nat) ≤ 1000000000), (by decide : (1 : Nat) ≤ 1000000000),
  fun f hf => by
   obtain rfl := List.mem_singleton.1 hf
   exact ⟨(by decide : (4 : Nat) ≤ 1000000000), (show i64 0 by unfold i64; decide), (show i64 0 by unfold i64; decide), (by decide : (2 : Nat) ≤ 1000000000), by unfold i64; decide⟩,
  fun v hv => by
   obtain rfl := List.mem_singleton.1 hv
   exact ⟨by unfold i64; decide, by decide⟩⟩
def wBytes : List UInt8 := [1, 0, 1, 1, 0, 0, 0, 0, 0, 0, 0, 1, 1, 4, 0x6D, 0x61, 0x69, 0x6E, 0, 0, 0, 2, 1, 0, 0, 0, 0, 30, 0, 0, 0, 0]
theorem w_chk : chkM (ofP wOne) = 0 := by rfl
theorem w_bytes : bytesM (ofP wOne) = wBytes := by rfl
theorem w_parse : progP wBytes = .ok (ofP wOne) := by rfl
theorem plain_spec (op : Int) (Post : PV → List (Nat × Blk) → Prop) (h : Post (.bool (decide (1 ≤ op) && decide (op ≤ 23))) []) : Spec K 48 [.int .i64 op] [] Post := by
 refine is48.specW K_ok K_mix false (by simp) (by simp [keys]) ?_
 (conv => whnf); repeat ((first | (apply And.intro;· exact Cl4) | apply T1 | apply T2 | apply T3 | apply T4 | apply T6 | apply T5); conv => whnf)
 cases h1 : decide ((1 : Int) ≤ op)
 ·rw [h1] at h
  (conv => whnf); repeat ((first | (apply And.intro;· exact Cl4) | apply T1 | apply T2 | apply T3 | apply T4 | apply T6 | apply T5); conv => whnf)
  exact h
 ·rw [h1] at h
  (conv => whnf); repeat ((first | (apply And.intro;· exact Cl4) | apply T1 | apply T2 | apply T3 | apply T4 | apply T6 | apply T5); conv => whnf)
  exact h
def WorksD : Prop := ∀ Post : PV → List (Nat × Blk) → Prop, Post (.bool true) [] → Spec K 18 [] [] Post
def SameC : Prop := ∀ (p : PG) (zf : Nat) (lf : List PV) (tf : Bool) (zc : Nat) (lc : List PV) (tc : Bool) (yf : Nat) (mf : List PV) (uf : Bool) (yc : Nat) (mc : List PV) (uc : Bool), PGA p zf lf zc lc → PGA p yf mf yc mc → ∀ Post : PV → List (Nat × Blk) → Prop, Post (.bool true) [] →
  Spec K 12 [.agg (pgc zf lf tf zc lc tc), .agg (pgc yf mf uf yc mc uc)] [] Post
set_option maxHeartbeats 32000000 in
theorem works15_spec (hF : FitsC) (hS : SameC) : WorksD := by
 intro Post h
 refine is18.specW K_ok K_mix false (by simp) (by simp [keys]) ?_
 (conv => whnf); repeat ((first | (apply And.intro;· exact Cl4) | apply T1 | apply T2 | apply T3 | apply T4 | apply T6 | apply T5); conv => whnf)
 refine small_spec _ (fun lf1 lc1 hp1 => ?_)
 (conv => whnf); repeat ((first | (apply And.intro;· exact Cl4) | apply T1 | apply T2 | apply T3 | apply T4 | apply T6 | apply T5); conv => whnf)
 refine (bytes_spec hF (ofP wOne) 4 lf1 _ 5 lc1 _ hp1 _ (fun hc => absurd w_chk hc) (fun _ => ?_)).of2
 rw [w_bytes]
 (conv => whnf); repeat ((first | (apply And.intro;· exact Cl4) | apply T1 | apply T2 | apply T3 | apply T4 | apply T6 | apply T5); conv => whnf)
 refine parse_spec hF wBytes 1 _ (Or.inl rfl) (by decide) _ (fun e he _ => by rw [w_parse] at he; cases he) (fun p lf2 lc2 z1 z2 hp hp2 => ?_)
 obtain rfl : ofP wOne = p := by rw [w_parse] at hp; cases hp; rfl
 (conv => whnf); repeat ((first | (apply And.intro;· exact Cl4) | apply T1 | apply T2 | apply T3 | apply T4 | apply T6 | apply T5); conv => whnf)
 refine small_spec _ (fun lf3 lc3 hp3 => ?_)
 (conv => whnf); repeat ((first | (apply And.intro;· exact Cl4) | apply T1 | apply T2 | apply T3 | apply T4 | apply T6 | apply T5); conv => whnf)
 refine find_spec (ofP wOne) [109, 97, 105, 110] 4 lf3 _ 5 lc3 _ hp3 _ ?_
 (conv => whnf); repeat ((first | (apply And.intro;· exact Cl4) | apply T1 | apply T2 | apply T3 | apply T4 | apply T6 | apply T5); conv => whnf)
 refine small_spec _ (fun lf4 lc4 hp4 => ?_)
 (conv => whnf); repeat ((first | (apply And.intro;· exact Cl4) | apply T1 | apply T2 | apply T3 | apply T4 | apply T6 | apply T5); conv => whnf)
 refine moves_spec (ofP wOne) ⟨20, 3, 0⟩ 4 lf4 _ 5 lc4 _ hp4 _ ?_
 (conv => whnf); repeat ((first | (apply And.intro;· exact Cl4) | apply T1 | apply T2 | apply T3 | apply T4 | apply T6 | apply T5); conv => whnf)
 (conv => whnf); repeat' (first | ((first | (apply And.intro;· exact Cl4) | apply T1 | apply T2 | apply T3 | apply T4 | apply T6 | apply T5); conv => whnf) | (refine small_spec _ (fun lf5 lc5 hp5 => ?_); conv => whnf) | ((refine eq_spec wBytes wBytes 1 1 _ _ _ _ (Or.inl rfl) (Or.inl rfl) (by decide) _ ?_; rw [beq_self_eq_true]); conv => whnf) | (refine hS (ofP wOne) _ _ _ _ _ _ _ _ _ _ _ _ hp2 (by assumption) _ ?_; conv => whnf) | ((refine chk_spec hF (ofP wOne) _ _ _ _ _ _ (by assumption) _ ?_; rw [w_chk]); conv => whnf) | (refine plain_spec _ _ ?_; conv => whnf) | ((refine Both.mk ?_ ?_ <;> fail_if_success (intro _)) <;> conv => whnf))
 all_goals exact h
end Go.Vc
namespace Go.Vc
open Go Go.Proofs
set_option maxRecDepth 100000
end Go.Vc
