/- What is proved here: contracts of functions of the program: of each function what it hands back and what it leaves in memory. Conditions: those that each theorem names. -/
import Derived.Test.YtmbopgmllnijjaaGreatTAr
import Derived.Test.YtmbopgmllnijjaaGreatTBa
import Derived.Test.YtmbopgmllnijjaaGreatTAy
import Derived.Test.YtmbopgmllnijjaaGreatTBb
set_option linter.unusedVariables false
set_option linter.unusedSimpArgs false
set_option linter.unusedSectionVars false
namespace Go.Vc
open Go Go.Proofs
set_option maxRecDepth 100000
theorem num_spec (n : Int) (Post : PV → List (Nat × Blk) → Prop) (h : Post (.agg [.int .i64 1, .int .i64 n, .str [], .sl 0 [] false true, .sl 0 [] false true]) []) : Spec K 78 [.int .i64 n] [] Post := by
 refine is78.specW K_ok K_mix false (by simp) (by simp [keys]) ?_
 (conv => whnf); repeat ((first | (apply And.intro;· exact Cl4) | apply T1 | apply T2 | apply T3 | apply T4 | apply T6 | apply T5); conv => whnf)
 exact h
theorem small_spec (Post : PV → List (Nat × Blk) → Prop) (h : ∀ lf lc, PGA (ofP wOne) 4 lf 5 lc → Post (.agg (pgc 4 lf false 5 lc false)) []) : Spec K 45 [] [] Post := by
 refine is45.specW K_ok K_mix false (by simp) (by simp [keys]) ?_
 (conv => whnf); repeat ((first | (apply And.intro;· exact Cl4) | apply T1 | apply T2 | apply T3 | apply T4 | apply T6 | apply T5); conv => whnf)
 refine num_spec 1 _ ?_
 (conv => whnf); repeat ((first | (apply And.intro;· exact Cl4) | apply T1 | apply T2 | apply T3 | apply T4 | apply T6 | apply T5); conv => whnf)
 exact h _ _ ⟨⟨_, [], rfl, ⟨3, false, false, rfl, .inl rfl⟩, rfl⟩, ⟨_, [], rfl, ⟨0, [], false, true, 0, false, true, rfl, rfl, .inr rfl, .inr rfl, by unfold i64; decide⟩, rfl⟩, .inl rfl, .inl rfl, (by decide : (1 : Nat) ≤ 1000000000), (by decide : (1 : Nat) ≤ 1000000000),
  fun f hf => by
   obtain rfl := List.mem_singleton.1 hf
   exact ⟨(by decide : (4 : Nat) ≤ 1000000000), (show i64 0 by unfold i64; decide), (show i64 0 by unfold i64; decide), (by decide : (2 : Nat) ≤ 1000000000), by unfold i64; decide⟩,
  fun v hv => by
   obtain rfl := List.mem_singleton.1 hv
   exact ⟨by unfold i64; decide, by decide⟩⟩
def wBytes : List UInt8 := [1, 0, 1, 1, 0, 0, 0, 0, 0, 0, 0, 1, 1, 4, 0x6D, 0x61, 0x69, 0x6E, 0, 0, 0, 2, 1, 0, 0, 0, 0, 30, 0, 0, 0, 0]
theorem w_chk : chkM (ofP wOne) = 0 := by rfl
theorem w_bytes : bytesM (ofP wOne) = wBytes := by rfl
theorem w_parse : progP wBytes = .ok (ofP wOne) := by rfl
theorem plain_spec (op : Int) (Post : PV → List (Nat × Blk) → Prop) (h : Post (.bool (decide (1 ≤ op) && decide (op ≤ 23))) []) : Spec K 48 [.int .i64 op] [] Post := by
 refine is48.specW K_ok K_mix false (by simp) (by simp [keys]) ?_
 (conv => whnf); repeat ((first | (apply And.intro;· exact Cl4) | apply T1 | apply T2 | apply T3 | apply T4 | apply T6 | apply T5); conv => whnf)
 cases h1 : decide ((1 : Int) ≤ op)
 ·rw [h1] at h
  (conv => whnf); repeat ((first | (apply And.intro;· exact Cl4) | apply T1 | apply T2 | apply T3 | apply T4 | apply T6 | apply T5); conv => whnf)
  exact h
 ·rw [h1] at h
  (conv => whnf); repeat ((first | (apply And.intro;· exact Cl4) | apply T1 | apply T2 | apply T3 | apply T4 | apply T6 | apply T5); conv => whnf)
  exact h
def WorksD : Prop := ∀ Post : PV → List (Nat × Blk) → Prop, Post (.bool true) [] → Spec K 18 [] [] Post
def SameC : Prop := ∀ (p : PG) (zf : Nat) (lf : List PV) (tf : Bool) (zc : Nat) (lc : List PV) (tc : Bool) (yf : Nat) (mf : List PV) (uf : Bool) (yc : Nat) (mc : List PV) (uc : Bool), PGA p zf lf zc lc → PGA p yf mf yc mc → ∀ Post : PV → List (Nat × Blk) → Prop, Post (.bool true) [] →
  Spec K 12 [.agg (pgc zf lf tf zc lc tc), .agg (pgc yf mf uf yc mc uc)] [] Post
set_option maxHeartbeats 32000000 in
theorem works15_spec (hF : FitsC) (hS : SameC) : WorksD := by
 intro Post h
 refine is18.specW K_ok K_mix false (by simp) (by simp [keys]) ?_
 (conv => whnf); repeat ((first | (apply And.intro;· exact Cl4) | apply T1 | apply T2 | apply T3 | apply T4 | apply T6 | apply T5); conv => whnf)
 refine small_spec _ (fun lf1 lc1 hp1 => ?_)
 (conv => whnf); repeat ((first | (apply And.intro;· exact Cl4) | apply T1 | apply T2 | apply T3 | apply T4 | apply T6 | apply T5); conv => whnf)
 refine (bytes_spec hF (ofP wOne) 4 lf1 _ 5 lc1 _ hp1 _ (fun hc => absurd w_chk hc) (fun _ => ?_)).of2
 rw [w_bytes]
 (conv => whnf); repeat ((first | (apply And.intro;· exact Cl4) | apply T1 | apply T2 | apply T3 | apply T4 | apply T6 | apply T5); conv => whnf)
 refine parse_spec hF wBytes 1 _ (Or.inl rfl) (by decide) _ (fun e he _ => by rw [w_parse] at he; cases he) (fun p lf2 lc2 z1 z2 hp hp2 => ?_)
 obtain rfl : ofP wOne = p := by rw [w_parse] at hp; cases hp; rfl
 (conv => whnf); repeat ((first | (apply And.intro;· exact Cl4) | apply T1 | apply T2 | apply T3 | apply T4 | apply T6 | apply T5); conv => whnf)
 refine small_spec _ (fun lf3 lc3 hp3 => ?_)
 (conv => whnf); repeat ((first | (apply And.intro;· exact Cl4) | apply T1 | apply T2 | apply T3 | apply T4 | apply T6 | apply T5); conv => whnf)
 refine find_spec (ofP wOne) [109, 97, 105, 110] 4 lf3 _ 5 lc3 _ hp3 _ ?_
 (conv => whnf); repeat ((first | (apply And.intro;· exact Cl4) | apply T1 | apply T2 | apply T3 | apply T4 | apply T6 | apply T5); conv => whnf)
 refine small_spec _ (fun lf4 lc4 hp4 => ?_)
 (conv => whnf); repeat ((first | (apply And.intro;· exact Cl4) | apply T1 | apply T2 | apply T3 | apply T4 | apply T6 | apply T5); conv => whnf)
 refine moves_spec (ofP wOne) ⟨20, 3, 0⟩ 4 lf4 _ 5 lc4 _ hp4 _ ?_
 (conv => whnf); repeat ((first | (apply And.intro;· exact Cl4) | apply T1 | apply T2 | apply T3 | apply T4 | apply T6 | apply T5); conv => whnf)
 (conv => whnf); repeat' (first | ((first | (apply And.intro;· exact Cl4) | apply T1 | apply T2 | apply T3 | apply T4 | apply T6 | apply T5); conv => whnf) | (refine small_spec _ (fun lf5 lc5 hp5 => ?_); conv => whnf) | ((refine eq_spec wBytes wBytes 1 1 _ _ _ _ (Or.inl rfl) (Or.inl rfl) (by decide) _ ?_; rw [beq_self_eq_true]); conv => whnf) | (refine hS (ofP wOne) _ _ _ _ _ _ _ _ _ _ _ _ hp2 (by assumption) _ ?_; conv => whnf) | ((refine chk_spec hF (ofP wOne) _ _ _ _ _ _ (by assumption) _ ?_; rw [w_chk]); conv => whnf) | (refine plain_spec _ _ ?_; conv => whnf) | ((refine Both.mk ?_ ?_ <;> fail_if_success (intro _)) <;> conv => whnf))
 all_goals exact h
end Go.Vc
namespace Go.Vc
open Go Go.Proofs
set_option maxRecDepth 100000
mutual
theorem writeV_size : ∀ v : V, (writeV v).length + 1 ≤ 20 * sizeV v
 | .mk k n s l ns => by
  have := writeVs_size (k == 5) l ns
  simp only [writeV, sizeV]
  split
  ·simp [be8_len]; omega
  ·split
   ·simp; omega
   ·split
    ·simp [countedB]; omega
    ·split
     ·simp; omega
     ·simp; omega
theorem writeVs_size : ∀ (r : Bool) (l : List V) (ns : List (List UInt8)), (writeVs r l ns).length ≤ 20 * sizeVs l + nsLen ns
 | _, [], _ => by simp [writeVs]
 | r, v :: l, [] => by
  have := writeV_size v
  have := writeVs_size r l []
  simp only [writeVs, sizeVs, List.length_append, List.headD_nil, List.tail_nil] at *
  cases r <;> simp [countedB] at * <;> omega
 | r, v :: l, s :: ns => by
  have := writeV_size v
  have := writeVs_size r l ns
  simp only [writeVs, sizeVs, nsLen, List.length_append, List.headD_cons, List.tail_cons] at *
  cases r <;> simp [countedB] at * <;> omega
end
theorem may_write {v : V} (h : mayV v = true) : (writeV v).length ≤ 5200 := by
 have := (okV_iff.1 h).1.2
 have := writeV_size v
 omega
theorem flat_le {α : Type} {w : α → List UInt8} {B : Nat} : ∀ {l : List α}, (∀ x ∈ l, (w x).length ≤ B) → (l.flatMap w).length ≤ l.length * B
 | [], _ => by simp
 | x :: r, h => by
  have h1 := h x (by simp)
  have h2 := flat_le (l := r) fun y hy => h y (by simp [hy])
  rw [List.flatMap_cons, List.length_append, List.length_cons, Nat.succ_mul]
  omega
theorem bytesM_len {p : PG} (hc : chkM p = 0) : (bytesM p).length ≤ 2000000 := by
 have hm := chk_may hc
 obtain ⟨h256, hv⟩ := chk_consts hc
 have h1 := flat_le (w := writeV) (B := 5200) fun v hvm => may_write (hv v hvm)
 have h2 : (p.funcs.flatMap funB).length ≤ p.funcs.length * 3000 := flat_le fun f hf => by
  obtain ⟨b1, _⟩ := head_b (hm.head f hf)
  have := hm.len f hf
  rw [funB, List.length_append, insB_len]
  simp only [headB, twoB, List.length_append, List.length_cons, List.length_nil]
  omega
 have h16 := hm.few
 have e1 : p.consts.length * 5200 ≤ 256 * 5200 := Nat.mul_le_mul_right _ h256
 have e2 : p.funcs.length * 3000 ≤ 16 * 3000 := Nat.mul_le_mul_right _ h16
 simp only [bytesM, bytesI, constsB, List.take_length, twoB, List.length_append, List.length_cons, List.length_nil]
 omega
end Go.Vc
