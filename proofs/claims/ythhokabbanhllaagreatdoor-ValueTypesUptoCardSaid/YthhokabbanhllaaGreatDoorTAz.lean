/- What is proved here: contracts of functions of the program: of each function what it hands back and what it leaves in memory. Conditions: those that each theorem names. -/
import Derived.Lib.Bytealg
import Derived.Test.YthhokabbanhllaaGreatDoorTAj
import Derived.Test.YthhokabbanhllaaGreatDoorTAp
set_option linter.unusedVariables false
set_option linter.unusedSimpArgs false
set_option linter.unusedSectionVars false
namespace Go.Vc
open Go Go.Proofs
set_option maxRecDepth 100000
theorem ixb_spec (s : List UInt8) (c : UInt8) (Post : PV → List (Nat × Blk) → Prop) (h : Post (.int .i64 (Lib.indexByte s c)) []) : Spec K 126 [.str s, .int .u8 c.toNat] [] Post := by
 refine ⟨fun w Z φ vs hbef o a next Q hn => ?_⟩
 obtain ⟨h1, h2, h3, h4, h5⟩ := hbef
 match vs, h1 with
 | [x0, x1], _ =>
  have e0 := h2 0 _ _ rfl rfl
  have e1 := (h2 1 _ _ rfl rfl).int_inv
  obtain ⟨u, rfl, hu⟩ := e0.str_inv
  subst e1
  rw [run_callFunc_extern (P := K.P) Tryz.func126 (by kernel_rfl) (by kernel_rfl) (by kernel_rfl) (e := Extern.BytealgIndexByte.indexByte) (by kernel_rfl)]
  rw [Lib.run_indexByteString, hu]
  have hc : (c.toNat : Int).toNat.toUInt8 = c := by
   rw [Int.toNat_natCast]
   exact UInt8.ofNat_toNat
  rw [hc]
  exact hn _ _ ⟨_, _, φ, Z, h, .int _ _, h3, fun i hi => (by cases hi), h4, fun b hb => .inl hb, fun b hb => hb, ⟨rfl, rfl, rfl, Nat.le_refl _, fun _ _ _ => rfl, fun b cs T hb => ⟨cs, hb, rfl⟩⟩⟩
theorem ixb2_spec (s : List UInt8) (c : UInt8) (Post : PV → List (Nat × Blk) → Prop) (h : Post (.int .i64 (Lib.indexByte s c)) []) : Spec K 120 [.str s, .int .u8 c.toNat] [] Post := by
 refine is120.specW K_ok K_mix false (by simp) (by simp [keys]) ?_
 (conv => whnf); repeat ((first | (apply And.intro;· exact Cl4) | apply T1 | apply T2 | apply T3 | apply T4 | apply T6 | apply T5); conv => whnf)
 refine ixb_spec s c _ ?_
 (conv => whnf); repeat ((first | (apply And.intro;· exact Cl4) | apply T1 | apply T2 | apply T3 | apply T4 | apply T6 | apply T5); conv => whnf)
 exact h
def colon (s : List UInt8) : Int := Lib.indexByte s 58
theorem index_spec (s : List UInt8) (Post : PV → List (Nat × Blk) → Prop) (h : Post (.int .i64 (colon s)) []) : Spec K 114 [.str s, .str [58]] [] Post := by
 refine is114.specW K_ok K_mix false (by simp) (by simp [keys]) ?_
 (conv => whnf); repeat ((first | (apply And.intro;· exact Cl4) | apply T1 | apply T2 | apply T3 | apply T4 | apply T6 | apply T5); conv => whnf)
 refine Both.mk (fun hc => ?_) (fun hc => ?_)
 ·have hs : s = [58] := by have := hc; simp at this; exact this.symm
  subst hs
  (conv => whnf); repeat ((first | (apply And.intro;· exact Cl4) | apply T1 | apply T2 | apply T3 | apply T4 | apply T6 | apply T5); conv => whnf)
  exact h
 ·(conv => whnf); repeat ((first | (apply And.intro;· exact Cl4) | apply T1 | apply T2 | apply T3 | apply T4 | apply T6 | apply T5); conv => whnf)
  refine ixb2_spec s 58 _ ?_
  (conv => whnf); repeat ((first | (apply And.intro;· exact Cl4) | apply T1 | apply T2 | apply T3 | apply T4 | apply T6 | apply T5); conv => whnf)
  exact h
theorem colon_le (s : List UInt8) : colon s < s.length := by
 unfold colon
 induction s with
 | nil => decide
 | cons b l ih =>
  unfold Lib.indexByte
  split
  ·simp
  ·split
   ·simp only [List.length_cons]; omega
   ·simp only [List.length_cons]; omega
def cutM (s : List UInt8) : List UInt8 × List UInt8 × Bool := if 0 ≤ colon s then (s.take (colon s).toNat, s.drop ((colon s).toNat + 1), true) else (s, [], false)
theorem cutI_spec (s : List UInt8) (hs : s.length ≤ 1000000000) (Post : PV → List (Nat × Blk) → Prop) (h : Post (.tup [.str (cutM s).1, .str (cutM s).2.1, .bool (cutM s).2.2]) []) : Spec K 107 [.str s, .str [58]] [] Post := by
 refine is107.specW K_ok K_mix false (by simp) (by simp [keys]) ?_
 have hl := colon_le s
 (conv => whnf); repeat ((first | (apply And.intro;· exact Cl4) | apply T1 | apply T2 | apply T3 | apply T4 | apply T6 | apply T5); conv => whnf)
 refine index_spec s _ ?_
 unfold cutM at h
 by_cases h0 : 0 ≤ colon s
 ·rw [if_pos h0] at h
  (conv => whnf); repeat ((first | (apply And.intro;· exact Cl4) | apply T1 | apply T2 | apply T3 | apply T4 | apply T6 | apply T5); conv => whnf)
  rw [decide_eq_true h0]
  (conv => whnf); repeat ((first | (apply And.intro;· exact Cl4) | apply T1 | apply T2 | apply T3 | apply T4 | apply T6 | apply T5); conv => whnf)
  have hw : IntKind.i64.wrap (colon s + (([58] : List UInt8).length : Int)) = colon s + 1 := wrap64 (by omega) (by simp; omega)
  (conv => whnf); repeat' (first | ((first | (apply And.intro;· exact Cl4) | apply T1 | apply T2 | apply T3 | apply T4 | apply T6 | apply T5); conv => whnf) | (fail; conv => whnf) | ((refine Both.mk ?_ ?_ <;> fail_if_success (intro _)) <;> conv => whnf))
  rw [hw, List.drop_zero, List.take_length, show (colon s + 1).toNat = (colon s).toNat + 1 by omega]
  exact h
 ·rw [if_neg h0] at h
  (conv => whnf); repeat ((first | (apply And.intro;· exact Cl4) | apply T1 | apply T2 | apply T3 | apply T4 | apply T6 | apply T5); conv => whnf)
  rw [decide_eq_false h0]
  (conv => whnf); repeat ((first | (apply And.intro;· exact Cl4) | apply T1 | apply T2 | apply T3 | apply T4 | apply T6 | apply T5); conv => whnf)
  exact h
theorem cut_spec (s : List UInt8) (hs : s.length ≤ 1000000000) (Post : PV → List (Nat × Blk) → Prop) (h : Post (.tup [.str (cutM s).1, .str (cutM s).2.1, .bool (cutM s).2.2]) []) : Spec K 103 [.str s, .str [58]] [] Post := by
 refine is103.specW K_ok K_mix false (by simp) (by simp [keys]) ?_
 (conv => whnf); repeat ((first | (apply And.intro;· exact Cl4) | apply T1 | apply T2 | apply T3 | apply T4 | apply T6 | apply T5); conv => whnf)
 refine cutI_spec s hs _ ?_
 (conv => whnf); repeat ((first | (apply And.intro;· exact Cl4) | apply T1 | apply T2 | apply T3 | apply T4 | apply T6 | apply T5); conv => whnf)
 exact h
theorem pref_eq (q s : List UInt8) : (bif decide ((q.length : Int) ≤ s.length) then List.drop 0 (List.take ((q.length : Int)).toNat s) == q else false) = q.isPrefixOf s := by
 rw [List.drop_zero, Int.toNat_natCast, Bool.eq_iff_iff, List.isPrefixOf_iff_prefix, List.prefix_iff_eq_take]
 by_cases h : q.length ≤ s.length
 ·rw [decide_eq_true (show (q.length : Int) ≤ s.length by omega)]
  simp only [cond_true, beq_iff_eq]
  exact ⟨fun h => h.symm, fun h => h.symm⟩
 ·rw [decide_eq_false (show ¬ (q.length : Int) ≤ s.length by omega)]
  simp only [cond_false, Bool.false_eq_true, false_iff]
  intro he
  have := congrArg List.length he
  rw [List.length_take] at this
  omega
theorem prefI_spec (s q : List UInt8) (hs : s.length ≤ 1000000000) (hq : q.length ≤ 1000000000) (Post : PV → List (Nat × Blk) → Prop) (h : Post (.bool (q.isPrefixOf s)) []) : Spec K 101 [.str s, .str q] [] Post := by
 refine is101.specW K_ok K_mix false (by simp) (by simp [keys]) ?_
 (conv => whnf); repeat ((first | (apply And.intro;· exact Cl4) | apply T1 | apply T2 | apply T3 | apply T4 | apply T6 | apply T5); conv => whnf)
 rw [pref_eq]
 exact h
theorem pref_spec (s q : List UInt8) (hs : s.length ≤ 1000000000) (hq : q.length ≤ 1000000000) (Post : PV → List (Nat × Blk) → Prop) (h : Post (.bool (q.isPrefixOf s)) []) : Spec K 86 [.str s, .str q] [] Post := by
 refine is86.specW K_ok K_mix false (by simp) (by simp [keys]) ?_
 (conv => whnf); repeat ((first | (apply And.intro;· exact Cl4) | apply T1 | apply T2 | apply T3 | apply T4 | apply T6 | apply T5); conv => whnf)
 refine prefI_spec s q hs hq _ ?_
 (conv => whnf); repeat ((first | (apply And.intro;· exact Cl4) | apply T1 | apply T2 | apply T3 | apply T4 | apply T6 | apply T5); conv => whnf)
 exact h
def cutPre (q s : List UInt8) : List UInt8 × Bool := if q.isPrefixOf s then (s.drop q.length, true) else (s, false)
theorem cutPreI_spec (s q : List UInt8) (hs : s.length ≤ 1000000000) (hq : q.length ≤ 1000000000) (Post : PV → List (Nat × Blk) → Prop) (h : Post (.tup [.str (cutPre q s).1, .bool (cutPre q s).2]) []) : Spec K 102 [.str s, .str q] [] Post := by
 refine is102.specW K_ok K_mix false (by simp) (by simp [keys]) ?_
 (conv => whnf); repeat ((first | (apply And.intro;· exact Cl4) | apply T1 | apply T2 | apply T3 | apply T4 | apply T6 | apply T5); conv => whnf)
 refine prefI_spec s q hs hq _ ?_
 unfold cutPre at h
 cases hp : q.isPrefixOf s
 ·rw [hp] at h
  (conv => whnf); repeat ((first | (apply And.intro;· exact Cl4) | apply T1 | apply T2 | apply T3 | apply T4 | apply T6 | apply T5); conv => whnf)
  exact h
 ·rw [hp] at h
  have hl : q.length ≤ s.length := (List.isPrefixOf_iff_prefix.1 hp).length_le
  (conv => whnf); repeat ((first | (apply And.intro;· exact Cl4) | apply T1 | apply T2 | apply T3 | apply T4 | apply T6 | apply T5); conv => whnf)
  rw [List.take_length, Int.toNat_natCast]
  exact h
theorem cutPre_spec (s q : List UInt8) (hs : s.length ≤ 1000000000) (hq : q.length ≤ 1000000000) (Post : PV → List (Nat × Blk) → Prop) (h : Post (.tup [.str (cutPre q s).1, .bool (cutPre q s).2]) []) : Spec K 87 [.str s, .str q] [] Post := by
 refine is87.specW K_ok K_mix false (by simp) (by simp [keys]) ?_
 (conv => whnf); repeat ((first | (apply And.intro;· exact Cl4) | apply T1 | apply T2 | apply T3 | apply T4 | apply T6 | apply T5); conv => whnf)
 refine cutPreI_spec s q hs hq _ ?_
 (conv => whnf); repeat ((first | (apply And.intro;· exact Cl4) | apply T1 | apply T2 | apply T3 | apply T4 | apply T6 | apply T5); conv => whnf)
 exact h
def kindM (w : List UInt8) : Int :=
 if w = [110, 111, 110, 101] then 0 else if w = [105, 110, 116] then 1 else if w = [98, 111, 111, 108] then 2 else if w = [116, 101, 120, 116] then 3 else if w = [102, 117, 116, 117, 114, 101] then 6 else -1
theorem kind_spec (w : List UInt8) (Post : PV → List (Nat × Blk) → Prop) (h : Post (.int .i64 (kindM w)) []) : Spec K 89 [.str w] [] Post := by
 have key : ∀ u : Int, u = kindM w → Post (.int .i64 u) [] := fun u e => by rw [e]; exact h
 clear h
 refine is89.specW K_ok K_mix false (by simp) (by simp [keys]) ?_
 (conv => whnf); repeat' (first | ((first | (apply And.intro;· exact Cl4) | apply T1 | apply T2 | apply T3 | apply T4 | apply T6 | apply T5 | refine Both.T (by assumption) ?_ | refine Both.F (by assumption) ?_); conv => whnf) | (refine Both.mk (fun hb => ?_) (fun hb => ?_) <;> conv => whnf))
 all_goals (refine key _ ?_; unfold kindM; simp_all)
end Go.Vc
