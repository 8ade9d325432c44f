/- What is proved here: contracts of functions of the program: of each function what it hands back and what it leaves in memory. Conditions: those that each theorem names. -/
import Derived.Test.YthhokabbanhllaaGreatDoorTBr
import Derived.Test.YthhokabbanhllaaGreatDoorTBl
import Derived.Test.YthhokabbanhllaaGreatDoorTBs
set_option linter.unusedVariables false
set_option linter.unusedSimpArgs false
set_option linter.unusedSectionVars false
namespace Go.Vc
open Go Go.Proofs
set_option maxRecDepth 100000
theorem copyT_spec (ns : List (List UInt8)) (z : Nat) (t : Bool) (hz : z = 1 ∨ ns = []) (hl : ns.length ≤ 1000000000000) (Post : PV → List (Nat × Blk) → Prop) (h : Post (.sl 1 (strs ns) false true) []) : Spec K 30 [.sl z (strs ns) t true] [] Post := by
 refine is30.specW K_ok K_mix false (by simp) (by simp [keys]) ?_
 have hsl : (strs ns).length = ns.length := strs_len ns
 have hfl : ∀ u ∈ strs ns, u.cells.length = 1 ∧ u.cells.all PV.flat = true := fun u hu => by
  obtain ⟨_, _, rfl⟩ := List.mem_map.1 hu
  exact ⟨rfl, rfl⟩
 have hzs : z = 1 ∨ strs ns = [] := hz.imp id fun h => by rw [h]; rfl
 (conv => whnf); repeat ((first | (apply And.intro;· exact Cl4) | apply T1 | apply T2 | apply T3 | apply T4 | apply T6 | apply T5); conv => whnf)
 refine ⟨by rw [hsl]; show ns.length * 17 ≤ _; omega, ?_⟩
 (conv => whnf); repeat ((first | (apply And.intro;· exact Cl4) | apply T1 | apply T2 | apply T3 | apply T4 | apply T6 | apply T5); conv => whnf)
 rw [List.drop_zero, List.take_length]
 exact h
def inv43s0a (k n : Int) (s : List UInt8) (ns : List (List UInt8)) (z1 : Nat) (lp : List PV) (t1 : Bool) (z2 : Nat) (t2 : Bool) : St := ⟨34, [(2, .ptr 1 0), (1, .ptr 0 0), (5, .ptr 0 0), (7, .ptr 0 1), (9, .ptr 0 2), (11, .ptr 0 4)], [(0, .box [.int .i64 k, .int .i64 n, .str s, .sl z1 lp t1 true, .sl z2 (strs ns) t2 true]), (1, .box [.int .i64 0, .int .i64 0, .str [], .sl 0 [] true false, .sl 0 [] true false])], []⟩
def inv43s1a (k n : Int) (s : List UInt8) (ns : List (List UInt8)) (z1 : Nat) (lp : List PV) (t1 : Bool) (z2 : Nat) (t2 : Bool) : St := ⟨34, [(2, .ptr 1 0), (1, .ptr 0 0), (7, .ptr 0 1), (9, .ptr 0 2), (11, .ptr 0 4), (6, .int .i64 k)], [(0, .box [.int .i64 k, .int .i64 n, .str s, .sl z1 lp t1 true, .sl z2 (strs ns) t2 true]), (1, .box [.int .i64 0, .int .i64 0, .str [], .sl 0 [] true false, .sl 0 [] true false])], []⟩
def inv43s2a (k n : Int) (s : List UInt8) (ns : List (List UInt8)) (z1 : Nat) (lp : List PV) (t1 : Bool) (z2 : Nat) (t2 : Bool) : St := ⟨34, [(2, .ptr 1 0), (1, .ptr 0 0), (5, .ptr 0 0), (9, .ptr 0 2), (11, .ptr 0 4), (8, .int .i64 n)], [(0, .box [.int .i64 k, .int .i64 n, .str s, .sl z1 lp t1 true, .sl z2 (strs ns) t2 true]), (1, .box [.int .i64 0, .int .i64 0, .str [], .sl 0 [] true false, .sl 0 [] true false])], []⟩
def inv43s3a (k n : Int) (s : List UInt8) (ns : List (List UInt8)) (z1 : Nat) (lp : List PV) (t1 : Bool) (z2 : Nat) (t2 : Bool) : St := ⟨34, [(2, .ptr 1 0), (1, .ptr 0 0), (5, .ptr 0 0), (7, .ptr 0 1), (11, .ptr 0 4), (10, .str s)], [(0, .box [.int .i64 k, .int .i64 n, .str s, .sl z1 lp t1 true, .sl z2 (strs ns) t2 true]), (1, .box [.int .i64 0, .int .i64 0, .str [], .sl 0 [] true false, .sl 0 [] true false])], []⟩
def inv43s4a (k n : Int) (s : List UInt8) (ns : List (List UInt8)) (z1 : Nat) (lp : List PV) (t1 : Bool) (z2 : Nat) (t2 : Bool) : St := ⟨34, [(2, .ptr 1 0), (1, .ptr 0 0), (5, .ptr 0 0), (7, .ptr 0 1), (9, .ptr 0 2), (12, .sl z2 (strs ns) t2 true)], [(0, .box [.int .i64 k, .int .i64 n, .str s, .sl z1 lp t1 true, .sl z2 (strs ns) t2 true]), (1, .box [.int .i64 0, .int .i64 0, .str [], .sl 0 [] true false, .sl 0 [] true false])], []⟩
def inv43s5a (k n : Int) (s : List UInt8) (ns : List (List UInt8)) (z1 : Nat) (lp : List PV) (t1 : Bool) (z2 : Nat) (t2 : Bool) : St := ⟨34, [(2, .ptr 1 0), (1, .ptr 0 0), (5, .ptr 0 0), (7, .ptr 0 1), (9, .ptr 0 2), (11, .ptr 0 4), (3, .ptr 2 0)], [(0, .box [.int .i64 k, .int .i64 n, .str s, .sl z1 lp t1 true, .sl z2 (strs ns) t2 true]), (1, .box [.int .i64 0, .int .i64 0, .str [], .sl 0 [] true false, .sl 0 [] true false]), (2, .box [.int .i64 0, .int .i64 0, .str [], .sl 0 [] true false, .sl 0 [] true false])], []⟩
def inv43s6a (k n : Int) (s : List UInt8) (ns : List (List UInt8)) (z1 : Nat) (lp : List PV) (t1 : Bool) (z2 : Nat) (t2 : Bool) : St := ⟨34, [(2, .ptr 1 0), (1, .ptr 0 0), (9, .ptr 0 2), (11, .ptr 0 4), (6, .int .i64 k), (8, .int .i64 n)], [(0, .box [.int .i64 k, .int .i64 n, .str s, .sl z1 lp t1 true, .sl z2 (strs ns) t2 true]), (1, .box [.int .i64 0, .int .i64 0, .str [], .sl 0 [] true false, .sl 0 [] true false])], []⟩
def inv43s7a (k n : Int) (s : List UInt8) (ns : List (List UInt8)) (z1 : Nat) (lp : List PV) (t1 : Bool) (z2 : Nat) (t2 : Bool) : St := ⟨34, [(2, .ptr 1 0), (1, .ptr 0 0), (7, .ptr 0 1), (11, .ptr 0 4), (6, .int .i64 k), (10, .str s)], [(0, .box [.int .i64 k, .int .i64 n, .str s, .sl z1 lp t1 true, .sl z2 (strs ns) t2 true]), (1, .box [.int .i64 0, .int .i64 0, .str [], .sl 0 [] true false, .sl 0 [] true false])], []⟩
def inv43s8a (k n : Int) (s : List UInt8) (ns : List (List UInt8)) (z1 : Nat) (lp : List PV) (t1 : Bool) (z2 : Nat) (t2 : Bool) : St := ⟨34, [(2, .ptr 1 0), (1, .ptr 0 0), (7, .ptr 0 1), (9, .ptr 0 2), (6, .int .i64 k), (12, .sl z2 (strs ns) t2 true)], [(0, .box [.int .i64 k, .int .i64 n, .str s, .sl z1 lp t1 true, .sl z2 (strs ns) t2 true]), (1, .box [.int .i64 0, .int .i64 0, .str [], .sl 0 [] true false, .sl 0 [] true false])], []⟩
def inv43s9a (k n : Int) (s : List UInt8) (ns : List (List UInt8)) (z1 : Nat) (lp : List PV) (t1 : Bool) (z2 : Nat) (t2 : Bool) : St := ⟨34, [(2, .ptr 1 0), (1, .ptr 0 0), (7, .ptr 0 1), (9, .ptr 0 2), (11, .ptr 0 4), (6, .int .i64 k), (3, .ptr 2 0)], [(0, .box [.int .i64 k, .int .i64 n, .str s, .sl z1 lp t1 true, .sl z2 (strs ns) t2 true]), (1, .box [.int .i64 0, .int .i64 0, .str [], .sl 0 [] true false, .sl 0 [] true false]), (2, .box [.int .i64 0, .int .i64 0, .str [], .sl 0 [] true false, .sl 0 [] true false])], []⟩
def inv43s10a (k n : Int) (s : List UInt8) (ns : List (List UInt8)) (z1 : Nat) (lp : List PV) (t1 : Bool) (z2 : Nat) (t2 : Bool) : St := ⟨34, [(2, .ptr 1 0), (1, .ptr 0 0), (5, .ptr 0 0), (11, .ptr 0 4), (8, .int .i64 n), (10, .str s)], [(0, .box [.int .i64 k, .int .i64 n, .str s, .sl z1 lp t1 true, .sl z2 (strs ns) t2 true]), (1, .box [.int .i64 0, .int .i64 0, .str [], .sl 0 [] true false, .sl 0 [] true false])], []⟩
def inv43s11a (k n : Int) (s : List UInt8) (ns : List (List UInt8)) (z1 : Nat) (lp : List PV) (t1 : Bool) (z2 : Nat) (t2 : Bool) : St := ⟨34, [(2, .ptr 1 0), (1, .ptr 0 0), (5, .ptr 0 0), (9, .ptr 0 2), (8, .int .i64 n), (12, .sl z2 (strs ns) t2 true)], [(0, .box [.int .i64 k, .int .i64 n, .str s, .sl z1 lp t1 true, .sl z2 (strs ns) t2 true]), (1, .box [.int .i64 0, .int .i64 0, .str [], .sl 0 [] true false, .sl 0 [] true false])], []⟩
def inv43s12a (k n : Int) (s : List UInt8) (ns : List (List UInt8)) (z1 : Nat) (lp : List PV) (t1 : Bool) (z2 : Nat) (t2 : Bool) : St := ⟨34, [(2, .ptr 1 0), (1, .ptr 0 0), (5, .ptr 0 0), (9, .ptr 0 2), (11, .ptr 0 4), (8, .int .i64 n), (3, .ptr 2 0)], [(0, .box [.int .i64 k, .int .i64 n, .str s, .sl z1 lp t1 true, .sl z2 (strs ns) t2 true]), (1, .box [.int .i64 0, .int .i64 0, .str [], .sl 0 [] true false, .sl 0 [] true false]), (2, .box [.int .i64 0, .int .i64 0, .str [], .sl 0 [] true false, .sl 0 [] true false])], []⟩
def inv43s13a (k n : Int) (s : List UInt8) (ns : List (List UInt8)) (z1 : Nat) (lp : List PV) (t1 : Bool) (z2 : Nat) (t2 : Bool) : St := ⟨34, [(2, .ptr 1 0), (1, .ptr 0 0), (5, .ptr 0 0), (7, .ptr 0 1), (10, .str s), (12, .sl z2 (strs ns) t2 true)], [(0, .box [.int .i64 k, .int .i64 n, .str s, .sl z1 lp t1 true, .sl z2 (strs ns) t2 true]), (1, .box [.int .i64 0, .int .i64 0, .str [], .sl 0 [] true false, .sl 0 [] true false])], []⟩
def inv43s14a (k n : Int) (s : List UInt8) (ns : List (List UInt8)) (z1 : Nat) (lp : List PV) (t1 : Bool) (z2 : Nat) (t2 : Bool) : St := ⟨34, [(2, .ptr 1 0), (1, .ptr 0 0), (5, .ptr 0 0), (7, .ptr 0 1), (11, .ptr 0 4), (10, .str s), (3, .ptr 2 0)], [(0, .box [.int .i64 k, .int .i64 n, .str s, .sl z1 lp t1 true, .sl z2 (strs ns) t2 true]), (1, .box [.int .i64 0, .int .i64 0, .str [], .sl 0 [] true false, .sl 0 [] true false]), (2, .box [.int .i64 0, .int .i64 0, .str [], .sl 0 [] true false, .sl 0 [] true false])], []⟩
def inv43s15a (k n : Int) (s : List UInt8) (ns : List (List UInt8)) (z1 : Nat) (lp : List PV) (t1 : Bool) (z2 : Nat) (t2 : Bool) : St := ⟨34, [(2, .ptr 1 0), (1, .ptr 0 0), (5, .ptr 0 0), (7, .ptr 0 1), (9, .ptr 0 2), (13, .sl 1 (strs ns) false true)], [(0, .box [.int .i64 k, .int .i64 n, .str s, .sl z1 lp t1 true, .sl z2 (strs ns) t2 true]), (1, .box [.int .i64 0, .int .i64 0, .str [], .sl 0 [] true false, .sl 0 [] true false])], []⟩
def inv43s16a (k n : Int) (s : List UInt8) (ns : List (List UInt8)) (z1 : Nat) (lp : List PV) (t1 : Bool) (z2 : Nat) (t2 : Bool) : St := ⟨34, [(2, .ptr 1 0), (1, .ptr 0 0), (5, .ptr 0 0), (7, .ptr 0 1), (9, .ptr 0 2), (12, .sl z2 (strs ns) t2 true), (3, .ptr 2 0)], [(0, .box [.int .i64 k, .int .i64 n, .str s, .sl z1 lp t1 true, .sl z2 (strs ns) t2 true]), (1, .box [.int .i64 0, .int .i64 0, .str [], .sl 0 [] true false, .sl 0 [] true false]), (2, .box [.int .i64 0, .int .i64 0, .str [], .sl 0 [] true false, .sl 0 [] true false])], []⟩
def inv43s17a (k n : Int) (s : List UInt8) (ns : List (List UInt8)) (z1 : Nat) (lp : List PV) (t1 : Bool) (z2 : Nat) (t2 : Bool) : St := ⟨34, [(2, .ptr 1 0), (1, .ptr 0 0), (11, .ptr 0 4), (6, .int .i64 k), (8, .int .i64 n), (10, .str s)], [(0, .box [.int .i64 k, .int .i64 n, .str s, .sl z1 lp t1 true, .sl z2 (strs ns) t2 true]), (1, .box [.int .i64 0, .int .i64 0, .str [], .sl 0 [] true false, .sl 0 [] true false])], []⟩
def inv43s18a (k n : Int) (s : List UInt8) (ns : List (List UInt8)) (z1 : Nat) (lp : List PV) (t1 : Bool) (z2 : Nat) (t2 : Bool) : St := ⟨34, [(2, .ptr 1 0), (1, .ptr 0 0), (9, .ptr 0 2), (6, .int .i64 k), (8, .int .i64 n), (12, .sl z2 (strs ns) t2 true)], [(0, .box [.int .i64 k, .int .i64 n, .str s, .sl z1 lp t1 true, .sl z2 (strs ns) t2 true]), (1, .box [.int .i64 0, .int .i64 0, .str [], .sl 0 [] true false, .sl 0 [] true false])], []⟩
def inv43s19a (k n : Int) (s : List UInt8) (ns : List (List UInt8)) (z1 : Nat) (lp : List PV) (t1 : Bool) (z2 : Nat) (t2 : Bool) : St := ⟨34, [(2, .ptr 1 0), (1, .ptr 0 0), (9, .ptr 0 2), (11, .ptr 0 4), (6, .int .i64 k), (8, .int .i64 n), (3, .ptr 2 0)], [(0, .box [.int .i64 k, .int .i64 n, .str s, .sl z1 lp t1 true, .sl z2 (strs ns) t2 true]), (1, .box [.int .i64 0, .int .i64 0, .str [], .sl 0 [] true false, .sl 0 [] true false]), (2, .box [.int .i64 0, .int .i64 0, .str [], .sl 0 [] true false, .sl 0 [] true false])], []⟩
def inv43s20a (k n : Int) (s : List UInt8) (ns : List (List UInt8)) (z1 : Nat) (lp : List PV) (t1 : Bool) (z2 : Nat) (t2 : Bool) : St := ⟨34, [(2, .ptr 1 0), (1, .ptr 0 0), (7, .ptr 0 1), (6, .int .i64 k), (10, .str s), (12, .sl z2 (strs ns) t2 true)], [(0, .box [.int .i64 k, .int .i64 n, .str s, .sl z1 lp t1 true, .sl z2 (strs ns) t2 true]), (1, .box [.int .i64 0, .int .i64 0, .str [], .sl 0 [] true false, .sl 0 [] true false])], []⟩
def inv43s21a (k n : Int) (s : List UInt8) (ns : List (List UInt8)) (z1 : Nat) (lp : List PV) (t1 : Bool) (z2 : Nat) (t2 : Bool) : St := ⟨34, [(2, .ptr 1 0), (1, .ptr 0 0), (7, .ptr 0 1), (11, .ptr 0 4), (6, .int .i64 k), (10, .str s), (3, .ptr 2 0)], [(0, .box [.int .i64 k, .int .i64 n, .str s, .sl z1 lp t1 true, .sl z2 (strs ns) t2 true]), (1, .box [.int .i64 0, .int .i64 0, .str [], .sl 0 [] true false, .sl 0 [] true false]), (2, .box [.int .i64 0, .int .i64 0, .str [], .sl 0 [] true false, .sl 0 [] true false])], []⟩
def inv43s22a (k n : Int) (s : List UInt8) (ns : List (List UInt8)) (z1 : Nat) (lp : List PV) (t1 : Bool) (z2 : Nat) (t2 : Bool) : St := ⟨34, [(2, .ptr 1 0), (1, .ptr 0 0), (7, .ptr 0 1), (9, .ptr 0 2), (6, .int .i64 k), (13, .sl 1 (strs ns) false true)], [(0, .box [.int .i64 k, .int .i64 n, .str s, .sl z1 lp t1 true, .sl z2 (strs ns) t2 true]), (1, .box [.int .i64 0, .int .i64 0, .str [], .sl 0 [] true false, .sl 0 [] true false])], []⟩
def inv43s23a (k n : Int) (s : List UInt8) (ns : List (List UInt8)) (z1 : Nat) (lp : List PV) (t1 : Bool) (z2 : Nat) (t2 : Bool) : St := ⟨34, [(2, .ptr 1 0), (1, .ptr 0 0), (7, .ptr 0 1), (9, .ptr 0 2), (6, .int .i64 k), (12, .sl z2 (strs ns) t2 true), (3, .ptr 2 0)], [(0, .box [.int .i64 k, .int .i64 n, .str s, .sl z1 lp t1 true, .sl z2 (strs ns) t2 true]), (1, .box [.int .i64 0, .int .i64 0, .str [], .sl 0 [] true false, .sl 0 [] true false]), (2, .box [.int .i64 0, .int .i64 0, .str [], .sl 0 [] true false, .sl 0 [] true false])], []⟩
def inv43s24a (k n : Int) (s : List UInt8) (ns : List (List UInt8)) (z1 : Nat) (lp : List PV) (t1 : Bool) (z2 : Nat) (t2 : Bool) : St := ⟨34, [(2, .ptr 1 0), (1, .ptr 0 0), (5, .ptr 0 0), (8, .int .i64 n), (10, .str s), (12, .sl z2 (strs ns) t2 true)], [(0, .box [.int .i64 k, .int .i64 n, .str s, .sl z1 lp t1 true, .sl z2 (strs ns) t2 true]), (1, .box [.int .i64 0, .int .i64 0, .str [], .sl 0 [] true false, .sl 0 [] true false])], []⟩
def inv43s25a (k n : Int) (s : List UInt8) (ns : List (List UInt8)) (z1 : Nat) (lp : List PV) (t1 : Bool) (z2 : Nat) (t2 : Bool) : St := ⟨34, [(2, .ptr 1 0), (1, .ptr 0 0), (5, .ptr 0 0), (11, .ptr 0 4), (8, .int .i64 n), (10, .str s), (3, .ptr 2 0)], [(0, .box [.int .i64 k, .int .i64 n, .str s, .sl z1 lp t1 true, .sl z2 (strs ns) t2 true]), (1, .box [.int .i64 0, .int .i64 0, .str [], .sl 0 [] true false, .sl 0 [] true false]), (2, .box [.int .i64 0, .int .i64 0, .str [], .sl 0 [] true false, .sl 0 [] true false])], []⟩
def inv43s26a (k n : Int) (s : List UInt8) (ns : List (List UInt8)) (z1 : Nat) (lp : List PV) (t1 : Bool) (z2 : Nat) (t2 : Bool) : St := ⟨34, [(2, .ptr 1 0), (1, .ptr 0 0), (5, .ptr 0 0), (9, .ptr 0 2), (8, .int .i64 n), (13, .sl 1 (strs ns) false true)], [(0, .box [.int .i64 k, .int .i64 n, .str s, .sl z1 lp t1 true, .sl z2 (strs ns) t2 true]), (1, .box [.int .i64 0, .int .i64 0, .str [], .sl 0 [] true false, .sl 0 [] true false])], []⟩
def inv43s27a (k n : Int) (s : List UInt8) (ns : List (List UInt8)) (z1 : Nat) (lp : List PV) (t1 : Bool) (z2 : Nat) (t2 : Bool) : St := ⟨34, [(2, .ptr 1 0), (1, .ptr 0 0), (5, .ptr 0 0), (9, .ptr 0 2), (8, .int .i64 n), (12, .sl z2 (strs ns) t2 true), (3, .ptr 2 0)], [(0, .box [.int .i64 k, .int .i64 n, .str s, .sl z1 lp t1 true, .sl z2 (strs ns) t2 true]), (1, .box [.int .i64 0, .int .i64 0, .str [], .sl 0 [] true false, .sl 0 [] true false]), (2, .box [.int .i64 0, .int .i64 0, .str [], .sl 0 [] true false, .sl 0 [] true false])], []⟩
def inv43s28a (k n : Int) (s : List UInt8) (ns : List (List UInt8)) (z1 : Nat) (lp : List PV) (t1 : Bool) (z2 : Nat) (t2 : Bool) : St := ⟨34, [(2, .ptr 1 0), (1, .ptr 0 0), (5, .ptr 0 0), (7, .ptr 0 1), (10, .str s), (13, .sl 1 (strs ns) false true)], [(0, .box [.int .i64 k, .int .i64 n, .str s, .sl z1 lp t1 true, .sl z2 (strs ns) t2 true]), (1, .box [.int .i64 0, .int .i64 0, .str [], .sl 0 [] true false, .sl 0 [] true false])], []⟩
def inv43s29a (k n : Int) (s : List UInt8) (ns : List (List UInt8)) (z1 : Nat) (lp : List PV) (t1 : Bool) (z2 : Nat) (t2 : Bool) : St := ⟨34, [(2, .ptr 1 0), (1, .ptr 0 0), (5, .ptr 0 0), (7, .ptr 0 1), (10, .str s), (12, .sl z2 (strs ns) t2 true), (3, .ptr 2 0)], [(0, .box [.int .i64 k, .int .i64 n, .str s, .sl z1 lp t1 true, .sl z2 (strs ns) t2 true]), (1, .box [.int .i64 0, .int .i64 0, .str [], .sl 0 [] true false, .sl 0 [] true false]), (2, .box [.int .i64 0, .int .i64 0, .str [], .sl 0 [] true false, .sl 0 [] true false])], []⟩
def inv43s30a (k n : Int) (s : List UInt8) (ns : List (List UInt8)) (z1 : Nat) (lp : List PV) (t1 : Bool) (z2 : Nat) (t2 : Bool) : St := ⟨34, [(2, .ptr 1 0), (1, .ptr 0 0), (5, .ptr 0 0), (7, .ptr 0 1), (9, .ptr 0 2), (13, .sl 1 (strs ns) false true), (3, .ptr 2 0)], [(0, .box [.int .i64 k, .int .i64 n, .str s, .sl z1 lp t1 true, .sl z2 (strs ns) t2 true]), (1, .box [.int .i64 0, .int .i64 0, .str [], .sl 0 [] true false, .sl 0 [] true false]), (2, .box [.int .i64 0, .int .i64 0, .str [], .sl 0 [] true false, .sl 0 [] true false])], []⟩
def inv43s31a (k n : Int) (s : List UInt8) (ns : List (List UInt8)) (z1 : Nat) (lp : List PV) (t1 : Bool) (z2 : Nat) (t2 : Bool) : St := ⟨34, [(2, .ptr 1 0), (1, .ptr 0 0), (6, .int .i64 k), (8, .int .i64 n), (10, .str s), (12, .sl z2 (strs ns) t2 true)], [(0, .box [.int .i64 k, .int .i64 n, .str s, .sl z1 lp t1 true, .sl z2 (strs ns) t2 true]), (1, .box [.int .i64 0, .int .i64 0, .str [], .sl 0 [] true false, .sl 0 [] true false])], []⟩
def inv43s32a (k n : Int) (s : List UInt8) (ns : List (List UInt8)) (z1 : Nat) (lp : List PV) (t1 : Bool) (z2 : Nat) (t2 : Bool) : St := ⟨34, [(2, .ptr 1 0), (1, .ptr 0 0), (11, .ptr 0 4), (6, .int .i64 k), (8, .int .i64 n), (10, .str s), (3, .ptr 2 0)], [(0, .box [.int .i64 k, .int .i64 n, .str s, .sl z1 lp t1 true, .sl z2 (strs ns) t2 true]), (1, .box [.int .i64 0, .int .i64 0, .str [], .sl 0 [] true false, .sl 0 [] true false]), (2, .box [.int .i64 0, .int .i64 0, .str [], .sl 0 [] true false, .sl 0 [] true false])], []⟩
def inv43s33a (k n : Int) (s : List UInt8) (ns : List (List UInt8)) (z1 : Nat) (lp : List PV) (t1 : Bool) (z2 : Nat) (t2 : Bool) : St := ⟨34, [(2, .ptr 1 0), (1, .ptr 0 0), (9, .ptr 0 2), (6, .int .i64 k), (8, .int .i64 n), (13, .sl 1 (strs ns) false true)], [(0, .box [.int .i64 k, .int .i64 n, .str s, .sl z1 lp t1 true, .sl z2 (strs ns) t2 true]), (1, .box [.int .i64 0, .int .i64 0, .str [], .sl 0 [] true false, .sl 0 [] true false])], []⟩
def inv43s34a (k n : Int) (s : List UInt8) (ns : List (List UInt8)) (z1 : Nat) (lp : List PV) (t1 : Bool) (z2 : Nat) (t2 : Bool) : St := ⟨34, [(2, .ptr 1 0), (1, .ptr 0 0), (9, .ptr 0 2), (6, .int .i64 k), (8, .int .i64 n), (12, .sl z2 (strs ns) t2 true), (3, .ptr 2 0)], [(0, .box [.int .i64 k, .int .i64 n, .str s, .sl z1 lp t1 true, .sl z2 (strs ns) t2 true]), (1, .box [.int .i64 0, .int .i64 0, .str [], .sl 0 [] true false, .sl 0 [] true false]), (2, .box [.int .i64 0, .int .i64 0, .str [], .sl 0 [] true false, .sl 0 [] true false])], []⟩
def inv43s35a (k n : Int) (s : List UInt8) (ns : List (List UInt8)) (z1 : Nat) (lp : List PV) (t1 : Bool) (z2 : Nat) (t2 : Bool) : St := ⟨34, [(2, .ptr 1 0), (1, .ptr 0 0), (7, .ptr 0 1), (6, .int .i64 k), (10, .str s), (13, .sl 1 (strs ns) false true)], [(0, .box [.int .i64 k, .int .i64 n, .str s, .sl z1 lp t1 true, .sl z2 (strs ns) t2 true]), (1, .box [.int .i64 0, .int .i64 0, .str [], .sl 0 [] true false, .sl 0 [] true false])], []⟩
def inv43s36a (k n : Int) (s : List UInt8) (ns : List (List UInt8)) (z1 : Nat) (lp : List PV) (t1 : Bool) (z2 : Nat) (t2 : Bool) : St := ⟨34, [(2, .ptr 1 0), (1, .ptr 0 0), (7, .ptr 0 1), (6, .int .i64 k), (10, .str s), (12, .sl z2 (strs ns) t2 true), (3, .ptr 2 0)], [(0, .box [.int .i64 k, .int .i64 n, .str s, .sl z1 lp t1 true, .sl z2 (strs ns) t2 true]), (1, .box [.int .i64 0, .int .i64 0, .str [], .sl 0 [] true false, .sl 0 [] true false]), (2, .box [.int .i64 0, .int .i64 0, .str [], .sl 0 [] true false, .sl 0 [] true false])], []⟩
def inv43s37a (k n : Int) (s : List UInt8) (ns : List (List UInt8)) (z1 : Nat) (lp : List PV) (t1 : Bool) (z2 : Nat) (t2 : Bool) : St := ⟨34, [(2, .ptr 1 0), (1, .ptr 0 0), (7, .ptr 0 1), (9, .ptr 0 2), (6, .int .i64 k), (13, .sl 1 (strs ns) false true), (3, .ptr 2 0)], [(0, .box [.int .i64 k, .int .i64 n, .str s, .sl z1 lp t1 true, .sl z2 (strs ns) t2 true]), (1, .box [.int .i64 0, .int .i64 0, .str [], .sl 0 [] true false, .sl 0 [] true false]), (2, .box [.int .i64 0, .int .i64 0, .str [], .sl 0 [] true false, .sl 0 [] true false])], []⟩
def inv43s38a (k n : Int) (s : List UInt8) (ns : List (List UInt8)) (z1 : Nat) (lp : List PV) (t1 : Bool) (z2 : Nat) (t2 : Bool) : St := ⟨34, [(2, .ptr 1 0), (1, .ptr 0 0), (5, .ptr 0 0), (8, .int .i64 n), (10, .str s), (13, .sl 1 (strs ns) false true)], [(0, .box [.int .i64 k, .int .i64 n, .str s, .sl z1 lp t1 true, .sl z2 (strs ns) t2 true]), (1, .box [.int .i64 0, .int .i64 0, .str [], .sl 0 [] true false, .sl 0 [] true false])], []⟩
def inv43s39a (k n : Int) (s : List UInt8) (ns : List (List UInt8)) (z1 : Nat) (lp : List PV) (t1 : Bool) (z2 : Nat) (t2 : Bool) : St := ⟨34, [(2, .ptr 1 0), (1, .ptr 0 0), (5, .ptr 0 0), (8, .int .i64 n), (10, .str s), (12, .sl z2 (strs ns) t2 true), (3, .ptr 2 0)], [(0, .box [.int .i64 k, .int .i64 n, .str s, .sl z1 lp t1 true, .sl z2 (strs ns) t2 true]), (1, .box [.int .i64 0, .int .i64 0, .str [], .sl 0 [] true false, .sl 0 [] true false]), (2, .box [.int .i64 0, .int .i64 0, .str [], .sl 0 [] true false, .sl 0 [] true false])], []⟩
def inv43s40a (k n : Int) (s : List UInt8) (ns : List (List UInt8)) (z1 : Nat) (lp : List PV) (t1 : Bool) (z2 : Nat) (t2 : Bool) : St := ⟨34, [(2, .ptr 1 0), (1, .ptr 0 0), (5, .ptr 0 0), (9, .ptr 0 2), (8, .int .i64 n), (13, .sl 1 (strs ns) false true), (3, .ptr 2 0)], [(0, .box [.int .i64 k, .int .i64 n, .str s, .sl z1 lp t1 true, .sl z2 (strs ns) t2 true]), (1, .box [.int .i64 0, .int .i64 0, .str [], .sl 0 [] true false, .sl 0 [] true false]), (2, .box [.int .i64 0, .int .i64 0, .str [], .sl 0 [] true false, .sl 0 [] true false])], []⟩
def inv43s41a (k n : Int) (s : List UInt8) (ns : List (List UInt8)) (z1 : Nat) (lp : List PV) (t1 : Bool) (z2 : Nat) (t2 : Bool) : St := ⟨34, [(2, .ptr 1 0), (1, .ptr 0 0), (5, .ptr 0 0), (7, .ptr 0 1), (10, .str s), (13, .sl 1 (strs ns) false true), (3, .ptr 2 0)], [(0, .box [.int .i64 k, .int .i64 n, .str s, .sl z1 lp t1 true, .sl z2 (strs ns) t2 true]), (1, .box [.int .i64 0, .int .i64 0, .str [], .sl 0 [] true false, .sl 0 [] true false]), (2, .box [.int .i64 0, .int .i64 0, .str [], .sl 0 [] true false, .sl 0 [] true false])], []⟩
def inv43s42a (k n : Int) (s : List UInt8) (ns : List (List UInt8)) (z1 : Nat) (lp : List PV) (t1 : Bool) (z2 : Nat) (t2 : Bool) : St := ⟨34, [(2, .ptr 1 0), (1, .ptr 0 0), (6, .int .i64 k), (8, .int .i64 n), (10, .str s), (13, .sl 1 (strs ns) false true)], [(0, .box [.int .i64 k, .int .i64 n, .str s, .sl z1 lp t1 true, .sl z2 (strs ns) t2 true]), (1, .box [.int .i64 0, .int .i64 0, .str [], .sl 0 [] true false, .sl 0 [] true false])], []⟩
def inv43s43a (k n : Int) (s : List UInt8) (ns : List (List UInt8)) (z1 : Nat) (lp : List PV) (t1 : Bool) (z2 : Nat) (t2 : Bool) : St := ⟨34, [(2, .ptr 1 0), (1, .ptr 0 0), (6, .int .i64 k), (8, .int .i64 n), (10, .str s), (12, .sl z2 (strs ns) t2 true), (3, .ptr 2 0)], [(0, .box [.int .i64 k, .int .i64 n, .str s, .sl z1 lp t1 true, .sl z2 (strs ns) t2 true]), (1, .box [.int .i64 0, .int .i64 0, .str [], .sl 0 [] true false, .sl 0 [] true false]), (2, .box [.int .i64 0, .int .i64 0, .str [], .sl 0 [] true false, .sl 0 [] true false])], []⟩
def inv43s44a (k n : Int) (s : List UInt8) (ns : List (List UInt8)) (z1 : Nat) (lp : List PV) (t1 : Bool) (z2 : Nat) (t2 : Bool) : St := ⟨34, [(2, .ptr 1 0), (1, .ptr 0 0), (9, .ptr 0 2), (6, .int .i64 k), (8, .int .i64 n), (13, .sl 1 (strs ns) false true), (3, .ptr 2 0)], [(0, .box [.int .i64 k, .int .i64 n, .str s, .sl z1 lp t1 true, .sl z2 (strs ns) t2 true]), (1, .box [.int .i64 0, .int .i64 0, .str [], .sl 0 [] true false, .sl 0 [] true false]), (2, .box [.int .i64 0, .int .i64 0, .str [], .sl 0 [] true false, .sl 0 [] true false])], []⟩
def inv43s45a (k n : Int) (s : List UInt8) (ns : List (List UInt8)) (z1 : Nat) (lp : List PV) (t1 : Bool) (z2 : Nat) (t2 : Bool) : St := ⟨34, [(2, .ptr 1 0), (1, .ptr 0 0), (7, .ptr 0 1), (6, .int .i64 k), (10, .str s), (13, .sl 1 (strs ns) false true), (3, .ptr 2 0)], [(0, .box [.int .i64 k, .int .i64 n, .str s, .sl z1 lp t1 true, .sl z2 (strs ns) t2 true]), (1, .box [.int .i64 0, .int .i64 0, .str [], .sl 0 [] true false, .sl 0 [] true false]), (2, .box [.int .i64 0, .int .i64 0, .str [], .sl 0 [] true false, .sl 0 [] true false])], []⟩
def inv43s46a (k n : Int) (s : List UInt8) (ns : List (List UInt8)) (z1 : Nat) (lp : List PV) (t1 : Bool) (z2 : Nat) (t2 : Bool) : St := ⟨34, [(2, .ptr 1 0), (1, .ptr 0 0), (5, .ptr 0 0), (8, .int .i64 n), (10, .str s), (13, .sl 1 (strs ns) false true), (3, .ptr 2 0)], [(0, .box [.int .i64 k, .int .i64 n, .str s, .sl z1 lp t1 true, .sl z2 (strs ns) t2 true]), (1, .box [.int .i64 0, .int .i64 0, .str [], .sl 0 [] true false, .sl 0 [] true false]), (2, .box [.int .i64 0, .int .i64 0, .str [], .sl 0 [] true false, .sl 0 [] true false])], []⟩
def inv43s47a (k n : Int) (s : List UInt8) (ns : List (List UInt8)) (z1 : Nat) (lp : List PV) (t1 : Bool) (z2 : Nat) (t2 : Bool) : St := ⟨34, [(2, .ptr 1 0), (1, .ptr 0 0), (14, .agg [.int .i64 k, .int .i64 n, .str s, .sl 0 [] true false, .sl 1 (strs ns) false true])], [(0, .box [.int .i64 k, .int .i64 n, .str s, .sl z1 lp t1 true, .sl z2 (strs ns) t2 true]), (1, .box [.int .i64 0, .int .i64 0, .str [], .sl 0 [] true false, .sl 0 [] true false])], []⟩
def inv43s48a (k n : Int) (s : List UInt8) (ns : List (List UInt8)) (z1 : Nat) (lp : List PV) (t1 : Bool) (z2 : Nat) (t2 : Bool) : St := ⟨34, [(2, .ptr 1 0), (1, .ptr 0 0), (6, .int .i64 k), (8, .int .i64 n), (10, .str s), (13, .sl 1 (strs ns) false true), (3, .ptr 2 0)], [(0, .box [.int .i64 k, .int .i64 n, .str s, .sl z1 lp t1 true, .sl z2 (strs ns) t2 true]), (1, .box [.int .i64 0, .int .i64 0, .str [], .sl 0 [] true false, .sl 0 [] true false]), (2, .box [.int .i64 0, .int .i64 0, .str [], .sl 0 [] true false, .sl 0 [] true false])], []⟩
def inv43s49a (k n : Int) (s : List UInt8) (ns : List (List UInt8)) (z1 : Nat) (lp : List PV) (t1 : Bool) (z2 : Nat) (t2 : Bool) : St := ⟨34, [(2, .ptr 1 0), (1, .ptr 0 0), (14, .agg [.int .i64 k, .int .i64 n, .str s, .sl 0 [] true false, .sl 1 (strs ns) false true]), (3, .ptr 2 0)], [(0, .box [.int .i64 k, .int .i64 n, .str s, .sl z1 lp t1 true, .sl z2 (strs ns) t2 true]), (1, .box [.int .i64 0, .int .i64 0, .str [], .sl 0 [] true false, .sl 0 [] true false]), (2, .box [.int .i64 0, .int .i64 0, .str [], .sl 0 [] true false, .sl 0 [] true false])], []⟩
def inv43 (k n : Int) (s : List UInt8) (ns : List (List UInt8)) (z1 : Nat) (lp : List PV) (t1 : Bool) (z2 : Nat) (t2 : Bool) : Nat → St → Prop
 | 0, st_ => st_ = inv43s0a k n s ns z1 lp t1 z2 t2
 | 1, st_ => st_ = inv43s1a k n s ns z1 lp t1 z2 t2
 | 2, st_ => st_ = inv43s2a k n s ns z1 lp t1 z2 t2
 | 3, st_ => st_ = inv43s3a k n s ns z1 lp t1 z2 t2
 | 4, st_ => st_ = inv43s4a k n s ns z1 lp t1 z2 t2
 | 5, st_ => st_ = inv43s5a k n s ns z1 lp t1 z2 t2
 | 6, st_ => st_ = inv43s6a k n s ns z1 lp t1 z2 t2
 | 7, st_ => st_ = inv43s7a k n s ns z1 lp t1 z2 t2
 | 8, st_ => st_ = inv43s8a k n s ns z1 lp t1 z2 t2
 | 9, st_ => st_ = inv43s9a k n s ns z1 lp t1 z2 t2
 | 10, st_ => st_ = inv43s10a k n s ns z1 lp t1 z2 t2
 | 11, st_ => st_ = inv43s11a k n s ns z1 lp t1 z2 t2
 | 12, st_ => st_ = inv43s12a k n s ns z1 lp t1 z2 t2
 | 13, st_ => st_ = inv43s13a k n s ns z1 lp t1 z2 t2
 | 14, st_ => st_ = inv43s14a k n s ns z1 lp t1 z2 t2
 | 15, st_ => st_ = inv43s15a k n s ns z1 lp t1 z2 t2
 | 16, st_ => st_ = inv43s16a k n s ns z1 lp t1 z2 t2
 | 17, st_ => st_ = inv43s17a k n s ns z1 lp t1 z2 t2
 | 18, st_ => st_ = inv43s18a k n s ns z1 lp t1 z2 t2
 | 19, st_ => st_ = inv43s19a k n s ns z1 lp t1 z2 t2
 | 20, st_ => st_ = inv43s20a k n s ns z1 lp t1 z2 t2
 | 21, st_ => st_ = inv43s21a k n s ns z1 lp t1 z2 t2
 | 22, st_ => st_ = inv43s22a k n s ns z1 lp t1 z2 t2
 | 23, st_ => st_ = inv43s23a k n s ns z1 lp t1 z2 t2
 | 24, st_ => st_ = inv43s24a k n s ns z1 lp t1 z2 t2
 | 25, st_ => st_ = inv43s25a k n s ns z1 lp t1 z2 t2
 | 26, st_ => st_ = inv43s26a k n s ns z1 lp t1 z2 t2
 | 27, st_ => st_ = inv43s27a k n s ns z1 lp t1 z2 t2
 | 28, st_ => st_ = inv43s28a k n s ns z1 lp t1 z2 t2
 | 29, st_ => st_ = inv43s29a k n s ns z1 lp t1 z2 t2
 | 30, st_ => st_ = inv43s30a k n s ns z1 lp t1 z2 t2
 | 31, st_ => st_ = inv43s31a k n s ns z1 lp t1 z2 t2
 | 32, st_ => st_ = inv43s32a k n s ns z1 lp t1 z2 t2
 | 33, st_ => st_ = inv43s33a k n s ns z1 lp t1 z2 t2
 | 34, st_ => st_ = inv43s34a k n s ns z1 lp t1 z2 t2
 | 35, st_ => st_ = inv43s35a k n s ns z1 lp t1 z2 t2
 | 36, st_ => st_ = inv43s36a k n s ns z1 lp t1 z2 t2
 | 37, st_ => st_ = inv43s37a k n s ns z1 lp t1 z2 t2
 | 38, st_ => st_ = inv43s38a k n s ns z1 lp t1 z2 t2
 | 39, st_ => st_ = inv43s39a k n s ns z1 lp t1 z2 t2
 | 40, st_ => st_ = inv43s40a k n s ns z1 lp t1 z2 t2
 | 41, st_ => st_ = inv43s41a k n s ns z1 lp t1 z2 t2
 | 42, st_ => st_ = inv43s42a k n s ns z1 lp t1 z2 t2
 | 43, st_ => st_ = inv43s43a k n s ns z1 lp t1 z2 t2
 | 44, st_ => st_ = inv43s44a k n s ns z1 lp t1 z2 t2
 | 45, st_ => st_ = inv43s45a k n s ns z1 lp t1 z2 t2
 | 46, st_ => st_ = inv43s46a k n s ns z1 lp t1 z2 t2
 | 47, st_ => st_ = inv43s47a k n s ns z1 lp t1 z2 t2
 | 48, st_ => st_ = inv43s48a k n s ns z1 lp t1 z2 t2
 | 49, st_ => st_ = inv43s49a k n s ns z1 lp t1 z2 t2
 | _, _ => False
theorem Nd {p : Prop} (h : p := by (conv => whnf); repeat' (first | exact trivial | exact ⟨[], _, rfl, mR⟩ | ((refine And.intro ?_ ?_; focus exact Cl4); conv => whnf) | (refine copyT_spec _ _ _ (by assumption) (by assumption) _ ?_; conv => whnf) | (refine Both.mk ?_ ?_ <;> conv => whnf))) : p := h
def CopyC (v : V) : Prop := ∀ (z1 : Nat) (lp : List PV) (t1 : Bool) (z2 : Nat) (t2 : Bool), VA v z1 lp z2 → ∀ Post : PV → List (Nat × Blk) → Prop, (∀ y1 mp y2, VO v y1 mp y2 → Post (.agg (vc v y1 mp false y2 false)) []) → Spec K 8 [.agg (vc v z1 lp t1 z2 t2)] [] Post
set_option maxHeartbeats 32000000 in
theorem copy_step (k n : Int) (s : List UInt8) (l : List V) (ns : List (List UInt8)) (ih : ∀ v ∈ l, CopyC v) : CopyC (.mk k n s l ns) := by
 intro z1 lp t1 z2 t2 a Post h
 have hz2 : z2 = 1 ∨ ns = [] := a.z2
 have hab := a.b
 have hl2 : ns.length ≤ 1000000000000 := by
  have := (nsBulk_le ns).2
  simp only [bulkV] at hab
  omega
 refine is8p.specC [22] K_ok K_mix false (by simp) (by simp [keys]) ?_
 (conv => whnf); repeat ((first | (apply And.intro;· exact Cl4) | apply T1 | apply T2 | apply T3 | apply T4 | apply T6 | apply T5); conv => whnf)
 refine ⟨inv43 k n s ns z1 lp t1 z2 t2, ⟨[], _, rfl, ?_⟩, ?_, fun st hs => ?_⟩
 ·refine meetsR rfl (by repeat (first | exact trivial | refine ⟨rfl, ?_⟩)) (by repeat (first | exact trivial | refine ⟨rfl, ?_⟩)) rfl rfl rfl rfl
 ·(conv => whnf)
  refine And.intro (fun s hs => ?_) ?_
  ·simp only [inv43] at hs
   obtain rfl := hs
   unfold inv43s0a
   exact Nd
  conv => whnf
  refine And.intro (fun s hs => ?_) ?_
  ·simp only [inv43] at hs
   obtain rfl := hs
   unfold inv43s1a
   exact Nd
  conv => whnf
  refine And.intro (fun s hs => ?_) ?_
  ·simp only [inv43] at hs
   obtain rfl := hs
   unfold inv43s2a
   exact Nd
  conv => whnf
  refine And.intro (fun s hs => ?_) ?_
  ·simp only [inv43] at hs
   obtain rfl := hs
   unfold inv43s3a
   exact Nd
  conv => whnf
  refine And.intro (fun s hs => ?_) ?_
  ·simp only [inv43] at hs
   obtain rfl := hs
   unfold inv43s4a
   exact Nd
  conv => whnf
  refine And.intro (fun s hs => ?_) ?_
  ·simp only [inv43] at hs
   obtain rfl := hs
   unfold inv43s5a
   exact Nd
  conv => whnf
  refine And.intro (fun s hs => ?_) ?_
  ·simp only [inv43] at hs
   obtain rfl := hs
   unfold inv43s6a
   exact Nd
  conv => whnf
  refine And.intro (fun s hs => ?_) ?_
  ·simp only [inv43] at hs
   obtain rfl := hs
   unfold inv43s7a
   exact Nd
  conv => whnf
  refine And.intro (fun s hs => ?_) ?_
  ·simp only [inv43] at hs
   obtain rfl := hs
   unfold inv43s8a
   exact Nd
  conv => whnf
  refine And.intro (fun s hs => ?_) ?_
  ·simp only [inv43] at hs
   obtain rfl := hs
   unfold inv43s9a
   exact Nd
  conv => whnf
  refine And.intro (fun s hs => ?_) ?_
  ·simp only [inv43] at hs
   obtain rfl := hs
   unfold inv43s10a
   exact Nd
  conv => whnf
  refine And.intro (fun s hs => ?_) ?_
  ·simp only [inv43] at hs
   obtain rfl := hs
   unfold inv43s11a
   exact Nd
  conv => whnf
  refine And.intro (fun s hs => ?_) ?_
  ·simp only [inv43] at hs
   obtain rfl := hs
   unfold inv43s12a
   exact Nd
  conv => whnf
  refine And.intro (fun s hs => ?_) ?_
  ·simp only [inv43] at hs
   obtain rfl := hs
   unfold inv43s13a
   exact Nd
  conv => whnf
  refine And.intro (fun s hs => ?_) ?_
  ·simp only [inv43] at hs
   obtain rfl := hs
   unfold inv43s14a
   exact Nd
  conv => whnf
  refine And.intro (fun s hs => ?_) ?_
  ·simp only [inv43] at hs
   obtain rfl := hs
   unfold inv43s15a
   exact Nd
  conv => whnf
  refine And.intro (fun s hs => ?_) ?_
  ·simp only [inv43] at hs
   obtain rfl := hs
   unfold inv43s16a
   exact Nd
  conv => whnf
  refine And.intro (fun s hs => ?_) ?_
  ·simp only [inv43] at hs
   obtain rfl := hs
   unfold inv43s17a
   exact Nd
  conv => whnf
  refine And.intro (fun s hs => ?_) ?_
  ·simp only [inv43] at hs
   obtain rfl := hs
   unfold inv43s18a
   exact Nd
  conv => whnf
  refine And.intro (fun s hs => ?_) ?_
  ·simp only [inv43] at hs
   obtain rfl := hs
   unfold inv43s19a
   exact Nd
  conv => whnf
  refine And.intro (fun s hs => ?_) ?_
  ·simp only [inv43] at hs
   obtain rfl := hs
   unfold inv43s20a
   exact Nd
  conv => whnf
  refine And.intro (fun s hs => ?_) ?_
  ·simp only [inv43] at hs
   obtain rfl := hs
   unfold inv43s21a
   exact Nd
  conv => whnf
  refine And.intro (fun s hs => ?_) ?_
  ·simp only [inv43] at hs
   obtain rfl := hs
   unfold inv43s22a
   exact Nd
  conv => whnf
  refine And.intro (fun s hs => ?_) ?_
  ·simp only [inv43] at hs
   obtain rfl := hs
   unfold inv43s23a
   exact Nd
  conv => whnf
  refine And.intro (fun s hs => ?_) ?_
  ·simp only [inv43] at hs
   obtain rfl := hs
   unfold inv43s24a
   exact Nd
  conv => whnf
  refine And.intro (fun s hs => ?_) ?_
  ·simp only [inv43] at hs
   obtain rfl := hs
   unfold inv43s25a
   exact Nd
  conv => whnf
  refine And.intro (fun s hs => ?_) ?_
  ·simp only [inv43] at hs
   obtain rfl := hs
   unfold inv43s26a
   exact Nd
  conv => whnf
  refine And.intro (fun s hs => ?_) ?_
  ·simp only [inv43] at hs
   obtain rfl := hs
   unfold inv43s27a
   exact Nd
  conv => whnf
  refine And.intro (fun s hs => ?_) ?_
  ·simp only [inv43] at hs
   obtain rfl := hs
   unfold inv43s28a
   exact Nd
  conv => whnf
  refine And.intro (fun s hs => ?_) ?_
  ·simp only [inv43] at hs
   obtain rfl := hs
   unfold inv43s29a
   exact Nd
  conv => whnf
  refine And.intro (fun s hs => ?_) ?_
  ·simp only [inv43] at hs
   obtain rfl := hs
   unfold inv43s30a
   exact Nd
  conv => whnf
  refine And.intro (fun s hs => ?_) ?_
  ·simp only [inv43] at hs
   obtain rfl := hs
   unfold inv43s31a
   exact Nd
  conv => whnf
  refine And.intro (fun s hs => ?_) ?_
  ·simp only [inv43] at hs
   obtain rfl := hs
   unfold inv43s32a
   exact Nd
  conv => whnf
  refine And.intro (fun s hs => ?_) ?_
  ·simp only [inv43] at hs
   obtain rfl := hs
   unfold inv43s33a
   exact Nd
  conv => whnf
  refine And.intro (fun s hs => ?_) ?_
  ·simp only [inv43] at hs
   obtain rfl := hs
   unfold inv43s34a
   exact Nd
  conv => whnf
  refine And.intro (fun s hs => ?_) ?_
  ·simp only [inv43] at hs
   obtain rfl := hs
   unfold inv43s35a
   exact Nd
  conv => whnf
  refine And.intro (fun s hs => ?_) ?_
  ·simp only [inv43] at hs
   obtain rfl := hs
   unfold inv43s36a
   exact Nd
  conv => whnf
  refine And.intro (fun s hs => ?_) ?_
  ·simp only [inv43] at hs
   obtain rfl := hs
   unfold inv43s37a
   exact Nd
  conv => whnf
  refine And.intro (fun s hs => ?_) ?_
  ·simp only [inv43] at hs
   obtain rfl := hs
   unfold inv43s38a
   exact Nd
  conv => whnf
  refine And.intro (fun s hs => ?_) ?_
  ·simp only [inv43] at hs
   obtain rfl := hs
   unfold inv43s39a
   exact Nd
  conv => whnf
  refine And.intro (fun s hs => ?_) ?_
  ·simp only [inv43] at hs
   obtain rfl := hs
   unfold inv43s40a
   exact Nd
  conv => whnf
  refine And.intro (fun s hs => ?_) ?_
  ·simp only [inv43] at hs
   obtain rfl := hs
   unfold inv43s41a
   exact Nd
  conv => whnf
  refine And.intro (fun s hs => ?_) ?_
  ·simp only [inv43] at hs
   obtain rfl := hs
   unfold inv43s42a
   exact Nd
  conv => whnf
  refine And.intro (fun s hs => ?_) ?_
  ·simp only [inv43] at hs
   obtain rfl := hs
   unfold inv43s43a
   exact Nd
  conv => whnf
  refine And.intro (fun s hs => ?_) ?_
  ·simp only [inv43] at hs
   obtain rfl := hs
   unfold inv43s44a
   exact Nd
  conv => whnf
  refine And.intro (fun s hs => ?_) ?_
  ·simp only [inv43] at hs
   obtain rfl := hs
   unfold inv43s45a
   exact Nd
  conv => whnf
  refine And.intro (fun s hs => ?_) ?_
  ·simp only [inv43] at hs
   obtain rfl := hs
   unfold inv43s46a
   exact Nd
  conv => whnf
  refine And.intro (fun s hs => ?_) ?_
  ·simp only [inv43] at hs
   obtain rfl := hs
   unfold inv43s47a
   exact Nd
  conv => whnf
  refine And.intro (fun s hs => ?_) ?_
  ·simp only [inv43] at hs
   obtain rfl := hs
   unfold inv43s48a
   exact Nd
  conv => whnf
  refine And.intro (fun s hs => ?_) ?_
  ·simp only [inv43] at hs
   obtain rfl := hs
   unfold inv43s49a
   exact Nd
  conv => whnf
  exact trivial
 ·simp only [inv43, List.length_cons, List.length_nil] at hs
  subst hs
  unfold inv43s49a
  have e1 := VPs_len a.l
  have hz1 : z1 = 5 ∨ lp = [] := a.z1.imp id fun h => by
   have h : l = [] := h
   rw [show (V.mk k n s l ns).l = l from rfl, h] at e1
   exact List.length_eq_zero_iff.1 e1
  have e1 : lp.length = l.length := e1
  have hll : l.length ≤ 100000000000 := by
   have h1 := len_sizeVs l
   have h2 := sizes_bulk l
   simp only [bulkV] at hab
   omega
  (conv => whnf); repeat ((first | (apply And.intro;· exact Cl4) | apply T1 | apply T2 | apply T3 | apply T4 | apply T6 | apply T5); conv => whnf)
  refine ⟨Nat × List PV, fun x => ⟨34, [(4, .int .i64 x.1), (3, .ptr 2 0), (2, .ptr 1 0), (1, .ptr 0 0)], [(0, .box [.int .i64 k, .int .i64 n, .str s, .sl z1 lp t1 true, .sl z2 (strs ns) t2 true]), (1, .box [.int .i64 0, .int .i64 0, .str [], .sl 0 [] true false, .sl 0 [] true false]), (2, .box [.int .i64 k, .int .i64 n, .str s, .ref 5 3 0 x.1, .sl 1 (strs ns) false true]), (3, .row 25 5 x.2 true)], []⟩, fun x => x.1 ≤ l.length ∧ VPs (l.take x.1) x.2, fun x => l.length - x.1, ⟨[.cell 2 3 25, .age 3], (0, []), ⟨Nat.zero_le _, rfl⟩, ?_⟩, fun x hI => ?_⟩
  ·simp [meets, ghosts, ghost, St.le, St.get, St.put, look, keys, PV.labs, labsL, lookB, Blk.labs, fresh, updB, nth]
   exact rfl
  ·obtain ⟨i, M⟩ := x
   obtain ⟨hi, hM⟩ := hI
   simp only at hi hM
   have hMl : M.length = i := by rw [VPs_len hM, List.length_take]; omega
   conv => (arg 5; dsimp only)
   (conv => whnf); repeat ((first | (apply And.intro;· exact Cl4) | apply T1 | apply T2 | apply T3 | apply T4 | apply T6 | apply T5); conv => whnf)
   rw [e1]
   by_cases hix : i < l.length
   ·rw [decide_eq_true (show (i : Int) < (l.length : Int) by omega)]
    have hm := List.getElem_mem hix
    have hc := ih _ hm
    obtain ⟨x1, bp, v1, u1, x2, v2, u2, hq, hv, r1, r2, r3⟩ := (VPs_nth a.l (i := i) hix).out
    have hq : nth lp (Int.toNat (i : Int)) = .agg [.int .i64 l[i].k, .int .i64 l[i].n, .str l[i].s, .sl x1 bp v1 u1, .sl x2 (strs l[i].ns) v2 u2] := by rw [Int.toNat_natCast]; exact hq
    have hbm : bulkV l[i] ≤ 100000000000 := by
     have h1 := bulkVs_mem hix
     simp only [bulkV] at hab
     omega
    have hva : VA l[i] x1 bp x2 := ⟨hv, r1, r2, r3, hbm⟩
    have htk : l.take (i + 1) = l.take i ++ [l[i]] := List.take_succ_eq_append_getElem hix
    generalize l[i] = w at *
    (conv => whnf); repeat ((first | (apply And.intro;· exact Cl4) | apply T1 | apply T2 | apply T3 | apply T4 | apply T6 | apply T5); conv => whnf)
    refine ⟨PV, fun R => ⟨34, [(4, .int .i64 i), (3, .ptr 2 0), (2, .ptr 1 0), (1, .ptr 0 0)], [(0, .box [.int .i64 k, .int .i64 n, .str s, .sl z1 lp t1 true, .sl z2 (strs ns) t2 true]), (1, .box [.int .i64 0, .int .i64 0, .str [], .sl 0 [] true false, .sl 0 [] true false]), (2, .box [.int .i64 k, .int .i64 n, .str s, .ref 5 3 0 (i + 1), .sl 1 (strs ns) false true]), (3, .row 25 5 (M ++ [R]) true)], []⟩, fun R => VP w R, ?_, fun R hR => ?_⟩
    ·have htM : List.take i M = M := List.take_of_length_le (by omega)
     (conv => whnf); repeat' (first | ((first | (apply And.intro;· exact Cl4) | apply T1 | apply T2 | apply T3 | apply T4 | apply T6 | apply T5); conv => whnf) | (rw [hq]; conv => whnf) | (refine hc x1 bp _ x2 _ hva _ (fun y1 mp y2 hvo => ?_); conv => whnf) | ((refine ⟨by show (i + 1) * 81 ≤ _; omega, ?_⟩); conv => whnf) | ((refine Both.mk ?_ ?_ <;> fail_if_success (intro _)) <;> conv => whnf))
     all_goals (
      refine ⟨[], .agg (vc w y1 mp false y2 false), hvo.vp false false, ?_⟩
      simp [meets, ghosts, St.le, St.get, look, keys, PV.labs, labsL, lookB, Blk.labs, vc, htM])
    conv => (arg 4; dsimp only)
    (conv => whnf); repeat ((first | (apply And.intro;· exact Cl4) | apply T1 | apply T2 | apply T3 | apply T4 | apply T6 | apply T5); conv => whnf)
    rw [wrap64 (n := (i : Int) + 1) (by omega) (by omega)]
    refine ⟨[], (i + 1, M ++ [R]), ⟨hix, by show VPs (l.take (i + 1)) (M ++ [R]); rw [htk]; exact VPs_snoc hM hR⟩, by show l.length - (i + 1) < l.length - i; omega, ?_⟩
    simp [meets, ghosts, St.le, St.get, look, keys, PV.labs, labsL, lookB, Blk.labs]
   ·obtain rfl : i = l.length := by omega
    rw [decide_eq_false (show ¬ (l.length : Int) < (l.length : Int) by omega)]
    (conv => whnf); repeat ((first | (apply And.intro;· exact Cl4) | apply T1 | apply T2 | apply T3 | apply T4 | apply T6 | apply T5); conv => whnf)
    have htM : List.take l.length (List.drop 0 M) = M := by rw [List.drop_zero, List.take_of_length_le (by omega)]
    rw [htM]
    rw [List.take_length] at hM
    exact h 5 M 1 ⟨hM, .inl rfl, .inl rfl, a.n⟩
theorem copy_all : ∀ (m : Nat) (v : V), bulkV v ≤ m → CopyC v
 | 0, v, h => by have := bulkV_pos v; omega
 | m + 1, .mk k n s l ns, h => copy_step k n s l ns fun v hv => copy_all m v (by
   obtain ⟨i, hi, rfl⟩ := List.getElem_of_mem hv
   have := bulkVs_mem hi
   simp only [bulkV] at h
   omega)
theorem copyV_spec (v : V) : CopyC v := copy_all _ v (Nat.le_refl _)
end Go.Vc
