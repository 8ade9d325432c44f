/- What is proved here: contracts of functions of the program: of each function what it hands back and what it leaves in memory. Conditions: those that each theorem names. -/
import Derived.Test.YtmbopgmllnijjaaQo
import Derived.Test.YtmbopgmllnijjaaFe
set_option linter.unusedVariables false
set_option linter.unusedSimpArgs false
set_option linter.unusedSectionVars false
namespace Go.Vc
open Go Go.Proofs
set_option maxRecDepth 100000
/-- The states of a drawn region, by what is done. -/
def inv18 (p0 : List PV) (f : FD) (z : Nat) (t : Bool) (L : List PV) (tl : Bool) (i : Nat) (op a b sh : Int) (y : Nat) (ts : List (Int × Int)) (u o : Bool) : Nat → St → Prop
  | 0, s => s = ⟨149, [(4, .ptr 0 0), (2, .sl 3 L tl true), (3, .int .i64 i), (8, .bool false), (15, .ptr 1 3), (17, .int .i64 i), (22, .ro [.bool true, .int .i64 sh, .sl y (tps ts) u o] 0 true)], [(0, .box p0), (1, .box (fdc f z t))], []⟩
  | 1, s => s = ⟨149, [(4, .ptr 0 0), (2, .sl 3 L tl true), (3, .int .i64 i), (8, .bool false), (17, .int .i64 i), (16, .sl z (f.code.map INP) t true), (22, .ro [.bool true, .int .i64 sh, .sl y (tps ts) u o] 0 true)], [(0, .box p0), (1, .box (fdc f z t))], []⟩
  | 2, s => s = ⟨149, [(4, .ptr 0 0), (2, .sl 3 L tl true), (3, .int .i64 i), (8, .bool false), (15, .ptr 1 3), (17, .int .i64 i), (23, .agg [.bool true, .int .i64 sh, .sl y (tps ts) u true])], [(0, .box p0), (1, .box (fdc f z t))], []⟩
  | 3, s => s = ⟨149, [(4, .ptr 0 0), (2, .sl 3 L tl true), (3, .int .i64 i), (8, .bool false), (15, .ptr 1 3), (17, .int .i64 i), (22, .ro [.bool true, .int .i64 sh, .sl y (tps ts) u o] 0 true), (9, .ptr 2 0)], [(2, .box [.int .i64 0, .int .i64 0, .int .i64 0]), (0, .box p0), (1, .box (fdc f z t))], []⟩
  | 4, s => s = ⟨149, [(4, .ptr 0 0), (2, .sl 3 L tl true), (3, .int .i64 i), (8, .bool false), (15, .ptr 1 3), (17, .int .i64 i), (22, .ro [.bool true, .int .i64 sh, .sl y (tps ts) u o] 0 true), (10, .ptr 2 0)], [(2, .box [.bool false, .int .i64 0, .sl 0 [] true false]), (0, .box p0), (1, .box (fdc f z t))], []⟩
  | 5, s => s = ⟨149, [(4, .ptr 0 0), (2, .sl 3 L tl true), (3, .int .i64 i), (8, .bool false), (18, .ro [.int .i64 op, .int .i64 a, .int .i64 b] 0 true), (22, .ro [.bool true, .int .i64 sh, .sl y (tps ts) u o] 0 true)], [(0, .box p0), (1, .box (fdc f z t))], []⟩
  | 6, s => s = ⟨149, [(4, .ptr 0 0), (2, .sl 3 L tl true), (3, .int .i64 i), (8, .bool false), (17, .int .i64 i), (16, .sl z (f.code.map INP) t true), (23, .agg [.bool true, .int .i64 sh, .sl y (tps ts) u true])], [(0, .box p0), (1, .box (fdc f z t))], []⟩
  | 7, s => s = ⟨149, [(4, .ptr 0 0), (2, .sl 3 L tl true), (3, .int .i64 i), (8, .bool false), (15, .ptr 1 3), (17, .int .i64 i), (23, .agg [.bool true, .int .i64 sh, .sl y (tps ts) u true]), (9, .ptr 2 0)], [(2, .box [.int .i64 0, .int .i64 0, .int .i64 0]), (0, .box p0), (1, .box (fdc f z t))], []⟩
  | 8, s => s = ⟨149, [(4, .ptr 0 0), (2, .sl 3 L tl true), (3, .int .i64 i), (8, .bool false), (15, .ptr 1 3), (17, .int .i64 i), (23, .agg [.bool true, .int .i64 sh, .sl y (tps ts) u true]), (10, .ptr 2 0)], [(2, .box [.bool false, .int .i64 0, .sl 0 [] true false]), (0, .box p0), (1, .box (fdc f z t))], []⟩
  | 9, s => s = ⟨149, [(4, .ptr 0 0), (2, .sl 3 L tl true), (3, .int .i64 i), (8, .bool false), (17, .int .i64 i), (16, .sl z (f.code.map INP) t true), (22, .ro [.bool true, .int .i64 sh, .sl y (tps ts) u o] 0 true), (9, .ptr 2 0)], [(2, .box [.int .i64 0, .int .i64 0, .int .i64 0]), (0, .box p0), (1, .box (fdc f z t))], []⟩
  | 10, s => s = ⟨149, [(4, .ptr 0 0), (2, .sl 3 L tl true), (3, .int .i64 i), (8, .bool false), (15, .ptr 1 3), (17, .int .i64 i), (22, .ro [.bool true, .int .i64 sh, .sl y (tps ts) u o] 0 true), (9, .ptr 2 0), (10, .ptr 3 0)], [(3, .box [.bool false, .int .i64 0, .sl 0 [] true false]), (2, .box [.int .i64 0, .int .i64 0, .int .i64 0]), (0, .box p0), (1, .box (fdc f z t))], []⟩ ∨ s = ⟨149, [(4, .ptr 0 0), (2, .sl 3 L tl true), (3, .int .i64 i), (8, .bool false), (15, .ptr 1 3), (17, .int .i64 i), (22, .ro [.bool true, .int .i64 sh, .sl y (tps ts) u o] 0 true), (9, .ptr 3 0), (10, .ptr 2 0)], [(2, .box [.bool false, .int .i64 0, .sl 0 [] true false]), (3, .box [.int .i64 0, .int .i64 0, .int .i64 0]), (0, .box p0), (1, .box (fdc f z t))], []⟩
  | 11, s => s = ⟨149, [(4, .ptr 0 0), (2, .sl 3 L tl true), (3, .int .i64 i), (8, .bool false), (17, .int .i64 i), (16, .sl z (f.code.map INP) t true), (22, .ro [.bool true, .int .i64 sh, .sl y (tps ts) u o] 0 true), (10, .ptr 2 0)], [(2, .box [.bool false, .int .i64 0, .sl 0 [] true false]), (0, .box p0), (1, .box (fdc f z t))], []⟩
  | 12, s => s = ⟨149, [(4, .ptr 0 0), (2, .sl 3 L tl true), (3, .int .i64 i), (8, .bool false), (19, .agg [.int .i64 op, .int .i64 a, .int .i64 b]), (22, .ro [.bool true, .int .i64 sh, .sl y (tps ts) u o] 0 true)], [(0, .box p0), (1, .box (fdc f z t))], []⟩
  | 13, s => s = ⟨149, [(4, .ptr 0 0), (2, .sl 3 L tl true), (3, .int .i64 i), (8, .bool false), (18, .ro [.int .i64 op, .int .i64 a, .int .i64 b] 0 true), (23, .agg [.bool true, .int .i64 sh, .sl y (tps ts) u true])], [(0, .box p0), (1, .box (fdc f z t))], []⟩
  | 14, s => s = ⟨149, [(4, .ptr 0 0), (2, .sl 3 L tl true), (3, .int .i64 i), (8, .bool false), (18, .ro [.int .i64 op, .int .i64 a, .int .i64 b] 0 true), (22, .ro [.bool true, .int .i64 sh, .sl y (tps ts) u o] 0 true), (9, .ptr 2 0)], [(2, .box [.int .i64 0, .int .i64 0, .int .i64 0]), (0, .box p0), (1, .box (fdc f z t))], []⟩
  | 15, s => s = ⟨149, [(4, .ptr 0 0), (2, .sl 3 L tl true), (3, .int .i64 i), (8, .bool false), (18, .ro [.int .i64 op, .int .i64 a, .int .i64 b] 0 true), (22, .ro [.bool true, .int .i64 sh, .sl y (tps ts) u o] 0 true), (10, .ptr 2 0)], [(2, .box [.bool false, .int .i64 0, .sl 0 [] true false]), (0, .box p0), (1, .box (fdc f z t))], []⟩
  | 16, s => s = ⟨149, [(4, .ptr 0 0), (2, .sl 3 L tl true), (3, .int .i64 i), (8, .bool false), (17, .int .i64 i), (16, .sl z (f.code.map INP) t true), (23, .agg [.bool true, .int .i64 sh, .sl y (tps ts) u true]), (9, .ptr 2 0)], [(2, .box [.int .i64 0, .int .i64 0, .int .i64 0]), (0, .box p0), (1, .box (fdc f z t))], []⟩
  | 17, s => s = ⟨149, [(4, .ptr 0 0), (2, .sl 3 L tl true), (3, .int .i64 i), (8, .bool false), (15, .ptr 1 3), (17, .int .i64 i), (23, .agg [.bool true, .int .i64 sh, .sl y (tps ts) u true]), (9, .ptr 2 0), (10, .ptr 3 0)], [(3, .box [.bool false, .int .i64 0, .sl 0 [] true false]), (2, .box [.int .i64 0, .int .i64 0, .int .i64 0]), (0, .box p0), (1, .box (fdc f z t))], []⟩ ∨ s = ⟨149, [(4, .ptr 0 0), (2, .sl 3 L tl true), (3, .int .i64 i), (8, .bool false), (15, .ptr 1 3), (17, .int .i64 i), (23, .agg [.bool true, .int .i64 sh, .sl y (tps ts) u true]), (9, .ptr 3 0), (10, .ptr 2 0)], [(2, .box [.bool false, .int .i64 0, .sl 0 [] true false]), (3, .box [.int .i64 0, .int .i64 0, .int .i64 0]), (0, .box p0), (1, .box (fdc f z t))], []⟩
  | 18, s => s = ⟨149, [(4, .ptr 0 0), (2, .sl 3 L tl true), (3, .int .i64 i), (8, .bool false), (17, .int .i64 i), (16, .sl z (f.code.map INP) t true), (23, .agg [.bool true, .int .i64 sh, .sl y (tps ts) u true]), (10, .ptr 2 0)], [(2, .box [.bool false, .int .i64 0, .sl 0 [] true false]), (0, .box p0), (1, .box (fdc f z t))], []⟩
  | 19, s => s = ⟨149, [(4, .ptr 0 0), (2, .sl 3 L tl true), (3, .int .i64 i), (8, .bool false), (17, .int .i64 i), (16, .sl z (f.code.map INP) t true), (22, .ro [.bool true, .int .i64 sh, .sl y (tps ts) u o] 0 true), (9, .ptr 2 0), (10, .ptr 3 0)], [(3, .box [.bool false, .int .i64 0, .sl 0 [] true false]), (2, .box [.int .i64 0, .int .i64 0, .int .i64 0]), (0, .box p0), (1, .box (fdc f z t))], []⟩ ∨ s = ⟨149, [(4, .ptr 0 0), (2, .sl 3 L tl true), (3, .int .i64 i), (8, .bool false), (17, .int .i64 i), (16, .sl z (f.code.map INP) t true), (22, .ro [.bool true, .int .i64 sh, .sl y (tps ts) u o] 0 true), (9, .ptr 3 0), (10, .ptr 2 0)], [(2, .box [.bool false, .int .i64 0, .sl 0 [] true false]), (3, .box [.int .i64 0, .int .i64 0, .int .i64 0]), (0, .box p0), (1, .box (fdc f z t))], []⟩
  | 20, s => s = ⟨149, [(4, .ptr 0 0), (2, .sl 3 L tl true), (3, .int .i64 i), (8, .bool false), (19, .agg [.int .i64 op, .int .i64 a, .int .i64 b]), (23, .agg [.bool true, .int .i64 sh, .sl y (tps ts) u true])], [(0, .box p0), (1, .box (fdc f z t))], []⟩
  | 21, s => s = ⟨149, [(4, .ptr 0 0), (2, .sl 3 L tl true), (3, .int .i64 i), (8, .bool false), (19, .agg [.int .i64 op, .int .i64 a, .int .i64 b]), (22, .ro [.bool true, .int .i64 sh, .sl y (tps ts) u o] 0 true), (9, .ptr 2 0)], [(2, .box [.int .i64 0, .int .i64 0, .int .i64 0]), (0, .box p0), (1, .box (fdc f z t))], []⟩
  | 22, s => s = ⟨149, [(4, .ptr 0 0), (2, .sl 3 L tl true), (3, .int .i64 i), (8, .bool false), (19, .agg [.int .i64 op, .int .i64 a, .int .i64 b]), (22, .ro [.bool true, .int .i64 sh, .sl y (tps ts) u o] 0 true), (10, .ptr 2 0)], [(2, .box [.bool false, .int .i64 0, .sl 0 [] true false]), (0, .box p0), (1, .box (fdc f z t))], []⟩
  | 23, s => s = ⟨149, [(4, .ptr 0 0), (2, .sl 3 L tl true), (3, .int .i64 i), (8, .bool false), (18, .ro [.int .i64 op, .int .i64 a, .int .i64 b] 0 true), (23, .agg [.bool true, .int .i64 sh, .sl y (tps ts) u true]), (9, .ptr 2 0)], [(2, .box [.int .i64 0, .int .i64 0, .int .i64 0]), (0, .box p0), (1, .box (fdc f z t))], []⟩
  | 24, s => s = ⟨149, [(4, .ptr 0 0), (2, .sl 3 L tl true), (3, .int .i64 i), (8, .bool false), (18, .ro [.int .i64 op, .int .i64 a, .int .i64 b] 0 true), (23, .agg [.bool true, .int .i64 sh, .sl y (tps ts) u true]), (10, .ptr 2 0)], [(2, .box [.bool false, .int .i64 0, .sl 0 [] true false]), (0, .box p0), (1, .box (fdc f z t))], []⟩
  | 25, s => s = ⟨149, [(4, .ptr 0 0), (2, .sl 3 L tl true), (3, .int .i64 i), (8, .bool false), (18, .ro [.int .i64 op, .int .i64 a, .int .i64 b] 0 true), (22, .ro [.bool true, .int .i64 sh, .sl y (tps ts) u o] 0 true), (9, .ptr 2 0), (10, .ptr 3 0)], [(3, .box [.bool false, .int .i64 0, .sl 0 [] true false]), (2, .box [.int .i64 0, .int .i64 0, .int .i64 0]), (0, .box p0), (1, .box (fdc f z t))], []⟩ ∨ s = ⟨149, [(4, .ptr 0 0), (2, .sl 3 L tl true), (3, .int .i64 i), (8, .bool false), (18, .ro [.int .i64 op, .int .i64 a, .int .i64 b] 0 true), (22, .ro [.bool true, .int .i64 sh, .sl y (tps ts) u o] 0 true), (9, .ptr 3 0), (10, .ptr 2 0)], [(2, .box [.bool false, .int .i64 0, .sl 0 [] true false]), (3, .box [.int .i64 0, .int .i64 0, .int .i64 0]), (0, .box p0), (1, .box (fdc f z t))], []⟩
  | 26, s => s = ⟨149, [(4, .ptr 0 0), (2, .sl 3 L tl true), (3, .int .i64 i), (8, .bool false), (17, .int .i64 i), (16, .sl z (f.code.map INP) t true), (23, .agg [.bool true, .int .i64 sh, .sl y (tps ts) u true]), (9, .ptr 2 0), (10, .ptr 3 0)], [(3, .box [.bool false, .int .i64 0, .sl 0 [] true false]), (2, .box [.int .i64 0, .int .i64 0, .int .i64 0]), (0, .box p0), (1, .box (fdc f z t))], []⟩ ∨ s = ⟨149, [(4, .ptr 0 0), (2, .sl 3 L tl true), (3, .int .i64 i), (8, .bool false), (17, .int .i64 i), (16, .sl z (f.code.map INP) t true), (23, .agg [.bool true, .int .i64 sh, .sl y (tps ts) u true]), (9, .ptr 3 0), (10, .ptr 2 0)], [(2, .box [.bool false, .int .i64 0, .sl 0 [] true false]), (3, .box [.int .i64 0, .int .i64 0, .int .i64 0]), (0, .box p0), (1, .box (fdc f z t))], []⟩
  | 27, s => s = ⟨149, [(4, .ptr 0 0), (2, .sl 3 L tl true), (3, .int .i64 i), (8, .bool false), (19, .agg [.int .i64 op, .int .i64 a, .int .i64 b]), (23, .agg [.bool true, .int .i64 sh, .sl y (tps ts) u true]), (9, .ptr 2 0)], [(2, .box [.int .i64 0, .int .i64 0, .int .i64 0]), (0, .box p0), (1, .box (fdc f z t))], []⟩
  | 28, s => s = ⟨149, [(4, .ptr 0 0), (2, .sl 3 L tl true), (3, .int .i64 i), (8, .bool false), (19, .agg [.int .i64 op, .int .i64 a, .int .i64 b]), (23, .agg [.bool true, .int .i64 sh, .sl y (tps ts) u true]), (10, .ptr 2 0)], [(2, .box [.bool false, .int .i64 0, .sl 0 [] true false]), (0, .box p0), (1, .box (fdc f z t))], []⟩
  | 29, s => s = ⟨149, [(4, .ptr 0 0), (2, .sl 3 L tl true), (3, .int .i64 i), (8, .bool false), (19, .agg [.int .i64 op, .int .i64 a, .int .i64 b]), (22, .ro [.bool true, .int .i64 sh, .sl y (tps ts) u o] 0 true), (9, .ptr 2 0), (10, .ptr 3 0)], [(3, .box [.bool false, .int .i64 0, .sl 0 [] true false]), (2, .box [.int .i64 0, .int .i64 0, .int .i64 0]), (0, .box p0), (1, .box (fdc f z t))], []⟩ ∨ s = ⟨149, [(4, .ptr 0 0), (2, .sl 3 L tl true), (3, .int .i64 i), (8, .bool false), (19, .agg [.int .i64 op, .int .i64 a, .int .i64 b]), (22, .ro [.bool true, .int .i64 sh, .sl y (tps ts) u o] 0 true), (9, .ptr 3 0), (10, .ptr 2 0)], [(2, .box [.bool false, .int .i64 0, .sl 0 [] true false]), (3, .box [.int .i64 0, .int .i64 0, .int .i64 0]), (0, .box p0), (1, .box (fdc f z t))], []⟩
  | 30, s => s = ⟨149, [(4, .ptr 0 0), (2, .sl 3 L tl true), (3, .int .i64 i), (8, .bool false), (18, .ro [.int .i64 op, .int .i64 a, .int .i64 b] 0 true), (23, .agg [.bool true, .int .i64 sh, .sl y (tps ts) u true]), (9, .ptr 2 0), (10, .ptr 3 0)], [(3, .box [.bool false, .int .i64 0, .sl 0 [] true false]), (2, .box [.int .i64 0, .int .i64 0, .int .i64 0]), (0, .box p0), (1, .box (fdc f z t))], []⟩ ∨ s = ⟨149, [(4, .ptr 0 0), (2, .sl 3 L tl true), (3, .int .i64 i), (8, .bool false), (18, .ro [.int .i64 op, .int .i64 a, .int .i64 b] 0 true), (23, .agg [.bool true, .int .i64 sh, .sl y (tps ts) u true]), (9, .ptr 3 0), (10, .ptr 2 0)], [(2, .box [.bool false, .int .i64 0, .sl 0 [] true false]), (3, .box [.int .i64 0, .int .i64 0, .int .i64 0]), (0, .box p0), (1, .box (fdc f z t))], []⟩
  | 31, s => s = ⟨149, [(4, .ptr 0 0), (2, .sl 3 L tl true), (3, .int .i64 i), (8, .bool false), (19, .agg [.int .i64 op, .int .i64 a, .int .i64 b]), (23, .agg [.bool true, .int .i64 sh, .sl y (tps ts) u true]), (9, .ptr 2 0), (10, .ptr 3 0)], [(3, .box [.bool false, .int .i64 0, .sl 0 [] true false]), (2, .box [.int .i64 0, .int .i64 0, .int .i64 0]), (0, .box p0), (1, .box (fdc f z t))], []⟩ ∨ s = ⟨149, [(4, .ptr 0 0), (2, .sl 3 L tl true), (3, .int .i64 i), (8, .bool false), (19, .agg [.int .i64 op, .int .i64 a, .int .i64 b]), (23, .agg [.bool true, .int .i64 sh, .sl y (tps ts) u true]), (9, .ptr 3 0), (10, .ptr 2 0)], [(2, .box [.bool false, .int .i64 0, .sl 0 [] true false]), (3, .box [.int .i64 0, .int .i64 0, .int .i64 0]), (0, .box p0), (1, .box (fdc f z t))], []⟩
  | 32, s => s = ⟨149, [(4, .ptr 0 0), (2, .sl 3 L tl true), (3, .int .i64 i), (8, .bool false), (22, .ro [.bool true, .int .i64 sh, .sl y (tps ts) u o] 0 true), (9, .ptr 2 0), (10, .ptr 3 0)], [(3, .box [.bool false, .int .i64 0, .sl 0 [] true false]), (2, .box [.int .i64 op, .int .i64 a, .int .i64 b]), (0, .box p0), (1, .box (fdc f z t))], []⟩ ∨ s = ⟨149, [(4, .ptr 0 0), (2, .sl 3 L tl true), (3, .int .i64 i), (8, .bool false), (22, .ro [.bool true, .int .i64 sh, .sl y (tps ts) u o] 0 true), (9, .ptr 3 0), (10, .ptr 2 0)], [(2, .box [.bool false, .int .i64 0, .sl 0 [] true false]), (3, .box [.int .i64 op, .int .i64 a, .int .i64 b]), (0, .box p0), (1, .box (fdc f z t))], []⟩
  | 33, s => s = ⟨149, [(4, .ptr 0 0), (2, .sl 3 L tl true), (3, .int .i64 i), (8, .bool false), (23, .agg [.bool true, .int .i64 sh, .sl y (tps ts) u true]), (9, .ptr 2 0), (10, .ptr 3 0)], [(3, .box [.bool false, .int .i64 0, .sl 0 [] true false]), (2, .box [.int .i64 op, .int .i64 a, .int .i64 b]), (0, .box p0), (1, .box (fdc f z t))], []⟩ ∨ s = ⟨149, [(4, .ptr 0 0), (2, .sl 3 L tl true), (3, .int .i64 i), (8, .bool false), (23, .agg [.bool true, .int .i64 sh, .sl y (tps ts) u true]), (9, .ptr 3 0), (10, .ptr 2 0)], [(2, .box [.bool false, .int .i64 0, .sl 0 [] true false]), (3, .box [.int .i64 op, .int .i64 a, .int .i64 b]), (0, .box p0), (1, .box (fdc f z t))], []⟩
  | _, _ => False

/-- What is known ahead of an instruction leads to what is known ahead of those that it comes to. -/
structure Led (p : PG) (x : IN) (i : Nat) (s : HS) (pl : PL) : Prop where
  at_ : PL.at pl i = some s
  next : ∃ m, nextM p x i s = some m ∧ ∀ c ∈ m, fits pl.length c ∧ PL.at pl c.1.toNat = some c.2
set_option maxHeartbeats 32000000 in
theorem moved_spec (p : PG) (f : FD) (zf : Nat) (lf : List PV) (tf : Bool) (zc : Nat) (lc : List PV) (tc : Bool) (z : Nat) (t : Bool) (hp : PGA p zf lf zc lc) (hz : z = 3 ∨ f.code = []) (hc : CodeOk p f.code) (i : Nat) (hi : i < f.code.length) (s : HS) (pl : PL) (L : List PV) (tl : Bool)
    (hW : PWs pl L) (hl : pl.length = f.code.length) (hB : PB pl) (hled : Led p f.code[i] i s pl) (Post : PV → List (Nat × Blk) → Prop) (h : Post (.bool true) []) :
    Spec K 18 [.agg (pgc zf lf tf zc lc tc), .agg (fdc f z t), .sl 3 L tl true, .int .i64 i] [] Post := by
  obtain ⟨hat, m, hn, hm⟩ := hled
  obtain ⟨hh0, hh1, hsl⟩ := hB.h0 i s hat
  have hx := hc.ins _ (List.getElem_mem hi)
  have hqx : nth (f.code.map INP) (Int.toNat (i : Int)) = .agg [.int .i64 f.code[i].op, .int .i64 f.code[i].a, .int .i64 f.code[i].b] := by rw [Int.toNat_natCast]; exact code_nth hi
  have hmv := moves_spec p f.code[i] zf lf tf zc lc tc hp
  generalize f.code[i] = x at hn hx hqx hmv
  obtain ⟨o0, o1, n0, n1, xa, xj⟩ := hx
  unfold i64 at xa
  have hLl := hW.len
  have hlc := hc.len
  have hr := hW.at_ i (by omega)
  rw [hat] at hr
  obtain ⟨sh, ts⟩ := s
  obtain ⟨y, u, o, hq, hy⟩ := hr
  simp only at hsl hy hh0 hh1 hq
  have hq : nth L (Int.toNat (i : Int)) = .agg [.bool true, .int .i64 sh, .sl y (tps ts) u o] := by rw [Int.toNat_natCast]; exact hq
  have hq1 := hq
  rw [Int.toNat_natCast] at hq1
  have g : y = 2 ∨ tps ts = [] := hy.imp id fun h => by rw [h]; rfl
  have gl : (tps ts).length = ts.length := List.length_map _
  have htk : List.take ts.length (tps ts) = tps ts := List.take_of_length_le (by omega)
  have hcl : (f.code.map INP).length = f.code.length := List.length_map _
  have hz2 : z = 3 ∨ f.code.map INP = [] := hz.imp id fun h => by rw [h]; rfl
  have hbl : ∀ i s, PL.at pl i = some s → s.ts.length ≤ 1000000 := fun i s h => Nat.le_trans (hB.h0 i s h).2.2 (by decide)
  have ld : ∀ (a h : Int) (ts' : List (Int × Int)) (zz : Nat) (tt : Bool), (zz = 2 ∨ ts' = []) → fits pl.length (a, ⟨h, ts'⟩) ∧ PL.at pl a.toNat = some ⟨h, ts'⟩ → ∀ Post : PV → List (Nat × Blk) → Prop, Post (.bool true) [] →
      Spec K 17 [.sl 3 L tl true, .int .i64 a, .int .i64 h, .sl zz (tps ts') tt true] [] Post := fun a h ts' zz tt hz' hc Post hP =>
    leads_spec pl L 3 tl a h ts' zz tt hW (Or.inl rfl) hz' hbl ⟨hc.1.1, hc.1.2.1⟩ Post (by
      have : leadsM pl a h ts' = true := by
        unfold leadsM
        rw [decide_eq_true hc.1.1, decide_eq_true hc.1.2.1, decide_eq_true hc.2]; rfl
      rw [this]; exact hP)
  unfold nextM at hn
  generalize movesM p x = mv at hn o0 o1 n0 n1 hmv
  obtain ⟨off, on⟩ := mv
  simp only at hn o0 o1 n0 n1 hmv
  split at hn
  · cases hn
  rename_i hok
  have b1 : ¬ sh < off := fun hc => hok (.inl hc)
  have b2 : ¬ 32 < sh - off + on := fun hc => hok (.inr (.inl hc))
  have e1 : decide (sh < off) = false := decide_eq_false b1
  have e2 : decide (32 < sh - off + on) = false := decide_eq_false b2
  have hlow : lowOk ⟨sh, ts⟩ (sh - off) = true := by
    cases hlo : lowOk ⟨sh, ts⟩ (sh - off) with
    | true => rfl
    | false => exact absurd (Or.inr (Or.inr hlo)) hok
  have w2 : IntKind.i64.wrap (sh - off) = sh - off := wrap64 (by omega) (by omega)
  have w1 : IntKind.i64.wrap (sh - off + on) = sh - off + on := wrap64 (by omega) (by omega)
  have hi1 : IntKind.i64.wrap ((i : Int) + 1) = (i : Int) + 1 := wrap64 (by omega) (by omega)
  obtain ⟨op, a, b⟩ := x
  simp only at hn hqx hmv xa xj
  have hqx1 := hqx
  rw [Int.toNat_natCast] at hqx1
  have mvd : (movesM p ⟨op, a, b⟩ : Int × Int) = movesM p ⟨op, a, b⟩ := rfl
  clear mvd hok
  refine is18.specC [30, 39] K_ok K_mix false (by simp) (by simp [keys]) ?_
  (conv => whnf); repeat ((first | (refine And.intro ?_ ?_; focus exact Cl4) | refine Both.T (by exact rfl) ?_ | refine Both.F (by exact rfl) ?_ | refine Both.GT (by exact rfl) (by exact rfl) ?_ | refine Both.GF (by exact rfl) ?_ | refine Both.GN (by exact rfl) ?_); conv => whnf)
  refine ⟨inv18 (pgc zf lf tf zc lc tc) f z t L tl i op a b sh y ts u o, ⟨[], _, rfl, ?_⟩, ?_, fun s hs => ?_⟩
  · simp [meets, ghosts, St.le, St.get, look, keys, PV.labs, labsL, lookB, Blk.labs, PV.cells, hq1]
  · (conv => whnf)
    refine And.intro (fun s hs => ?_) ?_
    · simp only [inv18] at hs
      obtain rfl := hs
      (conv => whnf); repeat' (first | ((first | (refine And.intro ?_ ?_; focus exact Cl4) | refine Both.T (by exact rfl) ?_ | refine Both.F (by exact rfl) ?_ | refine Both.GT (by exact rfl) (by exact rfl) ?_ | refine Both.GF (by exact rfl) ?_ | refine Both.GN (by exact rfl) ?_); conv => whnf) | (rw [hqx]; conv => whnf) | (rw [hq]; conv => whnf) | ((refine Both.mk ?_ ?_ <;> fail_if_success (intro _)) <;> conv => whnf))
      · exact ⟨[], _, rfl, by simp [meets, ghosts, St.le, St.get, look, keys, PV.labs, labsL, lookB, Blk.labs, PV.cells, hq1, hqx1]⟩
      · exact ⟨[], _, rfl, by simp [meets, ghosts, St.le, St.get, look, keys, PV.labs, labsL, lookB, Blk.labs, PV.cells, hq1, hqx1]⟩
      · exact ⟨[], _, rfl, by simp [meets, ghosts, St.le, St.get, look, keys, PV.labs, labsL, lookB, Blk.labs, PV.cells, hq1, hqx1]⟩
      · exact ⟨[], _, rfl, by simp [meets, ghosts, St.le, St.get, look, keys, PV.labs, labsL, lookB, Blk.labs, PV.cells, hq1, hqx1]⟩
      · exact trivial
    conv => whnf
    refine And.intro (fun s hs => ?_) ?_
    · simp only [inv18] at hs
      obtain rfl := hs
      (conv => whnf); repeat' (first | ((first | (refine And.intro ?_ ?_; focus exact Cl4) | refine Both.T (by exact rfl) ?_ | refine Both.F (by exact rfl) ?_ | refine Both.GT (by exact rfl) (by exact rfl) ?_ | refine Both.GF (by exact rfl) ?_ | refine Both.GN (by exact rfl) ?_); conv => whnf) | (rw [hqx]; conv => whnf) | (rw [hq]; conv => whnf) | ((refine Both.mk ?_ ?_ <;> fail_if_success (intro _)) <;> conv => whnf))
      · exact ⟨[], _, rfl, by simp [meets, ghosts, St.le, St.get, look, keys, PV.labs, labsL, lookB, Blk.labs, PV.cells, hq1, hqx1]⟩
      · exact trivial
    conv => whnf
    refine And.intro (fun s hs => ?_) ?_
    · simp only [inv18] at hs
      obtain rfl := hs
      (conv => whnf); repeat' (first | ((first | (refine And.intro ?_ ?_; focus exact Cl4) | refine Both.T (by exact rfl) ?_ | refine Both.F (by exact rfl) ?_ | refine Both.GT (by exact rfl) (by exact rfl) ?_ | refine Both.GF (by exact rfl) ?_ | refine Both.GN (by exact rfl) ?_); conv => whnf) | (rw [hqx]; conv => whnf) | (rw [hq]; conv => whnf) | ((refine Both.mk ?_ ?_ <;> fail_if_success (intro _)) <;> conv => whnf))
      · exact ⟨[], _, rfl, by simp [meets, ghosts, St.le, St.get, look, keys, PV.labs, labsL, lookB, Blk.labs, PV.cells, hq1, hqx1]⟩
      · exact ⟨[], _, rfl, by simp [meets, ghosts, St.le, St.get, look, keys, PV.labs, labsL, lookB, Blk.labs, PV.cells, hq1, hqx1]⟩
      · exact ⟨[], _, rfl, by simp [meets, ghosts, St.le, St.get, look, keys, PV.labs, labsL, lookB, Blk.labs, PV.cells, hq1, hqx1]⟩
      · exact trivial
    conv => whnf
    refine And.intro (fun s hs => ?_) ?_
    · simp only [inv18] at hs
      obtain rfl := hs
      (conv => whnf); repeat' (first | ((first | (refine And.intro ?_ ?_; focus exact Cl4) | refine Both.T (by exact rfl) ?_ | refine Both.F (by exact rfl) ?_ | refine Both.GT (by exact rfl) (by exact rfl) ?_ | refine Both.GF (by exact rfl) ?_ | refine Both.GN (by exact rfl) ?_); conv => whnf) | (rw [hqx]; conv => whnf) | (rw [hq]; conv => whnf) | ((refine Both.mk ?_ ?_ <;> fail_if_success (intro _)) <;> conv => whnf))
      · exact ⟨[], _, rfl, by simp [meets, ghosts, St.le, St.get, look, keys, PV.labs, labsL, lookB, Blk.labs, PV.cells, hq1, hqx1]⟩
      · exact ⟨[], _, rfl, by simp [meets, ghosts, St.le, St.get, look, keys, PV.labs, labsL, lookB, Blk.labs, PV.cells, hq1, hqx1]⟩
      · exact ⟨[], _, Or.inl rfl, by simp [meets, ghosts, St.le, St.get, look, keys, PV.labs, labsL, lookB, Blk.labs, PV.cells, hq1, hqx1]⟩
      · exact trivial
    conv => whnf
    refine And.intro (fun s hs => ?_) ?_
    · simp only [inv18] at hs
      obtain rfl := hs
      (conv => whnf); repeat' (first | ((first | (refine And.intro ?_ ?_; focus exact Cl4) | refine Both.T (by exact rfl) ?_ | refine Both.F (by exact rfl) ?_ | refine Both.GT (by exact rfl) (by exact rfl) ?_ | refine Both.GF (by exact rfl) ?_ | refine Both.GN (by exact rfl) ?_); conv => whnf) | (rw [hqx]; conv => whnf) | (rw [hq]; conv => whnf) | ((refine Both.mk ?_ ?_ <;> fail_if_success (intro _)) <;> conv => whnf))
      · exact ⟨[], _, rfl, by simp [meets, ghosts, St.le, St.get, look, keys, PV.labs, labsL, lookB, Blk.labs, PV.cells, hq1, hqx1]⟩
      · exact ⟨[], _, rfl, by simp [meets, ghosts, St.le, St.get, look, keys, PV.labs, labsL, lookB, Blk.labs, PV.cells, hq1, hqx1]⟩
      · exact ⟨[], _, Or.inr rfl, by simp [meets, ghosts, St.le, St.get, look, keys, PV.labs, labsL, lookB, Blk.labs, PV.cells, hq1, hqx1]⟩
      · exact trivial
    conv => whnf
    refine And.intro (fun s hs => ?_) ?_
    · simp only [inv18] at hs
      obtain rfl := hs
      (conv => whnf); repeat' (first | ((first | (refine And.intro ?_ ?_; focus exact Cl4) | refine Both.T (by exact rfl) ?_ | refine Both.F (by exact rfl) ?_ | refine Both.GT (by exact rfl) (by exact rfl) ?_ | refine Both.GF (by exact rfl) ?_ | refine Both.GN (by exact rfl) ?_); conv => whnf) | (rw [hqx]; conv => whnf) | (rw [hq]; conv => whnf) | ((refine Both.mk ?_ ?_ <;> fail_if_success (intro _)) <;> conv => whnf))
      · exact ⟨[], _, rfl, by simp [meets, ghosts, St.le, St.get, look, keys, PV.labs, labsL, lookB, Blk.labs, PV.cells, hq1, hqx1]⟩
      · exact ⟨[], _, rfl, by simp [meets, ghosts, St.le, St.get, look, keys, PV.labs, labsL, lookB, Blk.labs, PV.cells, hq1, hqx1]⟩
      · exact ⟨[], _, rfl, by simp [meets, ghosts, St.le, St.get, look, keys, PV.labs, labsL, lookB, Blk.labs, PV.cells, hq1, hqx1]⟩
      · exact ⟨[], _, rfl, by simp [meets, ghosts, St.le, St.get, look, keys, PV.labs, labsL, lookB, Blk.labs, PV.cells, hq1, hqx1]⟩
      · exact trivial
    conv => whnf
    refine And.intro (fun s hs => ?_) ?_
    · simp only [inv18] at hs
      obtain rfl := hs
      (conv => whnf); repeat' (first | ((first | (refine And.intro ?_ ?_; focus exact Cl4) | refine Both.T (by exact rfl) ?_ | refine Both.F (by exact rfl) ?_ | refine Both.GT (by exact rfl) (by exact rfl) ?_ | refine Both.GF (by exact rfl) ?_ | refine Both.GN (by exact rfl) ?_); conv => whnf) | (rw [hqx]; conv => whnf) | (rw [hq]; conv => whnf) | ((refine Both.mk ?_ ?_ <;> fail_if_success (intro _)) <;> conv => whnf))
      · exact ⟨[], _, rfl, by simp [meets, ghosts, St.le, St.get, look, keys, PV.labs, labsL, lookB, Blk.labs, PV.cells, hq1, hqx1]⟩
      · exact trivial
    conv => whnf
    refine And.intro (fun s hs => ?_) ?_
    · simp only [inv18] at hs
      obtain rfl := hs
      (conv => whnf); repeat' (first | ((first | (refine And.intro ?_ ?_; focus exact Cl4) | refine Both.T (by exact rfl) ?_ | refine Both.F (by exact rfl) ?_ | refine Both.GT (by exact rfl) (by exact rfl) ?_ | refine Both.GF (by exact rfl) ?_ | refine Both.GN (by exact rfl) ?_); conv => whnf) | (rw [hqx]; conv => whnf) | (rw [hq]; conv => whnf) | ((refine Both.mk ?_ ?_ <;> fail_if_success (intro _)) <;> conv => whnf))
      · exact ⟨[], _, rfl, by simp [meets, ghosts, St.le, St.get, look, keys, PV.labs, labsL, lookB, Blk.labs, PV.cells, hq1, hqx1]⟩
      · exact ⟨[], _, Or.inl rfl, by simp [meets, ghosts, St.le, St.get, look, keys, PV.labs, labsL, lookB, Blk.labs, PV.cells, hq1, hqx1]⟩
      · exact trivial
    conv => whnf
    refine And.intro (fun s hs => ?_) ?_
    · simp only [inv18] at hs
      obtain rfl := hs
      (conv => whnf); repeat' (first | ((first | (refine And.intro ?_ ?_; focus exact Cl4) | refine Both.T (by exact rfl) ?_ | refine Both.F (by exact rfl) ?_ | refine Both.GT (by exact rfl) (by exact rfl) ?_ | refine Both.GF (by exact rfl) ?_ | refine Both.GN (by exact rfl) ?_); conv => whnf) | (rw [hqx]; conv => whnf) | (rw [hq]; conv => whnf) | ((refine Both.mk ?_ ?_ <;> fail_if_success (intro _)) <;> conv => whnf))
      · exact ⟨[], _, rfl, by simp [meets, ghosts, St.le, St.get, look, keys, PV.labs, labsL, lookB, Blk.labs, PV.cells, hq1, hqx1]⟩
      · exact ⟨[], _, Or.inr rfl, by simp [meets, ghosts, St.le, St.get, look, keys, PV.labs, labsL, lookB, Blk.labs, PV.cells, hq1, hqx1]⟩
      · exact trivial
    conv => whnf
    refine And.intro (fun s hs => ?_) ?_
    · simp only [inv18] at hs
      obtain rfl := hs
      (conv => whnf); repeat' (first | ((first | (refine And.intro ?_ ?_; focus exact Cl4) | refine Both.T (by exact rfl) ?_ | refine Both.F (by exact rfl) ?_ | refine Both.GT (by exact rfl) (by exact rfl) ?_ | refine Both.GF (by exact rfl) ?_ | refine Both.GN (by exact rfl) ?_); conv => whnf) | (rw [hqx]; conv => whnf) | (rw [hq]; conv => whnf) | ((refine Both.mk ?_ ?_ <;> fail_if_success (intro _)) <;> conv => whnf))
      · exact ⟨[], _, rfl, by simp [meets, ghosts, St.le, St.get, look, keys, PV.labs, labsL, lookB, Blk.labs, PV.cells, hq1, hqx1]⟩
      · exact trivial
    conv => whnf
    refine And.intro (fun s hs => ?_) ?_
    · simp only [inv18] at hs
      rcases hs with rfl | rfl
      · (conv => whnf); repeat' (first | ((first | (refine And.intro ?_ ?_; focus exact Cl4) | refine Both.T (by exact rfl) ?_ | refine Both.F (by exact rfl) ?_ | refine Both.GT (by exact rfl) (by exact rfl) ?_ | refine Both.GF (by exact rfl) ?_ | refine Both.GN (by exact rfl) ?_); conv => whnf) | (rw [hqx]; conv => whnf) | (rw [hq]; conv => whnf) | ((refine Both.mk ?_ ?_ <;> fail_if_success (intro _)) <;> conv => whnf))
        · exact ⟨[], _, Or.inl rfl, by simp [meets, ghosts, St.le, St.get, look, keys, PV.labs, labsL, lookB, Blk.labs, PV.cells, hq1, hqx1]⟩
        · exact ⟨[], _, Or.inl rfl, by simp [meets, ghosts, St.le, St.get, look, keys, PV.labs, labsL, lookB, Blk.labs, PV.cells, hq1, hqx1]⟩
        · exact trivial
      · (conv => whnf); repeat' (first | ((first | (refine And.intro ?_ ?_; focus exact Cl4) | refine Both.T (by exact rfl) ?_ | refine Both.F (by exact rfl) ?_ | refine Both.GT (by exact rfl) (by exact rfl) ?_ | refine Both.GF (by exact rfl) ?_ | refine Both.GN (by exact rfl) ?_); conv => whnf) | (rw [hqx]; conv => whnf) | (rw [hq]; conv => whnf) | ((refine Both.mk ?_ ?_ <;> fail_if_success (intro _)) <;> conv => whnf))
        · exact ⟨[], _, Or.inr rfl, by simp [meets, ghosts, St.le, St.get, look, keys, PV.labs, labsL, lookB, Blk.labs, PV.cells, hq1, hqx1]⟩
        · exact ⟨[], _, Or.inr rfl, by simp [meets, ghosts, St.le, St.get, look, keys, PV.labs, labsL, lookB, Blk.labs, PV.cells, hq1, hqx1]⟩
        · exact trivial
    conv => whnf
    refine And.intro (fun s hs => ?_) ?_
    · simp only [inv18] at hs
      obtain rfl := hs
      (conv => whnf); repeat' (first | ((first | (refine And.intro ?_ ?_; focus exact Cl4) | refine Both.T (by exact rfl) ?_ | refine Both.F (by exact rfl) ?_ | refine Both.GT (by exact rfl) (by exact rfl) ?_ | refine Both.GF (by exact rfl) ?_ | refine Both.GN (by exact rfl) ?_); conv => whnf) | (rw [hqx]; conv => whnf) | (rw [hq]; conv => whnf) | ((refine Both.mk ?_ ?_ <;> fail_if_success (intro _)) <;> conv => whnf))
      · exact ⟨[], _, rfl, by simp [meets, ghosts, St.le, St.get, look, keys, PV.labs, labsL, lookB, Blk.labs, PV.cells, hq1, hqx1]⟩
      · exact trivial
    conv => whnf
    refine And.intro (fun s hs => ?_) ?_
    · simp only [inv18] at hs
      obtain rfl := hs
      (conv => whnf); repeat' (first | ((first | (refine And.intro ?_ ?_; focus exact Cl4) | refine Both.T (by exact rfl) ?_ | refine Both.F (by exact rfl) ?_ | refine Both.GT (by exact rfl) (by exact rfl) ?_ | refine Both.GF (by exact rfl) ?_ | refine Both.GN (by exact rfl) ?_); conv => whnf) | (rw [hqx]; conv => whnf) | (rw [hq]; conv => whnf) | ((refine Both.mk ?_ ?_ <;> fail_if_success (intro _)) <;> conv => whnf))
      · exact ⟨[], _, rfl, by simp [meets, ghosts, St.le, St.get, look, keys, PV.labs, labsL, lookB, Blk.labs, PV.cells, hq1, hqx1]⟩
      · exact ⟨[], _, rfl, by simp [meets, ghosts, St.le, St.get, look, keys, PV.labs, labsL, lookB, Blk.labs, PV.cells, hq1, hqx1]⟩
      · exact ⟨[], _, rfl, by simp [meets, ghosts, St.le, St.get, look, keys, PV.labs, labsL, lookB, Blk.labs, PV.cells, hq1, hqx1]⟩
      · exact trivial
    conv => whnf
    refine And.intro (fun s hs => ?_) ?_
    · simp only [inv18] at hs
      obtain rfl := hs
      (conv => whnf); repeat' (first | ((first | (refine And.intro ?_ ?_; focus exact Cl4) | refine Both.T (by exact rfl) ?_ | refine Both.F (by exact rfl) ?_ | refine Both.GT (by exact rfl) (by exact rfl) ?_ | refine Both.GF (by exact rfl) ?_ | refine Both.GN (by exact rfl) ?_); conv => whnf) | (rw [hqx]; conv => whnf) | (rw [hq]; conv => whnf) | ((refine Both.mk ?_ ?_ <;> fail_if_success (intro _)) <;> conv => whnf))
      · exact ⟨[], _, rfl, by simp [meets, ghosts, St.le, St.get, look, keys, PV.labs, labsL, lookB, Blk.labs, PV.cells, hq1, hqx1]⟩
      · exact ⟨[], _, rfl, by simp [meets, ghosts, St.le, St.get, look, keys, PV.labs, labsL, lookB, Blk.labs, PV.cells, hq1, hqx1]⟩
      · exact ⟨[], _, rfl, by simp [meets, ghosts, St.le, St.get, look, keys, PV.labs, labsL, lookB, Blk.labs, PV.cells, hq1, hqx1]⟩
      · exact trivial
    conv => whnf
    refine And.intro (fun s hs => ?_) ?_
    · simp only [inv18] at hs
      obtain rfl := hs
      (conv => whnf); repeat' (first | ((first | (refine And.intro ?_ ?_; focus exact Cl4) | refine Both.T (by exact rfl) ?_ | refine Both.F (by exact rfl) ?_ | refine Both.GT (by exact rfl) (by exact rfl) ?_ | refine Both.GF (by exact rfl) ?_ | refine Both.GN (by exact rfl) ?_); conv => whnf) | (rw [hqx]; conv => whnf) | (rw [hq]; conv => whnf) | ((refine Both.mk ?_ ?_ <;> fail_if_success (intro _)) <;> conv => whnf))
      · exact ⟨[], _, rfl, by simp [meets, ghosts, St.le, St.get, look, keys, PV.labs, labsL, lookB, Blk.labs, PV.cells, hq1, hqx1]⟩
      · exact ⟨[], _, rfl, by simp [meets, ghosts, St.le, St.get, look, keys, PV.labs, labsL, lookB, Blk.labs, PV.cells, hq1, hqx1]⟩
      · exact ⟨[], _, Or.inl rfl, by simp [meets, ghosts, St.le, St.get, look, keys, PV.labs, labsL, lookB, Blk.labs, PV.cells, hq1, hqx1]⟩
      · exact trivial
    conv => whnf
    refine And.intro (fun s hs => ?_) ?_
    · simp only [inv18] at hs
      obtain rfl := hs
      (conv => whnf); repeat' (first | ((first | (refine And.intro ?_ ?_; focus exact Cl4) | refine Both.T (by exact rfl) ?_ | refine Both.F (by exact rfl) ?_ | refine Both.GT (by exact rfl) (by exact rfl) ?_ | refine Both.GF (by exact rfl) ?_ | refine Both.GN (by exact rfl) ?_); conv => whnf) | (rw [hqx]; conv => whnf) | (rw [hq]; conv => whnf) | ((refine Both.mk ?_ ?_ <;> fail_if_success (intro _)) <;> conv => whnf))
      · exact ⟨[], _, rfl, by simp [meets, ghosts, St.le, St.get, look, keys, PV.labs, labsL, lookB, Blk.labs, PV.cells, hq1, hqx1]⟩
      · exact ⟨[], _, rfl, by simp [meets, ghosts, St.le, St.get, look, keys, PV.labs, labsL, lookB, Blk.labs, PV.cells, hq1, hqx1]⟩
      · exact ⟨[], _, Or.inr rfl, by simp [meets, ghosts, St.le, St.get, look, keys, PV.labs, labsL, lookB, Blk.labs, PV.cells, hq1, hqx1]⟩
      · exact trivial
    conv => whnf
    refine And.intro (fun s hs => ?_) ?_
    · simp only [inv18] at hs
      obtain rfl := hs
      (conv => whnf); repeat' (first | ((first | (refine And.intro ?_ ?_; focus exact Cl4) | refine Both.T (by exact rfl) ?_ | refine Both.F (by exact rfl) ?_ | refine Both.GT (by exact rfl) (by exact rfl) ?_ | refine Both.GF (by exact rfl) ?_ | refine Both.GN (by exact rfl) ?_); conv => whnf) | (rw [hqx]; conv => whnf) | (rw [hq]; conv => whnf) | ((refine Both.mk ?_ ?_ <;> fail_if_success (intro _)) <;> conv => whnf))
      · exact ⟨[], _, rfl, by simp [meets, ghosts, St.le, St.get, look, keys, PV.labs, labsL, lookB, Blk.labs, PV.cells, hq1, hqx1]⟩
      · exact trivial
    conv => whnf
    refine And.intro (fun s hs => ?_) ?_
    · simp only [inv18] at hs
      rcases hs with rfl | rfl
      · (conv => whnf); repeat' (first | ((first | (refine And.intro ?_ ?_; focus exact Cl4) | refine Both.T (by exact rfl) ?_ | refine Both.F (by exact rfl) ?_ | refine Both.GT (by exact rfl) (by exact rfl) ?_ | refine Both.GF (by exact rfl) ?_ | refine Both.GN (by exact rfl) ?_); conv => whnf) | (rw [hqx]; conv => whnf) | (rw [hq]; conv => whnf) | ((refine Both.mk ?_ ?_ <;> fail_if_success (intro _)) <;> conv => whnf))
        · exact ⟨[], _, Or.inl rfl, by simp [meets, ghosts, St.le, St.get, look, keys, PV.labs, labsL, lookB, Blk.labs, PV.cells, hq1, hqx1]⟩
        · exact trivial
      · (conv => whnf); repeat' (first | ((first | (refine And.intro ?_ ?_; focus exact Cl4) | refine Both.T (by exact rfl) ?_ | refine Both.F (by exact rfl) ?_ | refine Both.GT (by exact rfl) (by exact rfl) ?_ | refine Both.GF (by exact rfl) ?_ | refine Both.GN (by exact rfl) ?_); conv => whnf) | (rw [hqx]; conv => whnf) | (rw [hq]; conv => whnf) | ((refine Both.mk ?_ ?_ <;> fail_if_success (intro _)) <;> conv => whnf))
        · exact ⟨[], _, Or.inr rfl, by simp [meets, ghosts, St.le, St.get, look, keys, PV.labs, labsL, lookB, Blk.labs, PV.cells, hq1, hqx1]⟩
        · exact trivial
    conv => whnf
    refine And.intro (fun s hs => ?_) ?_
    · simp only [inv18] at hs
      obtain rfl := hs
      (conv => whnf); repeat' (first | ((first | (refine And.intro ?_ ?_; focus exact Cl4) | refine Both.T (by exact rfl) ?_ | refine Both.F (by exact rfl) ?_ | refine Both.GT (by exact rfl) (by exact rfl) ?_ | refine Both.GF (by exact rfl) ?_ | refine Both.GN (by exact rfl) ?_); conv => whnf) | (rw [hqx]; conv => whnf) | (rw [hq]; conv => whnf) | ((refine Both.mk ?_ ?_ <;> fail_if_success (intro _)) <;> conv => whnf))
      · exact ⟨[], _, rfl, by simp [meets, ghosts, St.le, St.get, look, keys, PV.labs, labsL, lookB, Blk.labs, PV.cells, hq1, hqx1]⟩
      · exact trivial
    conv => whnf
    refine And.intro (fun s hs => ?_) ?_
    · simp only [inv18] at hs
      rcases hs with rfl | rfl
      · (conv => whnf); repeat' (first | ((first | (refine And.intro ?_ ?_; focus exact Cl4) | refine Both.T (by exact rfl) ?_ | refine Both.F (by exact rfl) ?_ | refine Both.GT (by exact rfl) (by exact rfl) ?_ | refine Both.GF (by exact rfl) ?_ | refine Both.GN (by exact rfl) ?_); conv => whnf) | (rw [hqx]; conv => whnf) | (rw [hq]; conv => whnf) | ((refine Both.mk ?_ ?_ <;> fail_if_success (intro _)) <;> conv => whnf))
        · exact ⟨[], _, Or.inl rfl, by simp [meets, ghosts, St.le, St.get, look, keys, PV.labs, labsL, lookB, Blk.labs, PV.cells, hq1, hqx1]⟩
        · exact trivial
      · (conv => whnf); repeat' (first | ((first | (refine And.intro ?_ ?_; focus exact Cl4) | refine Both.T (by exact rfl) ?_ | refine Both.F (by exact rfl) ?_ | refine Both.GT (by exact rfl) (by exact rfl) ?_ | refine Both.GF (by exact rfl) ?_ | refine Both.GN (by exact rfl) ?_); conv => whnf) | (rw [hqx]; conv => whnf) | (rw [hq]; conv => whnf) | ((refine Both.mk ?_ ?_ <;> fail_if_success (intro _)) <;> conv => whnf))
        · exact ⟨[], _, Or.inr rfl, by simp [meets, ghosts, St.le, St.get, look, keys, PV.labs, labsL, lookB, Blk.labs, PV.cells, hq1, hqx1]⟩
        · exact trivial
    conv => whnf
    refine And.intro (fun s hs => ?_) ?_
    · simp only [inv18] at hs
      obtain rfl := hs
      (conv => whnf); repeat' (first | ((first | (refine And.intro ?_ ?_; focus exact Cl4) | refine Both.T (by exact rfl) ?_ | refine Both.F (by exact rfl) ?_ | refine Both.GT (by exact rfl) (by exact rfl) ?_ | refine Both.GF (by exact rfl) ?_ | refine Both.GN (by exact rfl) ?_); conv => whnf) | (rw [hqx]; conv => whnf) | (rw [hq]; conv => whnf) | ((refine Both.mk ?_ ?_ <;> fail_if_success (intro _)) <;> conv => whnf))
      · exact ⟨[], _, rfl, by simp [meets, ghosts, St.le, St.get, look, keys, PV.labs, labsL, lookB, Blk.labs, PV.cells, hq1, hqx1]⟩
      · exact ⟨[], _, rfl, by simp [meets, ghosts, St.le, St.get, look, keys, PV.labs, labsL, lookB, Blk.labs, PV.cells, hq1, hqx1]⟩
      · exact trivial
    conv => whnf
    refine And.intro (fun s hs => ?_) ?_
    · simp only [inv18] at hs
      obtain rfl := hs
      (conv => whnf); repeat' (first | ((first | (refine And.intro ?_ ?_; focus exact Cl4) | refine Both.T (by exact rfl) ?_ | refine Both.F (by exact rfl) ?_ | refine Both.GT (by exact rfl) (by exact rfl) ?_ | refine Both.GF (by exact rfl) ?_ | refine Both.GN (by exact rfl) ?_); conv => whnf) | (rw [hqx]; conv => whnf) | (rw [hq]; conv => whnf) | ((refine Both.mk ?_ ?_ <;> fail_if_success (intro _)) <;> conv => whnf))
      · exact ⟨[], _, rfl, by simp [meets, ghosts, St.le, St.get, look, keys, PV.labs, labsL, lookB, Blk.labs, PV.cells, hq1, hqx1]⟩
      · exact ⟨[], _, Or.inl rfl, by simp [meets, ghosts, St.le, St.get, look, keys, PV.labs, labsL, lookB, Blk.labs, PV.cells, hq1, hqx1]⟩
      · exact trivial
    conv => whnf
    refine And.intro (fun s hs => ?_) ?_
    · simp only [inv18] at hs
      obtain rfl := hs
      (conv => whnf); repeat' (first | ((first | (refine And.intro ?_ ?_; focus exact Cl4) | refine Both.T (by exact rfl) ?_ | refine Both.F (by exact rfl) ?_ | refine Both.GT (by exact rfl) (by exact rfl) ?_ | refine Both.GF (by exact rfl) ?_ | refine Both.GN (by exact rfl) ?_); conv => whnf) | (rw [hqx]; conv => whnf) | (rw [hq]; conv => whnf) | ((refine Both.mk ?_ ?_ <;> fail_if_success (intro _)) <;> conv => whnf))
      · exact ⟨[], _, rfl, by simp [meets, ghosts, St.le, St.get, look, keys, PV.labs, labsL, lookB, Blk.labs, PV.cells, hq1, hqx1]⟩
      · exact ⟨[], _, Or.inr rfl, by simp [meets, ghosts, St.le, St.get, look, keys, PV.labs, labsL, lookB, Blk.labs, PV.cells, hq1, hqx1]⟩
      · exact trivial
    conv => whnf
    refine And.intro (fun s hs => ?_) ?_
    · simp only [inv18] at hs
      obtain rfl := hs
      (conv => whnf); repeat' (first | ((first | (refine And.intro ?_ ?_; focus exact Cl4) | refine Both.T (by exact rfl) ?_ | refine Both.F (by exact rfl) ?_ | refine Both.GT (by exact rfl) (by exact rfl) ?_ | refine Both.GF (by exact rfl) ?_ | refine Both.GN (by exact rfl) ?_); conv => whnf) | (rw [hqx]; conv => whnf) | (rw [hq]; conv => whnf) | ((refine Both.mk ?_ ?_ <;> fail_if_success (intro _)) <;> conv => whnf))
      · exact ⟨[], _, rfl, by simp [meets, ghosts, St.le, St.get, look, keys, PV.labs, labsL, lookB, Blk.labs, PV.cells, hq1, hqx1]⟩
      · exact ⟨[], _, Or.inl rfl, by simp [meets, ghosts, St.le, St.get, look, keys, PV.labs, labsL, lookB, Blk.labs, PV.cells, hq1, hqx1]⟩
      · exact trivial
    conv => whnf
    refine And.intro (fun s hs => ?_) ?_
    · simp only [inv18] at hs
      obtain rfl := hs
      (conv => whnf); repeat' (first | ((first | (refine And.intro ?_ ?_; focus exact Cl4) | refine Both.T (by exact rfl) ?_ | refine Both.F (by exact rfl) ?_ | refine Both.GT (by exact rfl) (by exact rfl) ?_ | refine Both.GF (by exact rfl) ?_ | refine Both.GN (by exact rfl) ?_); conv => whnf) | (rw [hqx]; conv => whnf) | (rw [hq]; conv => whnf) | ((refine Both.mk ?_ ?_ <;> fail_if_success (intro _)) <;> conv => whnf))
      · exact ⟨[], _, rfl, by simp [meets, ghosts, St.le, St.get, look, keys, PV.labs, labsL, lookB, Blk.labs, PV.cells, hq1, hqx1]⟩
      · exact ⟨[], _, Or.inr rfl, by simp [meets, ghosts, St.le, St.get, look, keys, PV.labs, labsL, lookB, Blk.labs, PV.cells, hq1, hqx1]⟩
      · exact trivial
    conv => whnf
    refine And.intro (fun s hs => ?_) ?_
    · simp only [inv18] at hs
      rcases hs with rfl | rfl
      · (conv => whnf); repeat' (first | ((first | (refine And.intro ?_ ?_; focus exact Cl4) | refine Both.T (by exact rfl) ?_ | refine Both.F (by exact rfl) ?_ | refine Both.GT (by exact rfl) (by exact rfl) ?_ | refine Both.GF (by exact rfl) ?_ | refine Both.GN (by exact rfl) ?_); conv => whnf) | (rw [hqx]; conv => whnf) | (rw [hq]; conv => whnf) | ((refine Both.mk ?_ ?_ <;> fail_if_success (intro _)) <;> conv => whnf))
        · exact ⟨[], _, Or.inl rfl, by simp [meets, ghosts, St.le, St.get, look, keys, PV.labs, labsL, lookB, Blk.labs, PV.cells, hq1, hqx1]⟩
        · exact ⟨[], _, Or.inl rfl, by simp [meets, ghosts, St.le, St.get, look, keys, PV.labs, labsL, lookB, Blk.labs, PV.cells, hq1, hqx1]⟩
        · exact trivial
      · (conv => whnf); repeat' (first | ((first | (refine And.intro ?_ ?_; focus exact Cl4) | refine Both.T (by exact rfl) ?_ | refine Both.F (by exact rfl) ?_ | refine Both.GT (by exact rfl) (by exact rfl) ?_ | refine Both.GF (by exact rfl) ?_ | refine Both.GN (by exact rfl) ?_); conv => whnf) | (rw [hqx]; conv => whnf) | (rw [hq]; conv => whnf) | ((refine Both.mk ?_ ?_ <;> fail_if_success (intro _)) <;> conv => whnf))
        · exact ⟨[], _, Or.inr rfl, by simp [meets, ghosts, St.le, St.get, look, keys, PV.labs, labsL, lookB, Blk.labs, PV.cells, hq1, hqx1]⟩
        · exact ⟨[], _, Or.inr rfl, by simp [meets, ghosts, St.le, St.get, look, keys, PV.labs, labsL, lookB, Blk.labs, PV.cells, hq1, hqx1]⟩
        · exact trivial
    conv => whnf
    refine And.intro (fun s hs => ?_) ?_
    · simp only [inv18] at hs
      rcases hs with rfl | rfl
      · (conv => whnf); repeat' (first | ((first | (refine And.intro ?_ ?_; focus exact Cl4) | refine Both.T (by exact rfl) ?_ | refine Both.F (by exact rfl) ?_ | refine Both.GT (by exact rfl) (by exact rfl) ?_ | refine Both.GF (by exact rfl) ?_ | refine Both.GN (by exact rfl) ?_); conv => whnf) | (rw [hqx]; conv => whnf) | (rw [hq]; conv => whnf) | ((refine Both.mk ?_ ?_ <;> fail_if_success (intro _)) <;> conv => whnf))
        · exact ⟨[], _, Or.inl rfl, by simp [meets, ghosts, St.le, St.get, look, keys, PV.labs, labsL, lookB, Blk.labs, PV.cells, hq1, hqx1]⟩
        · exact trivial
      · (conv => whnf); repeat' (first | ((first | (refine And.intro ?_ ?_; focus exact Cl4) | refine Both.T (by exact rfl) ?_ | refine Both.F (by exact rfl) ?_ | refine Both.GT (by exact rfl) (by exact rfl) ?_ | refine Both.GF (by exact rfl) ?_ | refine Both.GN (by exact rfl) ?_); conv => whnf) | (rw [hqx]; conv => whnf) | (rw [hq]; conv => whnf) | ((refine Both.mk ?_ ?_ <;> fail_if_success (intro _)) <;> conv => whnf))
        · exact ⟨[], _, Or.inr rfl, by simp [meets, ghosts, St.le, St.get, look, keys, PV.labs, labsL, lookB, Blk.labs, PV.cells, hq1, hqx1]⟩
        · exact trivial
    conv => whnf
    refine And.intro (fun s hs => ?_) ?_
    · simp only [inv18] at hs
      obtain rfl := hs
      (conv => whnf); repeat' (first | ((first | (refine And.intro ?_ ?_; focus exact Cl4) | refine Both.T (by exact rfl) ?_ | refine Both.F (by exact rfl) ?_ | refine Both.GT (by exact rfl) (by exact rfl) ?_ | refine Both.GF (by exact rfl) ?_ | refine Both.GN (by exact rfl) ?_); conv => whnf) | (rw [hqx]; conv => whnf) | (rw [hq]; conv => whnf) | ((refine Both.mk ?_ ?_ <;> fail_if_success (intro _)) <;> conv => whnf))
      · exact ⟨[], _, Or.inl rfl, by simp [meets, ghosts, St.le, St.get, look, keys, PV.labs, labsL, lookB, Blk.labs, PV.cells, hq1, hqx1]⟩
      · exact trivial
    conv => whnf
    refine And.intro (fun s hs => ?_) ?_
    · simp only [inv18] at hs
      obtain rfl := hs
      (conv => whnf); repeat' (first | ((first | (refine And.intro ?_ ?_; focus exact Cl4) | refine Both.T (by exact rfl) ?_ | refine Both.F (by exact rfl) ?_ | refine Both.GT (by exact rfl) (by exact rfl) ?_ | refine Both.GF (by exact rfl) ?_ | refine Both.GN (by exact rfl) ?_); conv => whnf) | (rw [hqx]; conv => whnf) | (rw [hq]; conv => whnf) | ((refine Both.mk ?_ ?_ <;> fail_if_success (intro _)) <;> conv => whnf))
      · exact ⟨[], _, Or.inr rfl, by simp [meets, ghosts, St.le, St.get, look, keys, PV.labs, labsL, lookB, Blk.labs, PV.cells, hq1, hqx1]⟩
      · exact trivial
    conv => whnf
    refine And.intro (fun s hs => ?_) ?_
    · simp only [inv18] at hs
      rcases hs with rfl | rfl
      · (conv => whnf); repeat' (first | ((first | (refine And.intro ?_ ?_; focus exact Cl4) | refine Both.T (by exact rfl) ?_ | refine Both.F (by exact rfl) ?_ | refine Both.GT (by exact rfl) (by exact rfl) ?_ | refine Both.GF (by exact rfl) ?_ | refine Both.GN (by exact rfl) ?_); conv => whnf) | (rw [hqx]; conv => whnf) | (rw [hq]; conv => whnf) | ((refine Both.mk ?_ ?_ <;> fail_if_success (intro _)) <;> conv => whnf))
        · exact ⟨[], _, Or.inl rfl, by simp [meets, ghosts, St.le, St.get, look, keys, PV.labs, labsL, lookB, Blk.labs, PV.cells, hq1, hqx1]⟩
        · exact ⟨[], _, Or.inl rfl, by simp [meets, ghosts, St.le, St.get, look, keys, PV.labs, labsL, lookB, Blk.labs, PV.cells, hq1, hqx1]⟩
        · exact trivial
      · (conv => whnf); repeat' (first | ((first | (refine And.intro ?_ ?_; focus exact Cl4) | refine Both.T (by exact rfl) ?_ | refine Both.F (by exact rfl) ?_ | refine Both.GT (by exact rfl) (by exact rfl) ?_ | refine Both.GF (by exact rfl) ?_ | refine Both.GN (by exact rfl) ?_); conv => whnf) | (rw [hqx]; conv => whnf) | (rw [hq]; conv => whnf) | ((refine Both.mk ?_ ?_ <;> fail_if_success (intro _)) <;> conv => whnf))
        · exact ⟨[], _, Or.inr rfl, by simp [meets, ghosts, St.le, St.get, look, keys, PV.labs, labsL, lookB, Blk.labs, PV.cells, hq1, hqx1]⟩
        · exact ⟨[], _, Or.inr rfl, by simp [meets, ghosts, St.le, St.get, look, keys, PV.labs, labsL, lookB, Blk.labs, PV.cells, hq1, hqx1]⟩
        · exact trivial
    conv => whnf
    refine And.intro (fun s hs => ?_) ?_
    · simp only [inv18] at hs
      rcases hs with rfl | rfl
      · (conv => whnf); repeat' (first | ((first | (refine And.intro ?_ ?_; focus exact Cl4) | refine Both.T (by exact rfl) ?_ | refine Both.F (by exact rfl) ?_ | refine Both.GT (by exact rfl) (by exact rfl) ?_ | refine Both.GF (by exact rfl) ?_ | refine Both.GN (by exact rfl) ?_); conv => whnf) | (rw [hqx]; conv => whnf) | (rw [hq]; conv => whnf) | ((refine Both.mk ?_ ?_ <;> fail_if_success (intro _)) <;> conv => whnf))
        · exact ⟨[], _, Or.inl rfl, by simp [meets, ghosts, St.le, St.get, look, keys, PV.labs, labsL, lookB, Blk.labs, PV.cells, hq1, hqx1]⟩
        · exact trivial
      · (conv => whnf); repeat' (first | ((first | (refine And.intro ?_ ?_; focus exact Cl4) | refine Both.T (by exact rfl) ?_ | refine Both.F (by exact rfl) ?_ | refine Both.GT (by exact rfl) (by exact rfl) ?_ | refine Both.GF (by exact rfl) ?_ | refine Both.GN (by exact rfl) ?_); conv => whnf) | (rw [hqx]; conv => whnf) | (rw [hq]; conv => whnf) | ((refine Both.mk ?_ ?_ <;> fail_if_success (intro _)) <;> conv => whnf))
        · exact ⟨[], _, Or.inr rfl, by simp [meets, ghosts, St.le, St.get, look, keys, PV.labs, labsL, lookB, Blk.labs, PV.cells, hq1, hqx1]⟩
        · exact trivial
    conv => whnf
    refine And.intro (fun s hs => ?_) ?_
    · simp only [inv18] at hs
      rcases hs with rfl | rfl
      · (conv => whnf); repeat' (first | ((first | (refine And.intro ?_ ?_; focus exact Cl4) | refine Both.T (by exact rfl) ?_ | refine Both.F (by exact rfl) ?_ | refine Both.GT (by exact rfl) (by exact rfl) ?_ | refine Both.GF (by exact rfl) ?_ | refine Both.GN (by exact rfl) ?_); conv => whnf) | (rw [hqx]; conv => whnf) | (rw [hq]; conv => whnf) | ((refine Both.mk ?_ ?_ <;> fail_if_success (intro _)) <;> conv => whnf))
        · exact ⟨[], _, Or.inl rfl, by simp [meets, ghosts, St.le, St.get, look, keys, PV.labs, labsL, lookB, Blk.labs, PV.cells, hq1, hqx1]⟩
        · exact trivial
      · (conv => whnf); repeat' (first | ((first | (refine And.intro ?_ ?_; focus exact Cl4) | refine Both.T (by exact rfl) ?_ | refine Both.F (by exact rfl) ?_ | refine Both.GT (by exact rfl) (by exact rfl) ?_ | refine Both.GF (by exact rfl) ?_ | refine Both.GN (by exact rfl) ?_); conv => whnf) | (rw [hqx]; conv => whnf) | (rw [hq]; conv => whnf) | ((refine Both.mk ?_ ?_ <;> fail_if_success (intro _)) <;> conv => whnf))
        · exact ⟨[], _, Or.inr rfl, by simp [meets, ghosts, St.le, St.get, look, keys, PV.labs, labsL, lookB, Blk.labs, PV.cells, hq1, hqx1]⟩
        · exact trivial
    conv => whnf
    refine And.intro (fun s hs => ?_) ?_
    · simp only [inv18] at hs
      rcases hs with rfl | rfl
      · (conv => whnf); repeat' (first | ((first | (refine And.intro ?_ ?_; focus exact Cl4) | refine Both.T (by exact rfl) ?_ | refine Both.F (by exact rfl) ?_ | refine Both.GT (by exact rfl) (by exact rfl) ?_ | refine Both.GF (by exact rfl) ?_ | refine Both.GN (by exact rfl) ?_); conv => whnf) | (rw [hqx]; conv => whnf) | (rw [hq]; conv => whnf) | ((refine Both.mk ?_ ?_ <;> fail_if_success (intro _)) <;> conv => whnf))
        · exact ⟨[], _, Or.inl rfl, by simp [meets, ghosts, St.le, St.get, look, keys, PV.labs, labsL, lookB, Blk.labs, PV.cells, hq1, hqx1]⟩
        · exact trivial
      · (conv => whnf); repeat' (first | ((first | (refine And.intro ?_ ?_; focus exact Cl4) | refine Both.T (by exact rfl) ?_ | refine Both.F (by exact rfl) ?_ | refine Both.GT (by exact rfl) (by exact rfl) ?_ | refine Both.GF (by exact rfl) ?_ | refine Both.GN (by exact rfl) ?_); conv => whnf) | (rw [hqx]; conv => whnf) | (rw [hq]; conv => whnf) | ((refine Both.mk ?_ ?_ <;> fail_if_success (intro _)) <;> conv => whnf))
        · exact ⟨[], _, Or.inr rfl, by simp [meets, ghosts, St.le, St.get, look, keys, PV.labs, labsL, lookB, Blk.labs, PV.cells, hq1, hqx1]⟩
        · exact trivial
    conv => whnf
    refine And.intro (fun s hs => ?_) ?_
    · simp only [inv18] at hs
      rcases hs with rfl | rfl
      · exact trivial
      · exact trivial
    conv => whnf
    exact trivial
  · simp only [inv18, List.length_cons, List.length_nil] at hs
    rcases hs with rfl | rfl
    · (conv => whnf); repeat ((first | (refine And.intro ?_ ?_; focus exact Cl4) | refine Both.T (by exact rfl) ?_ | refine Both.F (by exact rfl) ?_ | refine Both.GT (by exact rfl) (by exact rfl) ?_ | refine Both.GF (by exact rfl) ?_ | refine Both.GN (by exact rfl) ?_); conv => whnf)
      refine hmv _ ?_
      (conv => whnf); repeat ((first | (refine And.intro ?_ ?_; focus exact Cl4) | refine Both.T (by exact rfl) ?_ | refine Both.F (by exact rfl) ?_ | refine Both.GT (by exact rfl) (by exact rfl) ?_ | refine Both.GF (by exact rfl) ?_ | refine Both.GN (by exact rfl) ?_); conv => whnf)
      refine ⟨Unit, fun _ => ⟨149, [(14, .int .i64 ts.length), (13, .int .i64 (sh - off + on)), (11, .int .i64 off), (10, .ptr 3 0), (9, .ptr 2 0), (3, .int .i64 i), (2, .sl 3 L tl true)], [(2, .box [.int .i64 op, .int .i64 a, .int .i64 b]), (3, .box [.bool true, .int .i64 sh, .sl y (tps ts) u true])], []⟩, fun _ => True, ?_, fun _ _ => ?_⟩
      · (conv => whnf); repeat' (first | ((first | (refine And.intro ?_ ?_; focus exact Cl4) | refine Both.T (by exact rfl) ?_ | refine Both.F (by exact rfl) ?_ | refine Both.GT (by exact rfl) (by exact rfl) ?_ | refine Both.GF (by exact rfl) ?_ | refine Both.GN (by exact rfl) ?_); conv => whnf) | (fail; conv => whnf) | ((refine Both.mk ?_ ?_ <;> fail_if_success (intro _)) <;> conv => whnf))
        all_goals (
          refine ⟨[], (), trivial, ?_⟩
          simp [meets, ghosts, St.le, St.get, look, keys, PV.labs, labsL, lookB, Blk.labs, w1, w2, gl])
      conv => (arg 4; dsimp only)
      (conv => whnf); repeat ((first | (refine And.intro ?_ ?_; focus exact Cl4) | refine Both.T (by exact rfl) ?_ | refine Both.F (by exact rfl) ?_ | refine Both.GT (by exact rfl) (by exact rfl) ?_ | refine Both.GF (by exact rfl) ?_ | refine Both.GN (by exact rfl) ?_); conv => whnf)
      refine ⟨Unit, fun _ => ⟨149, [(64, .bool false), (14, .int .i64 ts.length), (13, .int .i64 (sh - off + on)), (10, .ptr 3 0), (9, .ptr 2 0), (3, .int .i64 i), (2, .sl 3 L tl true)], [(2, .box [.int .i64 op, .int .i64 a, .int .i64 b]), (3, .box [.bool true, .int .i64 sh, .sl y (tps ts) u true])], []⟩, fun _ => True, ?_, fun _ _ => ?_⟩
      · cases hlast : ts.getLast? with
        | none =>
          obtain rfl : ts = [] := List.getLast?_eq_none_iff.1 hlast
          (conv => whnf); repeat' (first | ((first | (refine And.intro ?_ ?_; focus exact Cl4) | refine Both.T (by exact rfl) ?_ | refine Both.F (by exact rfl) ?_ | refine Both.GT (by exact rfl) (by exact rfl) ?_ | refine Both.GF (by exact rfl) ?_ | refine Both.GN (by exact rfl) ?_); conv => whnf) | (rw [e1]; conv => whnf) | (rw [e2]; conv => whnf) | ((refine Both.mk ?_ ?_ <;> fail_if_success (intro _)) <;> conv => whnf))
          all_goals (
            refine ⟨[], (), trivial, ?_⟩
            simp [meets, ghosts, St.le, St.get, look, keys, PV.labs, labsL, lookB, Blk.labs])
        | some v =>
          have hne : ts ≠ [] := fun hc => by rw [hc] at hlast; cases hlast
          have hpos : 0 < ts.length := List.length_pos_iff.2 hne
          have w3 : IntKind.i64.wrap ((ts.length : Int) - 1) = (ts.length : Int) - 1 := wrap64 (by omega) (by omega)
          have hpl : ts.length - 1 < ts.length := by omega
          have hu : ts[ts.length - 1] = v := by
            rw [List.getLast?_eq_getElem?, List.getElem?_eq_getElem hpl] at hlast
            exact Option.some.inj hlast
          have hq2 : nth (tps ts) ((ts.length : Int) - 1).toNat = .agg [.int .i64 v.1, .int .i64 v.2] := by
            rw [show ((ts.length : Int) - 1).toNat = ts.length - 1 by omega, tps_nth hpl, hu]
          have hlo : decide (sh - off < v.2) = false := by
            unfold lowOk at hlow
            simp only [hlast] at hlow
            have := of_decide_eq_true hlow
            exact decide_eq_false (by omega)
          (conv => whnf); repeat' (first | ((first | (refine And.intro ?_ ?_; focus exact Cl4) | refine Both.T (by exact rfl) ?_ | refine Both.F (by exact rfl) ?_ | refine Both.GT (by exact rfl) (by exact rfl) ?_ | refine Both.GF (by exact rfl) ?_ | refine Both.GN (by exact rfl) ?_); conv => whnf) | (rw [e1]; conv => whnf) | (rw [e2]; conv => whnf) | (rw [decide_eq_true (show (0 : Int) < (ts.length : Int) by omega)]; conv => whnf) | (rw [w3]; conv => whnf) | (rw [w2]; conv => whnf) | (rw [hq2]; conv => whnf) | (rw [hlo]; conv => whnf) | ((refine Both.mk ?_ ?_ <;> fail_if_success (intro _)) <;> conv => whnf))
          all_goals (
            refine ⟨[], (), trivial, ?_⟩
            simp [meets, ghosts, St.le, St.get, look, keys, PV.labs, labsL, lookB, Blk.labs])
      conv => (arg 4; dsimp only)
      (conv => whnf); repeat ((first | (refine And.intro ?_ ?_; focus exact Cl4) | refine Both.T (by exact rfl) ?_ | refine Both.F (by exact rfl) ?_ | refine Both.GT (by exact rfl) (by exact rfl) ?_ | refine Both.GF (by exact rfl) ?_ | refine Both.GN (by exact rfl) ?_); conv => whnf)
      by_cases h28 : op = 28 ∨ op = 30
      · rcases h28 with h28 | h28
        all_goals (
          subst h28
          (conv => whnf); repeat ((first | (refine And.intro ?_ ?_; focus exact Cl4) | refine Both.T (by exact rfl) ?_ | refine Both.F (by exact rfl) ?_ | refine Both.GT (by exact rfl) (by exact rfl) ?_ | refine Both.GF (by exact rfl) ?_ | refine Both.GN (by exact rfl) ?_); conv => whnf)
          exact h)
      rw [if_neg h28] at hn
      have e28 : (op == 28) = false := by simp; omega
      have e30 : (op == 30) = false := by simp; omega
      rw [e28]
      (conv => whnf); repeat ((first | (refine And.intro ?_ ?_; focus exact Cl4) | refine Both.T (by exact rfl) ?_ | refine Both.F (by exact rfl) ?_ | refine Both.GT (by exact rfl) (by exact rfl) ?_ | refine Both.GF (by exact rfl) ?_ | refine Both.GN (by exact rfl) ?_); conv => whnf)
      rw [e30]
      (conv => whnf); repeat ((first | (refine And.intro ?_ ?_; focus exact Cl4) | refine Both.T (by exact rfl) ?_ | refine Both.F (by exact rfl) ?_ | refine Both.GT (by exact rfl) (by exact rfl) ?_ | refine Both.GF (by exact rfl) ?_ | refine Both.GN (by exact rfl) ?_); conv => whnf)
      by_cases h24 : op = 24
      · rw [if_pos h24] at hn
        cases hn
        subst h24
        (conv => whnf); repeat ((first | (refine And.intro ?_ ?_; focus exact Cl4) | refine Both.T (by exact rfl) ?_ | refine Both.F (by exact rfl) ?_ | refine Both.GT (by exact rfl) (by exact rfl) ?_ | refine Both.GF (by exact rfl) ?_ | refine Both.GN (by exact rfl) ?_); conv => whnf)
        refine ld a (sh - off + on) ts y _ hy (hm (a, ⟨sh - off + on, ts⟩) (by simp)) _ ?_
        (conv => whnf); repeat ((first | (refine And.intro ?_ ?_; focus exact Cl4) | refine Both.T (by exact rfl) ?_ | refine Both.F (by exact rfl) ?_ | refine Both.GT (by exact rfl) (by exact rfl) ?_ | refine Both.GF (by exact rfl) ?_ | refine Both.GN (by exact rfl) ?_); conv => whnf)
        exact h
      rw [if_neg h24] at hn
      have e24 : (op == 24) = false := by simp; omega
      rw [e24]
      (conv => whnf); repeat ((first | (refine And.intro ?_ ?_; focus exact Cl4) | refine Both.T (by exact rfl) ?_ | refine Both.F (by exact rfl) ?_ | refine Both.GT (by exact rfl) (by exact rfl) ?_ | refine Both.GF (by exact rfl) ?_ | refine Both.GN (by exact rfl) ?_); conv => whnf)
      by_cases h25 : op = 25
      · rw [if_pos h25] at hn
        cases hn
        subst h25
        (conv => whnf); repeat ((first | (refine And.intro ?_ ?_; focus exact Cl4) | refine Both.T (by exact rfl) ?_ | refine Both.F (by exact rfl) ?_ | refine Both.GT (by exact rfl) (by exact rfl) ?_ | refine Both.GF (by exact rfl) ?_ | refine Both.GN (by exact rfl) ?_); conv => whnf)
        refine ld a (sh - off + on) ts y _ hy (hm (a, ⟨sh - off + on, ts⟩) (by simp)) _ ?_
        (conv => whnf); repeat ((first | (refine And.intro ?_ ?_; focus exact Cl4) | refine Both.T (by exact rfl) ?_ | refine Both.F (by exact rfl) ?_ | refine Both.GT (by exact rfl) (by exact rfl) ?_ | refine Both.GF (by exact rfl) ?_ | refine Both.GN (by exact rfl) ?_); conv => whnf)
        rw [hi1]
        refine ld ((i : Int) + 1) (sh - off + on) ts y _ hy (hm ((i : Int) + 1, ⟨sh - off + on, ts⟩) (by simp)) _ ?_
        (conv => whnf); repeat ((first | (refine And.intro ?_ ?_; focus exact Cl4) | refine Both.T (by exact rfl) ?_ | refine Both.F (by exact rfl) ?_ | refine Both.GT (by exact rfl) (by exact rfl) ?_ | refine Both.GF (by exact rfl) ?_ | refine Both.GN (by exact rfl) ?_); conv => whnf)
        exact h
      rw [if_neg h25] at hn
      have e25 : (op == 25) = false := by simp; omega
      rw [e25]
      (conv => whnf); repeat ((first | (refine And.intro ?_ ?_; focus exact Cl4) | refine Both.T (by exact rfl) ?_ | refine Both.F (by exact rfl) ?_ | refine Both.GT (by exact rfl) (by exact rfl) ?_ | refine Both.GF (by exact rfl) ?_ | refine Both.GN (by exact rfl) ?_); conv => whnf)
      by_cases h26 : op = 26
      · rw [if_pos h26] at hn
        split at hn
        · cases hn
        cases hn
        subst h26
        (conv => whnf); repeat ((first | (refine And.intro ?_ ?_; focus exact Cl4) | refine Both.T (by exact rfl) ?_ | refine Both.F (by exact rfl) ?_ | refine Both.GT (by exact rfl) (by exact rfl) ?_ | refine Both.GF (by exact rfl) ?_ | refine Both.GN (by exact rfl) ?_); conv => whnf)
        rw [wrap64 (n := sh - off + on + 1) (by omega) (by omega)]
        refine ⟨Unit, fun _ => ⟨149, [(105, .sl y (tps ts) u true), (103, .int .i64 (sh - off + on + 1)), (101, .int .i64 a), (99, .sl 3 L tl true), (14, .int .i64 ts.length), (13, .int .i64 (sh - off + on)), (10, .ptr 3 0), (9, .ptr 2 0), (3, .int .i64 i), (2, .sl 3 L tl true)], [(2, .box [.int .i64 26, .int .i64 a, .int .i64 b]), (3, .box [.bool true, .int .i64 sh, .sl y (tps ts) u true])], []⟩, fun _ => True, ?_, fun _ _ => ?_⟩
        · (conv => whnf); repeat' (first | ((first | (refine And.intro ?_ ?_; focus exact Cl4) | refine Both.T (by exact rfl) ?_ | refine Both.F (by exact rfl) ?_ | refine Both.GT (by exact rfl) (by exact rfl) ?_ | refine Both.GF (by exact rfl) ?_ | refine Both.GN (by exact rfl) ?_); conv => whnf) | (fail; conv => whnf) | ((refine Both.mk ?_ ?_ <;> fail_if_success (intro _)) <;> conv => whnf))
          all_goals (
            refine ⟨[], (), trivial, ?_⟩
            simp [meets, ghosts, St.le, St.get, look, keys, PV.labs, labsL, lookB, Blk.labs])
        conv => (arg 4; dsimp only)
        (conv => whnf); repeat ((first | (refine And.intro ?_ ?_; focus exact Cl4) | refine Both.T (by exact rfl) ?_ | refine Both.F (by exact rfl) ?_ | refine Both.GT (by exact rfl) (by exact rfl) ?_ | refine Both.GF (by exact rfl) ?_ | refine Both.GN (by exact rfl) ?_); conv => whnf)
        refine ld a (sh - off + on + 1) ts y _ hy (hm (a, ⟨sh - off + on + 1, ts⟩) (by simp)) _ ?_
        (conv => whnf); repeat ((first | (refine And.intro ?_ ?_; focus exact Cl4) | refine Both.T (by exact rfl) ?_ | refine Both.F (by exact rfl) ?_ | refine Both.GT (by exact rfl) (by exact rfl) ?_ | refine Both.GF (by exact rfl) ?_ | refine Both.GN (by exact rfl) ?_); conv => whnf)
        rw [hi1]
        refine ⟨Unit, fun _ => ⟨149, [(121, .ref 2 4 0 1), (116, .cond true (.sl y (tps ts) true true)), (111, .cond true (.int .i64 (sh - off + on))), (110, .cond true (.int .i64 ((i : Int) + 1))), (108, .cond true (.sl 3 L tl true)), (107, .bool true), (14, .int .i64 ts.length), (13, .int .i64 (sh - off + on)), (10, .ptr 3 0), (9, .ptr 2 0), (3, .int .i64 i), (2, .sl 3 L tl true)], [(4, .row 42 2 [.agg [.int .i64 a, .int .i64 (sh - off + on)]] false), (2, .box [.int .i64 26, .int .i64 a, .int .i64 b]), (3, .box [.bool true, .int .i64 sh, .sl y (tps ts) u true])], []⟩, fun _ => True, ?_, fun _ _ => ?_⟩
        · (conv => whnf); repeat' (first | ((first | (refine And.intro ?_ ?_; focus exact Cl4) | refine Both.T (by exact rfl) ?_ | refine Both.F (by exact rfl) ?_ | refine Both.GT (by exact rfl) (by exact rfl) ?_ | refine Both.GF (by exact rfl) ?_ | refine Both.GN (by exact rfl) ?_); conv => whnf) | (fail; conv => whnf) | ((refine Both.mk ?_ ?_ <;> fail_if_success (intro _)) <;> conv => whnf))
          all_goals (
            refine ⟨[], (), trivial, ?_⟩
            simp [meets, ghosts, St.le, St.get, look, keys, PV.labs, labsL, lookB, Blk.labs, htk])
        conv => (arg 4; dsimp only)
        have fl := tps_flat1 ts
        have hz26 := hm ((i : Int) + 1, ⟨sh - off + on, ts ++ [(a, sh - off + on)]⟩) (by simp)
        cases ts with
        | nil =>
          (conv => whnf); repeat ((first | (refine And.intro ?_ ?_; focus exact Cl4) | refine Both.T (by exact rfl) ?_ | refine Both.F (by exact rfl) ?_ | refine Both.GT (by exact rfl) (by exact rfl) ?_ | refine Both.GF (by exact rfl) ?_ | refine Both.GN (by exact rfl) ?_); conv => whnf)
          refine ld ((i : Int) + 1) (sh - off + on) [(a, sh - off + on)] 2 _ (Or.inl rfl) hz26 _ ?_
          (conv => whnf); repeat ((first | (refine And.intro ?_ ?_; focus exact Cl4) | refine Both.T (by exact rfl) ?_ | refine Both.F (by exact rfl) ?_ | refine Both.GT (by exact rfl) (by exact rfl) ?_ | refine Both.GF (by exact rfl) ?_ | refine Both.GN (by exact rfl) ?_); conv => whnf)
          exact h
        | cons c r =>
          obtain rfl : y = 2 := hy.resolve_right (by simp)
          (conv => whnf); repeat ((first | (refine And.intro ?_ ?_; focus exact Cl4) | refine Both.T (by exact rfl) ?_ | refine Both.F (by exact rfl) ?_ | refine Both.GT (by exact rfl) (by exact rfl) ?_ | refine Both.GF (by exact rfl) ?_ | refine Both.GN (by exact rfl) ?_); conv => whnf)
          refine ⟨by show ((tps (c :: r)).length + 1) * 17 ≤ _; omega, ?_⟩
          (conv => whnf); repeat ((first | (refine And.intro ?_ ?_; focus exact Cl4) | refine Both.T (by exact rfl) ?_ | refine Both.F (by exact rfl) ?_ | refine Both.GT (by exact rfl) (by exact rfl) ?_ | refine Both.GF (by exact rfl) ?_ | refine Both.GN (by exact rfl) ?_); conv => whnf)
          have htk2 : List.take ((tps (c :: r)).length + (List.take 1 (List.drop 0 [PV.agg [.int .i64 a, .int .i64 (sh - off + on)]])).length) (List.drop 0 (tps (c :: r) ++ List.take 1 (List.drop 0 [PV.agg [.int .i64 a, .int .i64 (sh - off + on)]]))) = tps (c :: r ++ [(a, sh - off + on)]) := by
            have e3 : List.drop 0 (tps (c :: r) ++ List.take 1 (List.drop 0 [PV.agg [.int .i64 a, .int .i64 (sh - off + on)]])) = tps (c :: r ++ [(a, sh - off + on)]) := (List.map_append (f := fun t : Int × Int => PV.agg [.int .i64 t.1, .int .i64 t.2]) (l₁ := c :: r) (l₂ := [(a, sh - off + on)])).symm
            rw [e3]
            exact List.take_of_length_le (by simp [tps])
          rw [htk2]
          refine ld ((i : Int) + 1) (sh - off + on) (c :: r ++ [(a, sh - off + on)]) 2 _ (Or.inl rfl) hz26 _ ?_
          (conv => whnf); repeat ((first | (refine And.intro ?_ ?_; focus exact Cl4) | refine Both.T (by exact rfl) ?_ | refine Both.F (by exact rfl) ?_ | refine Both.GT (by exact rfl) (by exact rfl) ?_ | refine Both.GF (by exact rfl) ?_ | refine Both.GN (by exact rfl) ?_); conv => whnf)
          exact h
      rw [if_neg h26] at hn
      have e26 : (op == 26) = false := by simp; omega
      rw [e26]
      (conv => whnf); repeat ((first | (refine And.intro ?_ ?_; focus exact Cl4) | refine Both.T (by exact rfl) ?_ | refine Both.F (by exact rfl) ?_ | refine Both.GT (by exact rfl) (by exact rfl) ?_ | refine Both.GF (by exact rfl) ?_ | refine Both.GN (by exact rfl) ?_); conv => whnf)
      by_cases h27 : op = 27
      · rw [if_pos h27] at hn
        split at hn
        · cases hn
        rename_i ht0
        cases hn
        subst h27
        have hpos : 0 < ts.length := List.length_pos_iff.2 ht0
        (conv => whnf); repeat ((first | (refine And.intro ?_ ?_; focus exact Cl4) | refine Both.T (by exact rfl) ?_ | refine Both.F (by exact rfl) ?_ | refine Both.GT (by exact rfl) (by exact rfl) ?_ | refine Both.GF (by exact rfl) ?_ | refine Both.GN (by exact rfl) ?_); conv => whnf)
        rw [decide_eq_true (show (0 : Int) < (ts.length : Int) by omega)]
        (conv => whnf); repeat ((first | (refine And.intro ?_ ?_; focus exact Cl4) | refine Both.T (by exact rfl) ?_ | refine Both.F (by exact rfl) ?_ | refine Both.GT (by exact rfl) (by exact rfl) ?_ | refine Both.GF (by exact rfl) ?_ | refine Both.GN (by exact rfl) ?_); conv => whnf)
        rw [wrap64 (n := (ts.length : Int) - 1) (by omega) (by omega)]
        (conv => whnf); repeat ((first | (refine And.intro ?_ ?_; focus exact Cl4) | refine Both.T (by exact rfl) ?_ | refine Both.F (by exact rfl) ?_ | refine Both.GT (by exact rfl) (by exact rfl) ?_ | refine Both.GF (by exact rfl) ?_ | refine Both.GN (by exact rfl) ?_); conv => whnf)
        have hdl : List.drop 0 (List.take (if 0 > (ts.length : Int) - 1 then 0 else (ts.length : Int) - 1).toNat (tps ts)) = tps ts.dropLast := by
          rw [if_neg (by omega), List.drop_zero, show ((ts.length : Int) - 1).toNat = ts.length - 1 by omega, List.dropLast_eq_take, tps, tps, List.map_take]
        rw [hdl, hi1]
        refine ld ((i : Int) + 1) (sh - off + on) ts.dropLast y _ (hy.imp id fun h => (by rw [h]; rfl)) (hm ((i : Int) + 1, ⟨sh - off + on, ts.dropLast⟩) (by simp)) _ ?_
        (conv => whnf); repeat ((first | (refine And.intro ?_ ?_; focus exact Cl4) | refine Both.T (by exact rfl) ?_ | refine Both.F (by exact rfl) ?_ | refine Both.GT (by exact rfl) (by exact rfl) ?_ | refine Both.GF (by exact rfl) ?_ | refine Both.GN (by exact rfl) ?_); conv => whnf)
        exact h
      rw [if_neg h27] at hn
      have e27 : (op == 27) = false := by simp; omega
      rw [e27]
      cases hn
      (conv => whnf); repeat ((first | (refine And.intro ?_ ?_; focus exact Cl4) | refine Both.T (by exact rfl) ?_ | refine Both.F (by exact rfl) ?_ | refine Both.GT (by exact rfl) (by exact rfl) ?_ | refine Both.GF (by exact rfl) ?_ | refine Both.GN (by exact rfl) ?_); conv => whnf)
      rw [hi1]
      refine ld ((i : Int) + 1) (sh - off + on) ts y _ hy (hm ((i : Int) + 1, ⟨sh - off + on, ts⟩) (by simp)) _ ?_
      (conv => whnf); repeat ((first | (refine And.intro ?_ ?_; focus exact Cl4) | refine Both.T (by exact rfl) ?_ | refine Both.F (by exact rfl) ?_ | refine Both.GT (by exact rfl) (by exact rfl) ?_ | refine Both.GF (by exact rfl) ?_ | refine Both.GN (by exact rfl) ?_); conv => whnf)
      exact h
    · (conv => whnf); repeat ((first | (refine And.intro ?_ ?_; focus exact Cl4) | refine Both.T (by exact rfl) ?_ | refine Both.F (by exact rfl) ?_ | refine Both.GT (by exact rfl) (by exact rfl) ?_ | refine Both.GF (by exact rfl) ?_ | refine Both.GN (by exact rfl) ?_); conv => whnf)
      refine hmv _ ?_
      (conv => whnf); repeat ((first | (refine And.intro ?_ ?_; focus exact Cl4) | refine Both.T (by exact rfl) ?_ | refine Both.F (by exact rfl) ?_ | refine Both.GT (by exact rfl) (by exact rfl) ?_ | refine Both.GF (by exact rfl) ?_ | refine Both.GN (by exact rfl) ?_); conv => whnf)
      refine ⟨Unit, fun _ => ⟨149, [(14, .int .i64 ts.length), (13, .int .i64 (sh - off + on)), (11, .int .i64 off), (10, .ptr 2 0), (9, .ptr 3 0), (3, .int .i64 i), (2, .sl 3 L tl true)], [(3, .box [.int .i64 op, .int .i64 a, .int .i64 b]), (2, .box [.bool true, .int .i64 sh, .sl y (tps ts) u true])], []⟩, fun _ => True, ?_, fun _ _ => ?_⟩
      · (conv => whnf); repeat' (first | ((first | (refine And.intro ?_ ?_; focus exact Cl4) | refine Both.T (by exact rfl) ?_ | refine Both.F (by exact rfl) ?_ | refine Both.GT (by exact rfl) (by exact rfl) ?_ | refine Both.GF (by exact rfl) ?_ | refine Both.GN (by exact rfl) ?_); conv => whnf) | (fail; conv => whnf) | ((refine Both.mk ?_ ?_ <;> fail_if_success (intro _)) <;> conv => whnf))
        all_goals (
          refine ⟨[], (), trivial, ?_⟩
          simp [meets, ghosts, St.le, St.get, look, keys, PV.labs, labsL, lookB, Blk.labs, w1, w2, gl])
      conv => (arg 4; dsimp only)
      (conv => whnf); repeat ((first | (refine And.intro ?_ ?_; focus exact Cl4) | refine Both.T (by exact rfl) ?_ | refine Both.F (by exact rfl) ?_ | refine Both.GT (by exact rfl) (by exact rfl) ?_ | refine Both.GF (by exact rfl) ?_ | refine Both.GN (by exact rfl) ?_); conv => whnf)
      refine ⟨Unit, fun _ => ⟨149, [(64, .bool false), (14, .int .i64 ts.length), (13, .int .i64 (sh - off + on)), (10, .ptr 2 0), (9, .ptr 3 0), (3, .int .i64 i), (2, .sl 3 L tl true)], [(3, .box [.int .i64 op, .int .i64 a, .int .i64 b]), (2, .box [.bool true, .int .i64 sh, .sl y (tps ts) u true])], []⟩, fun _ => True, ?_, fun _ _ => ?_⟩
      · cases hlast : ts.getLast? with
        | none =>
          obtain rfl : ts = [] := List.getLast?_eq_none_iff.1 hlast
          (conv => whnf); repeat' (first | ((first | (refine And.intro ?_ ?_; focus exact Cl4) | refine Both.T (by exact rfl) ?_ | refine Both.F (by exact rfl) ?_ | refine Both.GT (by exact rfl) (by exact rfl) ?_ | refine Both.GF (by exact rfl) ?_ | refine Both.GN (by exact rfl) ?_); conv => whnf) | (rw [e1]; conv => whnf) | (rw [e2]; conv => whnf) | ((refine Both.mk ?_ ?_ <;> fail_if_success (intro _)) <;> conv => whnf))
          all_goals (
            refine ⟨[], (), trivial, ?_⟩
            simp [meets, ghosts, St.le, St.get, look, keys, PV.labs, labsL, lookB, Blk.labs])
        | some v =>
          have hne : ts ≠ [] := fun hc => by rw [hc] at hlast; cases hlast
          have hpos : 0 < ts.length := List.length_pos_iff.2 hne
          have w3 : IntKind.i64.wrap ((ts.length : Int) - 1) = (ts.length : Int) - 1 := wrap64 (by omega) (by omega)
          have hpl : ts.length - 1 < ts.length := by omega
          have hu : ts[ts.length - 1] = v := by
            rw [List.getLast?_eq_getElem?, List.getElem?_eq_getElem hpl] at hlast
            exact Option.some.inj hlast
          have hq2 : nth (tps ts) ((ts.length : Int) - 1).toNat = .agg [.int .i64 v.1, .int .i64 v.2] := by
            rw [show ((ts.length : Int) - 1).toNat = ts.length - 1 by omega, tps_nth hpl, hu]
          have hlo : decide (sh - off < v.2) = false := by
            unfold lowOk at hlow
            simp only [hlast] at hlow
            have := of_decide_eq_true hlow
            exact decide_eq_false (by omega)
          (conv => whnf); repeat' (first | ((first | (refine And.intro ?_ ?_; focus exact Cl4) | refine Both.T (by exact rfl) ?_ | refine Both.F (by exact rfl) ?_ | refine Both.GT (by exact rfl) (by exact rfl) ?_ | refine Both.GF (by exact rfl) ?_ | refine Both.GN (by exact rfl) ?_); conv => whnf) | (rw [e1]; conv => whnf) | (rw [e2]; conv => whnf) | (rw [decide_eq_true (show (0 : Int) < (ts.length : Int) by omega)]; conv => whnf) | (rw [w3]; conv => whnf) | (rw [w2]; conv => whnf) | (rw [hq2]; conv => whnf) | (rw [hlo]; conv => whnf) | ((refine Both.mk ?_ ?_ <;> fail_if_success (intro _)) <;> conv => whnf))
          all_goals (
            refine ⟨[], (), trivial, ?_⟩
            simp [meets, ghosts, St.le, St.get, look, keys, PV.labs, labsL, lookB, Blk.labs])
      conv => (arg 4; dsimp only)
      (conv => whnf); repeat ((first | (refine And.intro ?_ ?_; focus exact Cl4) | refine Both.T (by exact rfl) ?_ | refine Both.F (by exact rfl) ?_ | refine Both.GT (by exact rfl) (by exact rfl) ?_ | refine Both.GF (by exact rfl) ?_ | refine Both.GN (by exact rfl) ?_); conv => whnf)
      by_cases h28 : op = 28 ∨ op = 30
      · rcases h28 with h28 | h28
        all_goals (
          subst h28
          (conv => whnf); repeat ((first | (refine And.intro ?_ ?_; focus exact Cl4) | refine Both.T (by exact rfl) ?_ | refine Both.F (by exact rfl) ?_ | refine Both.GT (by exact rfl) (by exact rfl) ?_ | refine Both.GF (by exact rfl) ?_ | refine Both.GN (by exact rfl) ?_); conv => whnf)
          exact h)
      rw [if_neg h28] at hn
      have e28 : (op == 28) = false := by simp; omega
      have e30 : (op == 30) = false := by simp; omega
      rw [e28]
      (conv => whnf); repeat ((first | (refine And.intro ?_ ?_; focus exact Cl4) | refine Both.T (by exact rfl) ?_ | refine Both.F (by exact rfl) ?_ | refine Both.GT (by exact rfl) (by exact rfl) ?_ | refine Both.GF (by exact rfl) ?_ | refine Both.GN (by exact rfl) ?_); conv => whnf)
      rw [e30]
      (conv => whnf); repeat ((first | (refine And.intro ?_ ?_; focus exact Cl4) | refine Both.T (by exact rfl) ?_ | refine Both.F (by exact rfl) ?_ | refine Both.GT (by exact rfl) (by exact rfl) ?_ | refine Both.GF (by exact rfl) ?_ | refine Both.GN (by exact rfl) ?_); conv => whnf)
      by_cases h24 : op = 24
      · rw [if_pos h24] at hn
        cases hn
        subst h24
        (conv => whnf); repeat ((first | (refine And.intro ?_ ?_; focus exact Cl4) | refine Both.T (by exact rfl) ?_ | refine Both.F (by exact rfl) ?_ | refine Both.GT (by exact rfl) (by exact rfl) ?_ | refine Both.GF (by exact rfl) ?_ | refine Both.GN (by exact rfl) ?_); conv => whnf)
        refine ld a (sh - off + on) ts y _ hy (hm (a, ⟨sh - off + on, ts⟩) (by simp)) _ ?_
        (conv => whnf); repeat ((first | (refine And.intro ?_ ?_; focus exact Cl4) | refine Both.T (by exact rfl) ?_ | refine Both.F (by exact rfl) ?_ | refine Both.GT (by exact rfl) (by exact rfl) ?_ | refine Both.GF (by exact rfl) ?_ | refine Both.GN (by exact rfl) ?_); conv => whnf)
        exact h
      rw [if_neg h24] at hn
      have e24 : (op == 24) = false := by simp; omega
      rw [e24]
      (conv => whnf); repeat ((first | (refine And.intro ?_ ?_; focus exact Cl4) | refine Both.T (by exact rfl) ?_ | refine Both.F (by exact rfl) ?_ | refine Both.GT (by exact rfl) (by exact rfl) ?_ | refine Both.GF (by exact rfl) ?_ | refine Both.GN (by exact rfl) ?_); conv => whnf)
      by_cases h25 : op = 25
      · rw [if_pos h25] at hn
        cases hn
        subst h25
        (conv => whnf); repeat ((first | (refine And.intro ?_ ?_; focus exact Cl4) | refine Both.T (by exact rfl) ?_ | refine Both.F (by exact rfl) ?_ | refine Both.GT (by exact rfl) (by exact rfl) ?_ | refine Both.GF (by exact rfl) ?_ | refine Both.GN (by exact rfl) ?_); conv => whnf)
        refine ld a (sh - off + on) ts y _ hy (hm (a, ⟨sh - off + on, ts⟩) (by simp)) _ ?_
        (conv => whnf); repeat ((first | (refine And.intro ?_ ?_; focus exact Cl4) | refine Both.T (by exact rfl) ?_ | refine Both.F (by exact rfl) ?_ | refine Both.GT (by exact rfl) (by exact rfl) ?_ | refine Both.GF (by exact rfl) ?_ | refine Both.GN (by exact rfl) ?_); conv => whnf)
        rw [hi1]
        refine ld ((i : Int) + 1) (sh - off + on) ts y _ hy (hm ((i : Int) + 1, ⟨sh - off + on, ts⟩) (by simp)) _ ?_
        (conv => whnf); repeat ((first | (refine And.intro ?_ ?_; focus exact Cl4) | refine Both.T (by exact rfl) ?_ | refine Both.F (by exact rfl) ?_ | refine Both.GT (by exact rfl) (by exact rfl) ?_ | refine Both.GF (by exact rfl) ?_ | refine Both.GN (by exact rfl) ?_); conv => whnf)
        exact h
      rw [if_neg h25] at hn
      have e25 : (op == 25) = false := by simp; omega
      rw [e25]
      (conv => whnf); repeat ((first | (refine And.intro ?_ ?_; focus exact Cl4) | refine Both.T (by exact rfl) ?_ | refine Both.F (by exact rfl) ?_ | refine Both.GT (by exact rfl) (by exact rfl) ?_ | refine Both.GF (by exact rfl) ?_ | refine Both.GN (by exact rfl) ?_); conv => whnf)
      by_cases h26 : op = 26
      · rw [if_pos h26] at hn
        split at hn
        · cases hn
        cases hn
        subst h26
        (conv => whnf); repeat ((first | (refine And.intro ?_ ?_; focus exact Cl4) | refine Both.T (by exact rfl) ?_ | refine Both.F (by exact rfl) ?_ | refine Both.GT (by exact rfl) (by exact rfl) ?_ | refine Both.GF (by exact rfl) ?_ | refine Both.GN (by exact rfl) ?_); conv => whnf)
        rw [wrap64 (n := sh - off + on + 1) (by omega) (by omega)]
        refine ⟨Unit, fun _ => ⟨149, [(105, .sl y (tps ts) u true), (103, .int .i64 (sh - off + on + 1)), (101, .int .i64 a), (99, .sl 3 L tl true), (14, .int .i64 ts.length), (13, .int .i64 (sh - off + on)), (10, .ptr 2 0), (9, .ptr 3 0), (3, .int .i64 i), (2, .sl 3 L tl true)], [(3, .box [.int .i64 26, .int .i64 a, .int .i64 b]), (2, .box [.bool true, .int .i64 sh, .sl y (tps ts) u true])], []⟩, fun _ => True, ?_, fun _ _ => ?_⟩
        · (conv => whnf); repeat' (first | ((first | (refine And.intro ?_ ?_; focus exact Cl4) | refine Both.T (by exact rfl) ?_ | refine Both.F (by exact rfl) ?_ | refine Both.GT (by exact rfl) (by exact rfl) ?_ | refine Both.GF (by exact rfl) ?_ | refine Both.GN (by exact rfl) ?_); conv => whnf) | (fail; conv => whnf) | ((refine Both.mk ?_ ?_ <;> fail_if_success (intro _)) <;> conv => whnf))
          all_goals (
            refine ⟨[], (), trivial, ?_⟩
            simp [meets, ghosts, St.le, St.get, look, keys, PV.labs, labsL, lookB, Blk.labs])
        conv => (arg 4; dsimp only)
        (conv => whnf); repeat ((first | (refine And.intro ?_ ?_; focus exact Cl4) | refine Both.T (by exact rfl) ?_ | refine Both.F (by exact rfl) ?_ | refine Both.GT (by exact rfl) (by exact rfl) ?_ | refine Both.GF (by exact rfl) ?_ | refine Both.GN (by exact rfl) ?_); conv => whnf)
        refine ld a (sh - off + on + 1) ts y _ hy (hm (a, ⟨sh - off + on + 1, ts⟩) (by simp)) _ ?_
        (conv => whnf); repeat ((first | (refine And.intro ?_ ?_; focus exact Cl4) | refine Both.T (by exact rfl) ?_ | refine Both.F (by exact rfl) ?_ | refine Both.GT (by exact rfl) (by exact rfl) ?_ | refine Both.GF (by exact rfl) ?_ | refine Both.GN (by exact rfl) ?_); conv => whnf)
        rw [hi1]
        refine ⟨Unit, fun _ => ⟨149, [(121, .ref 2 4 0 1), (116, .cond true (.sl y (tps ts) true true)), (111, .cond true (.int .i64 (sh - off + on))), (110, .cond true (.int .i64 ((i : Int) + 1))), (108, .cond true (.sl 3 L tl true)), (107, .bool true), (14, .int .i64 ts.length), (13, .int .i64 (sh - off + on)), (10, .ptr 2 0), (9, .ptr 3 0), (3, .int .i64 i), (2, .sl 3 L tl true)], [(4, .row 42 2 [.agg [.int .i64 a, .int .i64 (sh - off + on)]] false), (3, .box [.int .i64 26, .int .i64 a, .int .i64 b]), (2, .box [.bool true, .int .i64 sh, .sl y (tps ts) u true])], []⟩, fun _ => True, ?_, fun _ _ => ?_⟩
        · (conv => whnf); repeat' (first | ((first | (refine And.intro ?_ ?_; focus exact Cl4) | refine Both.T (by exact rfl) ?_ | refine Both.F (by exact rfl) ?_ | refine Both.GT (by exact rfl) (by exact rfl) ?_ | refine Both.GF (by exact rfl) ?_ | refine Both.GN (by exact rfl) ?_); conv => whnf) | (fail; conv => whnf) | ((refine Both.mk ?_ ?_ <;> fail_if_success (intro _)) <;> conv => whnf))
          all_goals (
            refine ⟨[], (), trivial, ?_⟩
            simp [meets, ghosts, St.le, St.get, look, keys, PV.labs, labsL, lookB, Blk.labs, htk])
        conv => (arg 4; dsimp only)
        have fl := tps_flat1 ts
        have hz26 := hm ((i : Int) + 1, ⟨sh - off + on, ts ++ [(a, sh - off + on)]⟩) (by simp)
        cases ts with
        | nil =>
          (conv => whnf); repeat ((first | (refine And.intro ?_ ?_; focus exact Cl4) | refine Both.T (by exact rfl) ?_ | refine Both.F (by exact rfl) ?_ | refine Both.GT (by exact rfl) (by exact rfl) ?_ | refine Both.GF (by exact rfl) ?_ | refine Both.GN (by exact rfl) ?_); conv => whnf)
          refine ld ((i : Int) + 1) (sh - off + on) [(a, sh - off + on)] 2 _ (Or.inl rfl) hz26 _ ?_
          (conv => whnf); repeat ((first | (refine And.intro ?_ ?_; focus exact Cl4) | refine Both.T (by exact rfl) ?_ | refine Both.F (by exact rfl) ?_ | refine Both.GT (by exact rfl) (by exact rfl) ?_ | refine Both.GF (by exact rfl) ?_ | refine Both.GN (by exact rfl) ?_); conv => whnf)
          exact h
        | cons c r =>
          obtain rfl : y = 2 := hy.resolve_right (by simp)
          (conv => whnf); repeat ((first | (refine And.intro ?_ ?_; focus exact Cl4) | refine Both.T (by exact rfl) ?_ | refine Both.F (by exact rfl) ?_ | refine Both.GT (by exact rfl) (by exact rfl) ?_ | refine Both.GF (by exact rfl) ?_ | refine Both.GN (by exact rfl) ?_); conv => whnf)
          refine ⟨by show ((tps (c :: r)).length + 1) * 17 ≤ _; omega, ?_⟩
          (conv => whnf); repeat ((first | (refine And.intro ?_ ?_; focus exact Cl4) | refine Both.T (by exact rfl) ?_ | refine Both.F (by exact rfl) ?_ | refine Both.GT (by exact rfl) (by exact rfl) ?_ | refine Both.GF (by exact rfl) ?_ | refine Both.GN (by exact rfl) ?_); conv => whnf)
          have htk2 : List.take ((tps (c :: r)).length + (List.take 1 (List.drop 0 [PV.agg [.int .i64 a, .int .i64 (sh - off + on)]])).length) (List.drop 0 (tps (c :: r) ++ List.take 1 (List.drop 0 [PV.agg [.int .i64 a, .int .i64 (sh - off + on)]]))) = tps (c :: r ++ [(a, sh - off + on)]) := by
            have e3 : List.drop 0 (tps (c :: r) ++ List.take 1 (List.drop 0 [PV.agg [.int .i64 a, .int .i64 (sh - off + on)]])) = tps (c :: r ++ [(a, sh - off + on)]) := (List.map_append (f := fun t : Int × Int => PV.agg [.int .i64 t.1, .int .i64 t.2]) (l₁ := c :: r) (l₂ := [(a, sh - off + on)])).symm
            rw [e3]
            exact List.take_of_length_le (by simp [tps])
          rw [htk2]
          refine ld ((i : Int) + 1) (sh - off + on) (c :: r ++ [(a, sh - off + on)]) 2 _ (Or.inl rfl) hz26 _ ?_
          (conv => whnf); repeat ((first | (refine And.intro ?_ ?_; focus exact Cl4) | refine Both.T (by exact rfl) ?_ | refine Both.F (by exact rfl) ?_ | refine Both.GT (by exact rfl) (by exact rfl) ?_ | refine Both.GF (by exact rfl) ?_ | refine Both.GN (by exact rfl) ?_); conv => whnf)
          exact h
      rw [if_neg h26] at hn
      have e26 : (op == 26) = false := by simp; omega
      rw [e26]
      (conv => whnf); repeat ((first | (refine And.intro ?_ ?_; focus exact Cl4) | refine Both.T (by exact rfl) ?_ | refine Both.F (by exact rfl) ?_ | refine Both.GT (by exact rfl) (by exact rfl) ?_ | refine Both.GF (by exact rfl) ?_ | refine Both.GN (by exact rfl) ?_); conv => whnf)
      by_cases h27 : op = 27
      · rw [if_pos h27] at hn
        split at hn
        · cases hn
        rename_i ht0
        cases hn
        subst h27
        have hpos : 0 < ts.length := List.length_pos_iff.2 ht0
        (conv => whnf); repeat ((first | (refine And.intro ?_ ?_; focus exact Cl4) | refine Both.T (by exact rfl) ?_ | refine Both.F (by exact rfl) ?_ | refine Both.GT (by exact rfl) (by exact rfl) ?_ | refine Both.GF (by exact rfl) ?_ | refine Both.GN (by exact rfl) ?_); conv => whnf)
        rw [decide_eq_true (show (0 : Int) < (ts.length : Int) by omega)]
        (conv => whnf); repeat ((first | (refine And.intro ?_ ?_; focus exact Cl4) | refine Both.T (by exact rfl) ?_ | refine Both.F (by exact rfl) ?_ | refine Both.GT (by exact rfl) (by exact rfl) ?_ | refine Both.GF (by exact rfl) ?_ | refine Both.GN (by exact rfl) ?_); conv => whnf)
        rw [wrap64 (n := (ts.length : Int) - 1) (by omega) (by omega)]
        (conv => whnf); repeat ((first | (refine And.intro ?_ ?_; focus exact Cl4) | refine Both.T (by exact rfl) ?_ | refine Both.F (by exact rfl) ?_ | refine Both.GT (by exact rfl) (by exact rfl) ?_ | refine Both.GF (by exact rfl) ?_ | refine Both.GN (by exact rfl) ?_); conv => whnf)
        have hdl : List.drop 0 (List.take (if 0 > (ts.length : Int) - 1 then 0 else (ts.length : Int) - 1).toNat (tps ts)) = tps ts.dropLast := by
          rw [if_neg (by omega), List.drop_zero, show ((ts.length : Int) - 1).toNat = ts.length - 1 by omega, List.dropLast_eq_take, tps, tps, List.map_take]
        rw [hdl, hi1]
        refine ld ((i : Int) + 1) (sh - off + on) ts.dropLast y _ (hy.imp id fun h => (by rw [h]; rfl)) (hm ((i : Int) + 1, ⟨sh - off + on, ts.dropLast⟩) (by simp)) _ ?_
        (conv => whnf); repeat ((first | (refine And.intro ?_ ?_; focus exact Cl4) | refine Both.T (by exact rfl) ?_ | refine Both.F (by exact rfl) ?_ | refine Both.GT (by exact rfl) (by exact rfl) ?_ | refine Both.GF (by exact rfl) ?_ | refine Both.GN (by exact rfl) ?_); conv => whnf)
        exact h
      rw [if_neg h27] at hn
      have e27 : (op == 27) = false := by simp; omega
      rw [e27]
      cases hn
      (conv => whnf); repeat ((first | (refine And.intro ?_ ?_; focus exact Cl4) | refine Both.T (by exact rfl) ?_ | refine Both.F (by exact rfl) ?_ | refine Both.GT (by exact rfl) (by exact rfl) ?_ | refine Both.GF (by exact rfl) ?_ | refine Both.GN (by exact rfl) ?_); conv => whnf)
      rw [hi1]
      refine ld ((i : Int) + 1) (sh - off + on) ts y _ hy (hm ((i : Int) + 1, ⟨sh - off + on, ts⟩) (by simp)) _ ?_
      (conv => whnf); repeat ((first | (refine And.intro ?_ ?_; focus exact Cl4) | refine Both.T (by exact rfl) ?_ | refine Both.F (by exact rfl) ?_ | refine Both.GT (by exact rfl) (by exact rfl) ?_ | refine Both.GF (by exact rfl) ?_ | refine Both.GN (by exact rfl) ?_); conv => whnf)
      exact h
end Go.Vc
