/- What is proved here: contracts of functions of the program: of each function what it hands back and what it leaves in memory. Conditions: those that each theorem names. -/
import Derived.Test.YtmbopgmllnijjaaGreatTBp
set_option linter.unusedVariables false
set_option linter.unusedSimpArgs false
set_option linter.unusedSectionVars false
namespace Go.Vc
open Go Go.Proofs
set_option maxRecDepth 100000
def inv114 (ns : List (List UInt8)) (nm l : List UInt8) (m : Nat) (L : List PV) (k : Int) (z1 : Nat) (L1 : List PV) (z2 : Nat) (L2 : List PV) : Nat → St → Prop
 | 0, s => s = ⟨61, [(40, .ptr 0 2), (37, .str nm), (35, .ptr 0 1), (9, .str l), (8, .ptr 3 0), (2, .ptr 0 0)], [(0, .box [.int .i64 5, .ref 1 1 0 m, .ref 3 2 0 m]), (1, .row 9 1 (strs ns) false), (2, .row 162 3 L true), (3, .box [.int .i64 k, .sl z1 L1 false true, .sl z2 L2 false true])], []⟩
 | 1, s => s = ⟨61, [(36, .ref 1 1 0 m), (40, .ptr 0 2), (37, .str nm), (35, .ptr 0 1), (9, .str l), (8, .ptr 3 0), (2, .ptr 0 0)], [(0, .box [.int .i64 5, .ref 1 1 0 m, .ref 3 2 0 m]), (1, .row 9 1 (strs ns) false), (2, .row 162 3 L true), (3, .box [.int .i64 k, .sl z1 L1 false true, .sl z2 L2 false true])], []⟩
 | 2, s => s = ⟨61, [(38, .ref 1 4 0 1), (40, .ptr 0 2), (37, .str nm), (35, .ptr 0 1), (9, .str l), (8, .ptr 3 0), (2, .ptr 0 0)], [(0, .box [.int .i64 5, .ref 1 1 0 m, .ref 3 2 0 m]), (1, .row 9 1 (strs ns) false), (2, .row 162 3 L true), (3, .box [.int .i64 k, .sl z1 L1 false true, .sl z2 L2 false true]), (4, .row 9 1 [.str nm] false)], []⟩
 | 3, s => s = ⟨61, [(41, .ref 3 2 0 m), (40, .ptr 0 2), (37, .str nm), (35, .ptr 0 1), (9, .str l), (8, .ptr 3 0), (2, .ptr 0 0)], [(0, .box [.int .i64 5, .ref 1 1 0 m, .ref 3 2 0 m]), (1, .row 9 1 (strs ns) false), (2, .row 162 3 L true), (3, .box [.int .i64 k, .sl z1 L1 false true, .sl z2 L2 false true])], []⟩
 | 4, s => s = ⟨61, [(42, shp k z1 L1 z2 L2), (40, .ptr 0 2), (37, .str nm), (35, .ptr 0 1), (9, .str l), (8, .ptr 3 0), (2, .ptr 0 0)], [(0, .box [.int .i64 5, .ref 1 1 0 m, .ref 3 2 0 m]), (1, .row 9 1 (strs ns) false), (2, .row 162 3 L true), (3, .box [.int .i64 k, .sl z1 L1 false true, .sl z2 L2 false true])], []⟩
 | 5, s => s = ⟨61, [(38, .ref 1 4 0 1), (36, .ref 1 1 0 m), (40, .ptr 0 2), (37, .str nm), (35, .ptr 0 1), (9, .str l), (8, .ptr 3 0), (2, .ptr 0 0)], [(0, .box [.int .i64 5, .ref 1 1 0 m, .ref 3 2 0 m]), (1, .row 9 1 (strs ns) false), (2, .row 162 3 L true), (3, .box [.int .i64 k, .sl z1 L1 false true, .sl z2 L2 false true]), (4, .row 9 1 [.str nm] false)], []⟩
 | 6, s => s = ⟨61, [(41, .ref 3 2 0 m), (36, .ref 1 1 0 m), (40, .ptr 0 2), (37, .str nm), (35, .ptr 0 1), (9, .str l), (8, .ptr 3 0), (2, .ptr 0 0)], [(0, .box [.int .i64 5, .ref 1 1 0 m, .ref 3 2 0 m]), (1, .row 9 1 (strs ns) false), (2, .row 162 3 L true), (3, .box [.int .i64 k, .sl z1 L1 false true, .sl z2 L2 false true])], []⟩
 | 7, s => s = ⟨61, [(42, shp k z1 L1 z2 L2), (36, .ref 1 1 0 m), (40, .ptr 0 2), (37, .str nm), (35, .ptr 0 1), (9, .str l), (8, .ptr 3 0), (2, .ptr 0 0)], [(0, .box [.int .i64 5, .ref 1 1 0 m, .ref 3 2 0 m]), (1, .row 9 1 (strs ns) false), (2, .row 162 3 L true), (3, .box [.int .i64 k, .sl z1 L1 false true, .sl z2 L2 false true])], []⟩
 | 8, s => s = ⟨61, [(41, .ref 3 2 0 m), (38, .ref 1 4 0 1), (40, .ptr 0 2), (37, .str nm), (35, .ptr 0 1), (9, .str l), (8, .ptr 3 0), (2, .ptr 0 0)], [(0, .box [.int .i64 5, .ref 1 1 0 m, .ref 3 2 0 m]), (1, .row 9 1 (strs ns) false), (2, .row 162 3 L true), (3, .box [.int .i64 k, .sl z1 L1 false true, .sl z2 L2 false true]), (4, .row 9 1 [.str nm] false)], []⟩
 | 9, s => s = ⟨61, [(42, shp k z1 L1 z2 L2), (38, .ref 1 4 0 1), (40, .ptr 0 2), (37, .str nm), (35, .ptr 0 1), (9, .str l), (8, .ptr 3 0), (2, .ptr 0 0)], [(0, .box [.int .i64 5, .ref 1 1 0 m, .ref 3 2 0 m]), (1, .row 9 1 (strs ns) false), (2, .row 162 3 L true), (3, .box [.int .i64 k, .sl z1 L1 false true, .sl z2 L2 false true]), (4, .row 9 1 [.str nm] false)], []⟩
 | 10, s => s = ⟨61, [(42, shp k z1 L1 z2 L2), (41, .ref 3 2 0 m), (40, .ptr 0 2), (37, .str nm), (35, .ptr 0 1), (9, .str l), (8, .ptr 3 0), (2, .ptr 0 0)], [(0, .box [.int .i64 5, .ref 1 1 0 m, .ref 3 2 0 m]), (1, .row 9 1 (strs ns) false), (2, .row 162 3 L true), (3, .box [.int .i64 k, .sl z1 L1 false true, .sl z2 L2 false true])], []⟩
 | 11, s => s = ⟨61, [(43, .ref 3 4 0 1), (42, shp k z1 L1 z2 L2), (40, .ptr 0 2), (37, .str nm), (35, .ptr 0 1), (9, .str l), (8, .ptr 3 0), (2, .ptr 0 0)], [(0, .box [.int .i64 5, .ref 1 1 0 m, .ref 3 2 0 m]), (1, .row 9 1 (strs ns) false), (2, .row 162 3 L true), (3, .box [.int .i64 k, .sl z1 L1 false true, .sl z2 L2 false true]), (4, .row 162 3 [shp k z1 L1 z2 L2] true)], []⟩
 | 12, s => s = ⟨61, [(39, .ref 1 1 0 (m + 1)), (40, .ptr 0 2), (37, .str nm), (35, .ptr 0 1), (9, .str l), (8, .ptr 3 0), (2, .ptr 0 0)], [(0, .box [.int .i64 5, .undef, .ref 3 2 0 m]), (1, .row 9 1 (strs ns ++ [.str nm]) false), (2, .row 162 3 L true), (3, .box [.int .i64 k, .sl z1 L1 false true, .sl z2 L2 false true])], []⟩
 | 13, s => s = ⟨61, [(41, .ref 3 2 0 m), (38, .ref 1 4 0 1), (36, .ref 1 1 0 m), (40, .ptr 0 2), (37, .str nm), (35, .ptr 0 1), (9, .str l), (8, .ptr 3 0), (2, .ptr 0 0)], [(0, .box [.int .i64 5, .ref 1 1 0 m, .ref 3 2 0 m]), (1, .row 9 1 (strs ns) false), (2, .row 162 3 L true), (3, .box [.int .i64 k, .sl z1 L1 false true, .sl z2 L2 false true]), (4, .row 9 1 [.str nm] false)], []⟩
 | 14, s => s = ⟨61, [(42, shp k z1 L1 z2 L2), (38, .ref 1 4 0 1), (36, .ref 1 1 0 m), (40, .ptr 0 2), (37, .str nm), (35, .ptr 0 1), (9, .str l), (8, .ptr 3 0), (2, .ptr 0 0)], [(0, .box [.int .i64 5, .ref 1 1 0 m, .ref 3 2 0 m]), (1, .row 9 1 (strs ns) false), (2, .row 162 3 L true), (3, .box [.int .i64 k, .sl z1 L1 false true, .sl z2 L2 false true]), (4, .row 9 1 [.str nm] false)], []⟩
 | 15, s => s = ⟨61, [(42, shp k z1 L1 z2 L2), (41, .ref 3 2 0 m), (36, .ref 1 1 0 m), (40, .ptr 0 2), (37, .str nm), (35, .ptr 0 1), (9, .str l), (8, .ptr 3 0), (2, .ptr 0 0)], [(0, .box [.int .i64 5, .ref 1 1 0 m, .ref 3 2 0 m]), (1, .row 9 1 (strs ns) false), (2, .row 162 3 L true), (3, .box [.int .i64 k, .sl z1 L1 false true, .sl z2 L2 false true])], []⟩
 | 16, s => s = ⟨61, [(43, .ref 3 4 0 1), (42, shp k z1 L1 z2 L2), (36, .ref 1 1 0 m), (40, .ptr 0 2), (37, .str nm), (35, .ptr 0 1), (9, .str l), (8, .ptr 3 0), (2, .ptr 0 0)], [(0, .box [.int .i64 5, .ref 1 1 0 m, .ref 3 2 0 m]), (1, .row 9 1 (strs ns) false), (2, .row 162 3 L true), (3, .box [.int .i64 k, .sl z1 L1 false true, .sl z2 L2 false true]), (4, .row 162 3 [shp k z1 L1 z2 L2] true)], []⟩
 | 17, s => s = ⟨61, [(42, shp k z1 L1 z2 L2), (41, .ref 3 2 0 m), (38, .ref 1 4 0 1), (40, .ptr 0 2), (37, .str nm), (35, .ptr 0 1), (9, .str l), (8, .ptr 3 0), (2, .ptr 0 0)], [(0, .box [.int .i64 5, .ref 1 1 0 m, .ref 3 2 0 m]), (1, .row 9 1 (strs ns) false), (2, .row 162 3 L true), (3, .box [.int .i64 k, .sl z1 L1 false true, .sl z2 L2 false true]), (4, .row 9 1 [.str nm] false)], []⟩
 | 18, s => s = ⟨61, [(43, .ref 3 5 0 1), (42, shp k z1 L1 z2 L2), (38, .ref 1 4 0 1), (40, .ptr 0 2), (37, .str nm), (35, .ptr 0 1), (9, .str l), (8, .ptr 3 0), (2, .ptr 0 0)], [(0, .box [.int .i64 5, .ref 1 1 0 m, .ref 3 2 0 m]), (1, .row 9 1 (strs ns) false), (2, .row 162 3 L true), (3, .box [.int .i64 k, .sl z1 L1 false true, .sl z2 L2 false true]), (4, .row 9 1 [.str nm] false), (5, .row 162 3 [shp k z1 L1 z2 L2] true)], []⟩ ∨ s = ⟨61, [(43, .ref 3 4 0 1), (42, shp k z1 L1 z2 L2), (38, .ref 1 5 0 1), (40, .ptr 0 2), (37, .str nm), (35, .ptr 0 1), (9, .str l), (8, .ptr 3 0), (2, .ptr 0 0)], [(0, .box [.int .i64 5, .ref 1 1 0 m, .ref 3 2 0 m]), (1, .row 9 1 (strs ns) false), (2, .row 162 3 L true), (3, .box [.int .i64 k, .sl z1 L1 false true, .sl z2 L2 false true]), (5, .row 9 1 [.str nm] false), (4, .row 162 3 [shp k z1 L1 z2 L2] true)], []⟩
 | 19, s => s = ⟨61, [(43, .ref 3 4 0 1), (42, shp k z1 L1 z2 L2), (41, .ref 3 2 0 m), (40, .ptr 0 2), (37, .str nm), (35, .ptr 0 1), (9, .str l), (8, .ptr 3 0), (2, .ptr 0 0)], [(0, .box [.int .i64 5, .ref 1 1 0 m, .ref 3 2 0 m]), (1, .row 9 1 (strs ns) false), (2, .row 162 3 L true), (3, .box [.int .i64 k, .sl z1 L1 false true, .sl z2 L2 false true]), (4, .row 162 3 [shp k z1 L1 z2 L2] true)], []⟩
 | 20, s => s = ⟨61, [(41, .ref 3 2 0 m), (39, .ref 1 1 0 (m + 1)), (40, .ptr 0 2), (37, .str nm), (35, .ptr 0 1), (9, .str l), (8, .ptr 3 0), (2, .ptr 0 0)], [(0, .box [.int .i64 5, .undef, .ref 3 2 0 m]), (1, .row 9 1 (strs ns ++ [.str nm]) false), (2, .row 162 3 L true), (3, .box [.int .i64 k, .sl z1 L1 false true, .sl z2 L2 false true])], []⟩
 | 21, s => s = ⟨61, [(42, shp k z1 L1 z2 L2), (39, .ref 1 1 0 (m + 1)), (40, .ptr 0 2), (37, .str nm), (35, .ptr 0 1), (9, .str l), (8, .ptr 3 0), (2, .ptr 0 0)], [(0, .box [.int .i64 5, .undef, .ref 3 2 0 m]), (1, .row 9 1 (strs ns ++ [.str nm]) false), (2, .row 162 3 L true), (3, .box [.int .i64 k, .sl z1 L1 false true, .sl z2 L2 false true])], []⟩
 | 22, s => s = ⟨61, [(42, shp k z1 L1 z2 L2), (41, .ref 3 2 0 m), (38, .ref 1 4 0 1), (36, .ref 1 1 0 m), (40, .ptr 0 2), (37, .str nm), (35, .ptr 0 1), (9, .str l), (8, .ptr 3 0), (2, .ptr 0 0)], [(0, .box [.int .i64 5, .ref 1 1 0 m, .ref 3 2 0 m]), (1, .row 9 1 (strs ns) false), (2, .row 162 3 L true), (3, .box [.int .i64 k, .sl z1 L1 false true, .sl z2 L2 false true]), (4, .row 9 1 [.str nm] false)], []⟩
 | 23, s => s = ⟨61, [(43, .ref 3 5 0 1), (42, shp k z1 L1 z2 L2), (38, .ref 1 4 0 1), (36, .ref 1 1 0 m), (40, .ptr 0 2), (37, .str nm), (35, .ptr 0 1), (9, .str l), (8, .ptr 3 0), (2, .ptr 0 0)], [(0, .box [.int .i64 5, .ref 1 1 0 m, .ref 3 2 0 m]), (1, .row 9 1 (strs ns) false), (2, .row 162 3 L true), (3, .box [.int .i64 k, .sl z1 L1 false true, .sl z2 L2 false true]), (4, .row 9 1 [.str nm] false), (5, .row 162 3 [shp k z1 L1 z2 L2] true)], []⟩ ∨ s = ⟨61, [(43, .ref 3 4 0 1), (42, shp k z1 L1 z2 L2), (38, .ref 1 5 0 1), (36, .ref 1 1 0 m), (40, .ptr 0 2), (37, .str nm), (35, .ptr 0 1), (9, .str l), (8, .ptr 3 0), (2, .ptr 0 0)], [(0, .box [.int .i64 5, .ref 1 1 0 m, .ref 3 2 0 m]), (1, .row 9 1 (strs ns) false), (2, .row 162 3 L true), (3, .box [.int .i64 k, .sl z1 L1 false true, .sl z2 L2 false true]), (5, .row 9 1 [.str nm] false), (4, .row 162 3 [shp k z1 L1 z2 L2] true)], []⟩
 | 24, s => s = ⟨61, [(43, .ref 3 4 0 1), (42, shp k z1 L1 z2 L2), (41, .ref 3 2 0 m), (36, .ref 1 1 0 m), (40, .ptr 0 2), (37, .str nm), (35, .ptr 0 1), (9, .str l), (8, .ptr 3 0), (2, .ptr 0 0)], [(0, .box [.int .i64 5, .ref 1 1 0 m, .ref 3 2 0 m]), (1, .row 9 1 (strs ns) false), (2, .row 162 3 L true), (3, .box [.int .i64 k, .sl z1 L1 false true, .sl z2 L2 false true]), (4, .row 162 3 [shp k z1 L1 z2 L2] true)], []⟩
 | 25, s => s = ⟨61, [(43, .ref 3 5 0 1), (42, shp k z1 L1 z2 L2), (41, .ref 3 2 0 m), (38, .ref 1 4 0 1), (40, .ptr 0 2), (37, .str nm), (35, .ptr 0 1), (9, .str l), (8, .ptr 3 0), (2, .ptr 0 0)], [(0, .box [.int .i64 5, .ref 1 1 0 m, .ref 3 2 0 m]), (1, .row 9 1 (strs ns) false), (2, .row 162 3 L true), (3, .box [.int .i64 k, .sl z1 L1 false true, .sl z2 L2 false true]), (4, .row 9 1 [.str nm] false), (5, .row 162 3 [shp k z1 L1 z2 L2] true)], []⟩ ∨ s = ⟨61, [(43, .ref 3 4 0 1), (42, shp k z1 L1 z2 L2), (41, .ref 3 2 0 m), (38, .ref 1 5 0 1), (40, .ptr 0 2), (37, .str nm), (35, .ptr 0 1), (9, .str l), (8, .ptr 3 0), (2, .ptr 0 0)], [(0, .box [.int .i64 5, .ref 1 1 0 m, .ref 3 2 0 m]), (1, .row 9 1 (strs ns) false), (2, .row 162 3 L true), (3, .box [.int .i64 k, .sl z1 L1 false true, .sl z2 L2 false true]), (5, .row 9 1 [.str nm] false), (4, .row 162 3 [shp k z1 L1 z2 L2] true)], []⟩
 | 26, s => s = ⟨61, [(45, .ptr 0 1), (41, .ref 3 2 0 m), (39, .ref 1 1 0 (m + 1)), (40, .ptr 0 2), (37, .str nm), (35, .ptr 0 1), (9, .str l), (8, .ptr 3 0), (2, .ptr 0 0)], [(0, .box [.int .i64 5, .undef, .ref 3 2 0 m]), (1, .row 9 1 (strs ns ++ [.str nm]) false), (2, .row 162 3 L true), (3, .box [.int .i64 k, .sl z1 L1 false true, .sl z2 L2 false true])], []⟩
 | 27, s => s = ⟨61, [(42, shp k z1 L1 z2 L2), (41, .ref 3 2 0 m), (39, .ref 1 1 0 (m + 1)), (40, .ptr 0 2), (37, .str nm), (35, .ptr 0 1), (9, .str l), (8, .ptr 3 0), (2, .ptr 0 0)], [(0, .box [.int .i64 5, .undef, .ref 3 2 0 m]), (1, .row 9 1 (strs ns ++ [.str nm]) false), (2, .row 162 3 L true), (3, .box [.int .i64 k, .sl z1 L1 false true, .sl z2 L2 false true])], []⟩
 | 28, s => s = ⟨61, [(43, .ref 3 4 0 1), (42, shp k z1 L1 z2 L2), (39, .ref 1 1 0 (m + 1)), (40, .ptr 0 2), (37, .str nm), (35, .ptr 0 1), (9, .str l), (8, .ptr 3 0), (2, .ptr 0 0)], [(0, .box [.int .i64 5, .undef, .ref 3 2 0 m]), (1, .row 9 1 (strs ns ++ [.str nm]) false), (2, .row 162 3 L true), (3, .box [.int .i64 k, .sl z1 L1 false true, .sl z2 L2 false true]), (4, .row 162 3 [shp k z1 L1 z2 L2] true)], []⟩ ∨ s = ⟨61, [(43, .ref 3 5 0 1), (42, shp k z1 L1 z2 L2), (39, .ref 1 1 0 (m + 1)), (40, .ptr 0 2), (37, .str nm), (35, .ptr 0 1), (9, .str l), (8, .ptr 3 0), (2, .ptr 0 0)], [(0, .box [.int .i64 5, .undef, .ref 3 2 0 m]), (1, .row 9 1 (strs ns ++ [.str nm]) false), (2, .row 162 3 L true), (3, .box [.int .i64 k, .sl z1 L1 false true, .sl z2 L2 false true]), (5, .row 162 3 [shp k z1 L1 z2 L2] true)], []⟩
 | 29, s => s = ⟨61, [(43, .ref 3 5 0 1), (42, shp k z1 L1 z2 L2), (41, .ref 3 2 0 m), (38, .ref 1 4 0 1), (36, .ref 1 1 0 m), (40, .ptr 0 2), (37, .str nm), (35, .ptr 0 1), (9, .str l), (8, .ptr 3 0), (2, .ptr 0 0)], [(0, .box [.int .i64 5, .ref 1 1 0 m, .ref 3 2 0 m]), (1, .row 9 1 (strs ns) false), (2, .row 162 3 L true), (3, .box [.int .i64 k, .sl z1 L1 false true, .sl z2 L2 false true]), (4, .row 9 1 [.str nm] false), (5, .row 162 3 [shp k z1 L1 z2 L2] true)], []⟩ ∨ s = ⟨61, [(43, .ref 3 4 0 1), (42, shp k z1 L1 z2 L2), (41, .ref 3 2 0 m), (38, .ref 1 5 0 1), (36, .ref 1 1 0 m), (40, .ptr 0 2), (37, .str nm), (35, .ptr 0 1), (9, .str l), (8, .ptr 3 0), (2, .ptr 0 0)], [(0, .box [.int .i64 5, .ref 1 1 0 m, .ref 3 2 0 m]), (1, .row 9 1 (strs ns) false), (2, .row 162 3 L true), (3, .box [.int .i64 k, .sl z1 L1 false true, .sl z2 L2 false true]), (5, .row 9 1 [.str nm] false), (4, .row 162 3 [shp k z1 L1 z2 L2] true)], []⟩
 | 30, s => s = ⟨61, [(45, .ptr 0 1), (42, shp k z1 L1 z2 L2), (41, .ref 3 2 0 m), (39, .ref 1 1 0 (m + 1)), (40, .ptr 0 2), (37, .str nm), (35, .ptr 0 1), (9, .str l), (8, .ptr 3 0), (2, .ptr 0 0)], [(0, .box [.int .i64 5, .undef, .ref 3 2 0 m]), (1, .row 9 1 (strs ns ++ [.str nm]) false), (2, .row 162 3 L true), (3, .box [.int .i64 k, .sl z1 L1 false true, .sl z2 L2 false true])], []⟩
 | 31, s => s = ⟨61, [(43, .ref 3 4 0 1), (42, shp k z1 L1 z2 L2), (41, .ref 3 2 0 m), (39, .ref 1 1 0 (m + 1)), (40, .ptr 0 2), (37, .str nm), (35, .ptr 0 1), (9, .str l), (8, .ptr 3 0), (2, .ptr 0 0)], [(0, .box [.int .i64 5, .undef, .ref 3 2 0 m]), (1, .row 9 1 (strs ns ++ [.str nm]) false), (2, .row 162 3 L true), (3, .box [.int .i64 k, .sl z1 L1 false true, .sl z2 L2 false true]), (4, .row 162 3 [shp k z1 L1 z2 L2] true)], []⟩ ∨ s = ⟨61, [(43, .ref 3 5 0 1), (42, shp k z1 L1 z2 L2), (41, .ref 3 2 0 m), (39, .ref 1 1 0 (m + 1)), (40, .ptr 0 2), (37, .str nm), (35, .ptr 0 1), (9, .str l), (8, .ptr 3 0), (2, .ptr 0 0)], [(0, .box [.int .i64 5, .undef, .ref 3 2 0 m]), (1, .row 9 1 (strs ns ++ [.str nm]) false), (2, .row 162 3 L true), (3, .box [.int .i64 k, .sl z1 L1 false true, .sl z2 L2 false true]), (5, .row 162 3 [shp k z1 L1 z2 L2] true)], []⟩
 | 32, s => s = ⟨61, [(45, .ptr 0 1), (43, .ref 3 4 0 1), (42, shp k z1 L1 z2 L2), (41, .ref 3 2 0 m), (39, .ref 1 1 0 (m + 1)), (40, .ptr 0 2), (37, .str nm), (35, .ptr 0 1), (9, .str l), (8, .ptr 3 0), (2, .ptr 0 0)], [(0, .box [.int .i64 5, .undef, .ref 3 2 0 m]), (1, .row 9 1 (strs ns ++ [.str nm]) false), (2, .row 162 3 L true), (3, .box [.int .i64 k, .sl z1 L1 false true, .sl z2 L2 false true]), (4, .row 162 3 [shp k z1 L1 z2 L2] true)], []⟩ ∨ s = ⟨61, [(45, .ptr 0 1), (43, .ref 3 5 0 1), (42, shp k z1 L1 z2 L2), (41, .ref 3 2 0 m), (39, .ref 1 1 0 (m + 1)), (40, .ptr 0 2), (37, .str nm), (35, .ptr 0 1), (9, .str l), (8, .ptr 3 0), (2, .ptr 0 0)], [(0, .box [.int .i64 5, .undef, .ref 3 2 0 m]), (1, .row 9 1 (strs ns ++ [.str nm]) false), (2, .row 162 3 L true), (3, .box [.int .i64 k, .sl z1 L1 false true, .sl z2 L2 false true]), (5, .row 162 3 [shp k z1 L1 z2 L2] true)], []⟩
 | _, _ => False
theorem strs_app2 (a : List (List UInt8)) (b : List UInt8) : strs (a ++ [b]) = strs a ++ [.str b] := by unfold strs; rw [List.map_append]; rfl
theorem recM_eq (n : Nat) (ns : List (List UInt8)) (t : List UInt8) : recM (n + 1) ns t = (match (cutM t).2.2 && (readM n (cutM t).2.1).2, (readM n (cutM t).2.1).1 with
   | true, 125 :: r => (r, rise [] (ns ++ [(cutM t).1]))
   | true, 44 :: r => recM n (ns ++ [(cutM t).1]) r
   | _, _ => ([], false)) := by
 rw [recM]
 generalize readM n (cutM t).2.1 = x
 obtain ⟨l, ok⟩ := x
 rfl
set_option maxHeartbeats 32000000 in
theorem rec_step {n : Nat} (hr : ∀ m, m < n → ReadC m) : RecC n := by
 intro t ht hl Post h
 refine is140.specW K_ok K_mix false (by simp) (by simp [keys]) ?_
 (conv => whnf); repeat ((first | (apply And.intro;· exact Cl4) | apply T1 | apply T2 | apply T3 | apply T4 | apply T6 | apply T5); conv => whnf)
 refine ⟨Nat × List (List UInt8) × List PV × List UInt8, fun x => ⟨61, [(2, .ptr 0 0), (0, .str x.2.2.2)], [(0, .box [.int .i64 5, .ref 1 1 0 x.2.1.length, .ref 3 2 0 x.2.1.length]), (1, .row 9 1 (strs x.2.1) false), (2, .row 162 3 x.2.2.1 true)], []⟩,
  fun x => x.1 ≤ n ∧ 2 * x.2.2.2.length + 2 ≤ x.1 ∧ x.2.2.2.length ≤ 1000000 ∧ x.2.1.length + x.2.2.2.length ≤ 1000000 ∧ recM n [] t = recM x.1 x.2.1 x.2.2.2, fun x => x.2.2.2.length,
  ⟨[.cell 0 1 9, .cell 0 2 162, .age 2], (n, [], [], t), ⟨Nat.le_refl _, ht, hl, by simpa using hl, rfl⟩, ?_⟩, fun x hI => ?_⟩
 ·simp [meets, ghosts, ghost, St.le, St.get, St.put, look, keys, PV.labs, labsL, lookB, Blk.labs, fresh, nth, updB, strs]
  exact ⟨rfl, rfl⟩
 ·obtain ⟨m, ns, L, u⟩ := x
  obtain ⟨hm, hu, hul, hnl, hin⟩ := hI
  simp only at hm hu hul hnl hin
  rw [hin] at h
  obtain ⟨m, rfl⟩ : ∃ k, m = k + 1 := ⟨m - 1, by omega⟩
  rw [recM_eq] at h
  obtain ⟨hc1, hc2, hc3⟩ := cut_len u
  have hrd := hr m (by omega) (cutM u).2.1 (by
   cases hb : (cutM u).2.2
   ·rw [hc3 hb]; simp; omega
   ·have := hc2 hb; omega) (by omega)
  have hrl := (rest_len m).1 (cutM u).2.1
  conv => (arg 5; dsimp only)
  (conv => whnf); repeat ((first | (apply And.intro;· exact Cl4) | apply T1 | apply T2 | apply T3 | apply T4 | apply T6 | apply T5); conv => whnf)
  refine cut_spec u (by omega) _ ?_
  (conv => whnf); repeat ((first | (apply And.intro;· exact Cl4) | apply T1 | apply T2 | apply T3 | apply T4 | apply T6 | apply T5); conv => whnf)
  refine hrd _ (fun k z1 L1 z2 L2 => ?_)
  generalize hx : readM m (cutM u).2.1 = x at h hrl
  obtain ⟨l, ok⟩ := x
  generalize hcu : cutM u = y at h hc1 hc2 hc3 hrl
  obtain ⟨nm, bh, is⟩ := y
  simp only at h hrl hc1 hc2 hc3
  have hst : List.take ns.length (strs ns) = strs ns := List.take_of_length_le (by rw [strs_len]; omega)
  (conv => whnf); repeat ((first | (apply And.intro;· exact Cl4) | apply T1 | apply T2 | apply T3 | apply T4 | apply T6 | apply T5); conv => whnf)
  cases is
  case false =>
   refine Both.T (by rfl) ?_
   (conv => whnf); repeat ((first | (apply And.intro;· exact Cl4) | apply T1 | apply T2 | apply T3 | apply T4 | apply T6 | apply T5); conv => whnf)
   exact h _ _ _ _ _
  cases ok
  case false =>
   refine Both.T (by rfl) ?_
   (conv => whnf); repeat ((first | (apply And.intro;· exact Cl4) | apply T1 | apply T2 | apply T3 | apply T4 | apply T6 | apply T5); conv => whnf)
   exact h _ _ _ _ _
  cases l with
  | nil =>
   refine Both.T (by rfl) ?_
   (conv => whnf); repeat ((first | (apply And.intro;· exact Cl4) | apply T1 | apply T2 | apply T3 | apply T4 | apply T6 | apply T5); conv => whnf)
   exact h _ _ _ _ _
  | cons c r =>
  refine Both.F (by rfl) ?_
  (conv => whnf); repeat ((first | (apply And.intro;· exact Cl4) | apply T1 | apply T2 | apply T3 | apply T4 | apply T6 | apply T5); conv => whnf)
  refine ⟨inv114 ns nm (c :: r) ns.length L k z1 L1 z2 L2, ⟨[], _, rfl, ?_⟩, ?_, fun s hs => ?_⟩
  ·simp [meets, ghosts, St.le, St.get, look, keys, PV.labs, labsL, lookB, Blk.labs, hst]
  ·(conv => whnf)
   refine And.intro (fun s hs => ?_) ?_
   ·simp only [inv114] at hs
    obtain rfl := hs
    (conv => whnf); repeat' (first | ((first | (apply And.intro;· exact Cl4) | apply T1 | apply T2 | apply T3 | apply T4 | apply T6 | apply T5); conv => whnf) | (refine ⟨by show (ns.length + 1) * 17 ≤ _; omega, ?_⟩; conv => whnf) | ((refine Both.mk ?_ ?_ <;> fail_if_success (intro _)) <;> conv => whnf))
    ·exact ⟨[], _, rfl, by simp [meets, ghosts, St.le, St.get, look, keys, PV.labs, labsL, lookB, Blk.labs, hst]⟩
    ·exact ⟨[], _, rfl, by simp [meets, ghosts, St.le, St.get, look, keys, PV.labs, labsL, lookB, Blk.labs, hst]⟩
    ·exact ⟨[], _, rfl, by simp [meets, ghosts, St.le, St.get, look, keys, PV.labs, labsL, lookB, Blk.labs, hst]⟩
    ·exact ⟨[], _, rfl, by simp [meets, ghosts, St.le, St.get, look, keys, PV.labs, labsL, lookB, Blk.labs, hst]⟩
    ·exact trivial
   conv => whnf
   refine And.intro (fun s hs => ?_) ?_
   ·simp only [inv114] at hs
    obtain rfl := hs
    (conv => whnf); repeat' (first | ((first | (apply And.intro;· exact Cl4) | apply T1 | apply T2 | apply T3 | apply T4 | apply T6 | apply T5); conv => whnf) | (refine ⟨by show (ns.length + 1) * 17 ≤ _; omega, ?_⟩; conv => whnf) | ((refine Both.mk ?_ ?_ <;> fail_if_success (intro _)) <;> conv => whnf))
    ·exact ⟨[], _, rfl, by simp [meets, ghosts, St.le, St.get, look, keys, PV.labs, labsL, lookB, Blk.labs, hst]⟩
    ·exact ⟨[], _, rfl, by simp [meets, ghosts, St.le, St.get, look, keys, PV.labs, labsL, lookB, Blk.labs, hst]⟩
    ·exact ⟨[], _, rfl, by simp [meets, ghosts, St.le, St.get, look, keys, PV.labs, labsL, lookB, Blk.labs, hst]⟩
    ·exact trivial
   conv => whnf
   refine And.intro (fun s hs => ?_) ?_
   ·simp only [inv114] at hs
    obtain rfl := hs
    (conv => whnf); repeat' (first | ((first | (apply And.intro;· exact Cl4) | apply T1 | apply T2 | apply T3 | apply T4 | apply T6 | apply T5); conv => whnf) | (refine ⟨by show (ns.length + 1) * 17 ≤ _; omega, ?_⟩; conv => whnf) | ((refine Both.mk ?_ ?_ <;> fail_if_success (intro _)) <;> conv => whnf))
    ·exact ⟨[], _, rfl, by simp [meets, ghosts, St.le, St.get, look, keys, PV.labs, labsL, lookB, Blk.labs, hst]⟩
    ·exact ⟨[], _, rfl, by simp [meets, ghosts, St.le, St.get, look, keys, PV.labs, labsL, lookB, Blk.labs, hst]⟩
    ·exact ⟨[], _, rfl, by simp [meets, ghosts, St.le, St.get, look, keys, PV.labs, labsL, lookB, Blk.labs, hst]⟩
    ·exact trivial
   conv => whnf
   refine And.intro (fun s hs => ?_) ?_
   ·simp only [inv114] at hs
    obtain rfl := hs
    (conv => whnf); repeat' (first | ((first | (apply And.intro;· exact Cl4) | apply T1 | apply T2 | apply T3 | apply T4 | apply T6 | apply T5); conv => whnf) | (refine ⟨by show (ns.length + 1) * 17 ≤ _; omega, ?_⟩; conv => whnf) | ((refine Both.mk ?_ ?_ <;> fail_if_success (intro _)) <;> conv => whnf))
    ·exact ⟨[], _, rfl, by simp [meets, ghosts, St.le, St.get, look, keys, PV.labs, labsL, lookB, Blk.labs, hst]⟩
    ·exact ⟨[], _, rfl, by simp [meets, ghosts, St.le, St.get, look, keys, PV.labs, labsL, lookB, Blk.labs, hst]⟩
    ·exact ⟨[], _, rfl, by simp [meets, ghosts, St.le, St.get, look, keys, PV.labs, labsL, lookB, Blk.labs, hst]⟩
    ·exact trivial
   conv => whnf
   refine And.intro (fun s hs => ?_) ?_
   ·simp only [inv114] at hs
    obtain rfl := hs
    (conv => whnf); repeat' (first | ((first | (apply And.intro;· exact Cl4) | apply T1 | apply T2 | apply T3 | apply T4 | apply T6 | apply T5); conv => whnf) | (refine ⟨by show (ns.length + 1) * 17 ≤ _; omega, ?_⟩; conv => whnf) | ((refine Both.mk ?_ ?_ <;> fail_if_success (intro _)) <;> conv => whnf))
    ·exact ⟨[], _, rfl, by simp [meets, ghosts, St.le, St.get, look, keys, PV.labs, labsL, lookB, Blk.labs, hst]⟩
    ·exact ⟨[], _, rfl, by simp [meets, ghosts, St.le, St.get, look, keys, PV.labs, labsL, lookB, Blk.labs, hst]⟩
    ·exact ⟨[], _, rfl, by simp [meets, ghosts, St.le, St.get, look, keys, PV.labs, labsL, lookB, Blk.labs, hst]⟩
    ·exact ⟨[], _, rfl, by simp [meets, ghosts, St.le, St.get, look, keys, PV.labs, labsL, lookB, Blk.labs, hst]⟩
    ·exact trivial
   conv => whnf
   refine And.intro (fun s hs => ?_) ?_
   ·simp only [inv114] at hs
    obtain rfl := hs
    (conv => whnf); repeat' (first | ((first | (apply And.intro;· exact Cl4) | apply T1 | apply T2 | apply T3 | apply T4 | apply T6 | apply T5); conv => whnf) | (refine ⟨by show (ns.length + 1) * 17 ≤ _; omega, ?_⟩; conv => whnf) | ((refine Both.mk ?_ ?_ <;> fail_if_success (intro _)) <;> conv => whnf))
    ·exact ⟨[], _, rfl, by simp [meets, ghosts, St.le, St.get, look, keys, PV.labs, labsL, lookB, Blk.labs, hst]⟩
    ·exact ⟨[], _, rfl, by simp [meets, ghosts, St.le, St.get, look, keys, PV.labs, labsL, lookB, Blk.labs, hst]⟩
    ·exact ⟨[], _, rfl, by simp [meets, ghosts, St.le, St.get, look, keys, PV.labs, labsL, lookB, Blk.labs, hst]⟩
    ·exact trivial
   conv => whnf
   refine And.intro (fun s hs => ?_) ?_
   ·simp only [inv114] at hs
    obtain rfl := hs
    (conv => whnf); repeat' (first | ((first | (apply And.intro;· exact Cl4) | apply T1 | apply T2 | apply T3 | apply T4 | apply T6 | apply T5); conv => whnf) | (refine ⟨by show (ns.length + 1) * 17 ≤ _; omega, ?_⟩; conv => whnf) | ((refine Both.mk ?_ ?_ <;> fail_if_success (intro _)) <;> conv => whnf))
    ·exact ⟨[], _, rfl, by simp [meets, ghosts, St.le, St.get, look, keys, PV.labs, labsL, lookB, Blk.labs, hst]⟩
    ·exact ⟨[], _, rfl, by simp [meets, ghosts, St.le, St.get, look, keys, PV.labs, labsL, lookB, Blk.labs, hst]⟩
    ·exact trivial
   conv => whnf
   refine And.intro (fun s hs => ?_) ?_
   ·simp only [inv114] at hs
    obtain rfl := hs
    (conv => whnf); repeat' (first | ((first | (apply And.intro;· exact Cl4) | apply T1 | apply T2 | apply T3 | apply T4 | apply T6 | apply T5); conv => whnf) | (refine ⟨by show (ns.length + 1) * 17 ≤ _; omega, ?_⟩; conv => whnf) | ((refine Both.mk ?_ ?_ <;> fail_if_success (intro _)) <;> conv => whnf))
    ·exact ⟨[], _, rfl, by simp [meets, ghosts, St.le, St.get, look, keys, PV.labs, labsL, lookB, Blk.labs, hst]⟩
    ·exact ⟨[], _, rfl, by simp [meets, ghosts, St.le, St.get, look, keys, PV.labs, labsL, lookB, Blk.labs, hst]⟩
    ·exact ⟨[], _, rfl, by simp [meets, ghosts, St.le, St.get, look, keys, PV.labs, labsL, lookB, Blk.labs, hst]⟩
    ·exact trivial
   conv => whnf
   refine And.intro (fun s hs => ?_) ?_
   ·simp only [inv114] at hs
    obtain rfl := hs
    (conv => whnf); repeat' (first | ((first | (apply And.intro;· exact Cl4) | apply T1 | apply T2 | apply T3 | apply T4 | apply T6 | apply T5); conv => whnf) | (refine ⟨by show (ns.length + 1) * 17 ≤ _; omega, ?_⟩; conv => whnf) | ((refine Both.mk ?_ ?_ <;> fail_if_success (intro _)) <;> conv => whnf))
    ·exact ⟨[], _, rfl, by simp [meets, ghosts, St.le, St.get, look, keys, PV.labs, labsL, lookB, Blk.labs, hst]⟩
    ·exact ⟨[], _, rfl, by simp [meets, ghosts, St.le, St.get, look, keys, PV.labs, labsL, lookB, Blk.labs, hst]⟩
    ·exact trivial
   conv => whnf
   refine And.intro (fun s hs => ?_) ?_
   ·simp only [inv114] at hs
    obtain rfl := hs
    (conv => whnf); repeat' (first | ((first | (apply And.intro;· exact Cl4) | apply T1 | apply T2 | apply T3 | apply T4 | apply T6 | apply T5); conv => whnf) | (refine ⟨by show (ns.length + 1) * 17 ≤ _; omega, ?_⟩; conv => whnf) | ((refine Both.mk ?_ ?_ <;> fail_if_success (intro _)) <;> conv => whnf))
    ·exact ⟨[], _, rfl, by simp [meets, ghosts, St.le, St.get, look, keys, PV.labs, labsL, lookB, Blk.labs, hst]⟩
    ·exact ⟨[], _, rfl, by simp [meets, ghosts, St.le, St.get, look, keys, PV.labs, labsL, lookB, Blk.labs, hst]⟩
    ·exact ⟨[], _, Or.inl rfl, by simp [meets, ghosts, St.le, St.get, look, keys, PV.labs, labsL, lookB, Blk.labs, hst]⟩
    ·exact trivial
   conv => whnf
   refine And.intro (fun s hs => ?_) ?_
   ·simp only [inv114] at hs
    obtain rfl := hs
    (conv => whnf); repeat' (first | ((first | (apply And.intro;· exact Cl4) | apply T1 | apply T2 | apply T3 | apply T4 | apply T6 | apply T5); conv => whnf) | (refine ⟨by show (ns.length + 1) * 17 ≤ _; omega, ?_⟩; conv => whnf) | ((refine Both.mk ?_ ?_ <;> fail_if_success (intro _)) <;> conv => whnf))
    ·exact ⟨[], _, rfl, by simp [meets, ghosts, St.le, St.get, look, keys, PV.labs, labsL, lookB, Blk.labs, hst]⟩
    ·exact ⟨[], _, rfl, by simp [meets, ghosts, St.le, St.get, look, keys, PV.labs, labsL, lookB, Blk.labs, hst]⟩
    ·exact ⟨[], _, rfl, by simp [meets, ghosts, St.le, St.get, look, keys, PV.labs, labsL, lookB, Blk.labs, hst]⟩
    ·exact trivial
   conv => whnf
   refine And.intro (fun s hs => ?_) ?_
   ·simp only [inv114] at hs
    obtain rfl := hs
    (conv => whnf); repeat' (first | ((first | (apply And.intro;· exact Cl4) | apply T1 | apply T2 | apply T3 | apply T4 | apply T6 | apply T5); conv => whnf) | (refine ⟨by show (ns.length + 1) * 17 ≤ _; omega, ?_⟩; conv => whnf) | ((refine Both.mk ?_ ?_ <;> fail_if_success (intro _)) <;> conv => whnf))
    ·exact ⟨[], _, rfl, by simp [meets, ghosts, St.le, St.get, look, keys, PV.labs, labsL, lookB, Blk.labs, hst]⟩
    ·exact ⟨[], _, Or.inr rfl, by simp [meets, ghosts, St.le, St.get, look, keys, PV.labs, labsL, lookB, Blk.labs, hst]⟩
    ·exact ⟨[], _, rfl, by simp [meets, ghosts, St.le, St.get, look, keys, PV.labs, labsL, lookB, Blk.labs, hst]⟩
    ·exact trivial
   conv => whnf
   refine And.intro (fun s hs => ?_) ?_
   ·simp only [inv114] at hs
    obtain rfl := hs
    (conv => whnf); repeat' (first | ((first | (apply And.intro;· exact Cl4) | apply T1 | apply T2 | apply T3 | apply T4 | apply T6 | apply T5); conv => whnf) | (refine ⟨by show (ns.length + 1) * 17 ≤ _; omega, ?_⟩; conv => whnf) | ((refine Both.mk ?_ ?_ <;> fail_if_success (intro _)) <;> conv => whnf))
    ·exact ⟨[], _, rfl, by simp [meets, ghosts, St.le, St.get, look, keys, PV.labs, labsL, lookB, Blk.labs, hst]⟩
    ·exact ⟨[], _, rfl, by simp [meets, ghosts, St.le, St.get, look, keys, PV.labs, labsL, lookB, Blk.labs, hst]⟩
    ·exact trivial
   conv => whnf
   refine And.intro (fun s hs => ?_) ?_
   ·simp only [inv114] at hs
    obtain rfl := hs
    (conv => whnf); repeat' (first | ((first | (apply And.intro;· exact Cl4) | apply T1 | apply T2 | apply T3 | apply T4 | apply T6 | apply T5); conv => whnf) | (refine ⟨by show (ns.length + 1) * 17 ≤ _; omega, ?_⟩; conv => whnf) | ((refine Both.mk ?_ ?_ <;> fail_if_success (intro _)) <;> conv => whnf))
    ·exact ⟨[], _, rfl, by simp [meets, ghosts, St.le, St.get, look, keys, PV.labs, labsL, lookB, Blk.labs, hst]⟩
    ·exact ⟨[], _, rfl, by simp [meets, ghosts, St.le, St.get, look, keys, PV.labs, labsL, lookB, Blk.labs, hst]⟩
    ·exact trivial
   conv => whnf
   refine And.intro (fun s hs => ?_) ?_
   ·simp only [inv114] at hs
    obtain rfl := hs
    (conv => whnf); repeat' (first | ((first | (apply And.intro;· exact Cl4) | apply T1 | apply T2 | apply T3 | apply T4 | apply T6 | apply T5); conv => whnf) | (refine ⟨by show (ns.length + 1) * 17 ≤ _; omega, ?_⟩; conv => whnf) | ((refine Both.mk ?_ ?_ <;> fail_if_success (intro _)) <;> conv => whnf))
    ·exact ⟨[], _, rfl, by simp [meets, ghosts, St.le, St.get, look, keys, PV.labs, labsL, lookB, Blk.labs, hst]⟩
    ·exact ⟨[], _, rfl, by simp [meets, ghosts, St.le, St.get, look, keys, PV.labs, labsL, lookB, Blk.labs, hst]⟩
    ·exact ⟨[], _, Or.inl rfl, by simp [meets, ghosts, St.le, St.get, look, keys, PV.labs, labsL, lookB, Blk.labs, hst]⟩
    ·exact trivial
   conv => whnf
   refine And.intro (fun s hs => ?_) ?_
   ·simp only [inv114] at hs
    obtain rfl := hs
    (conv => whnf); repeat' (first | ((first | (apply And.intro;· exact Cl4) | apply T1 | apply T2 | apply T3 | apply T4 | apply T6 | apply T5); conv => whnf) | (refine ⟨by show (ns.length + 1) * 17 ≤ _; omega, ?_⟩; conv => whnf) | ((refine Both.mk ?_ ?_ <;> fail_if_success (intro _)) <;> conv => whnf))
    ·exact ⟨[], _, rfl, by simp [meets, ghosts, St.le, St.get, look, keys, PV.labs, labsL, lookB, Blk.labs, hst]⟩
    ·exact ⟨[], _, rfl, by simp [meets, ghosts, St.le, St.get, look, keys, PV.labs, labsL, lookB, Blk.labs, hst]⟩
    ·exact trivial
   conv => whnf
   refine And.intro (fun s hs => ?_) ?_
   ·simp only [inv114] at hs
    obtain rfl := hs
    (conv => whnf); repeat' (first | ((first | (apply And.intro;· exact Cl4) | apply T1 | apply T2 | apply T3 | apply T4 | apply T6 | apply T5); conv => whnf) | (refine ⟨by show (ns.length + 1) * 17 ≤ _; omega, ?_⟩; conv => whnf) | ((refine Both.mk ?_ ?_ <;> fail_if_success (intro _)) <;> conv => whnf))
    ·exact ⟨[], _, Or.inr rfl, by simp [meets, ghosts, St.le, St.get, look, keys, PV.labs, labsL, lookB, Blk.labs, hst]⟩
    ·exact ⟨[], _, rfl, by simp [meets, ghosts, St.le, St.get, look, keys, PV.labs, labsL, lookB, Blk.labs, hst]⟩
    ·exact trivial
   conv => whnf
   refine And.intro (fun s hs => ?_) ?_
   ·simp only [inv114] at hs
    obtain rfl := hs
    (conv => whnf); repeat' (first | ((first | (apply And.intro;· exact Cl4) | apply T1 | apply T2 | apply T3 | apply T4 | apply T6 | apply T5); conv => whnf) | (refine ⟨by show (ns.length + 1) * 17 ≤ _; omega, ?_⟩; conv => whnf) | ((refine Both.mk ?_ ?_ <;> fail_if_success (intro _)) <;> conv => whnf))
    ·exact ⟨[], _, rfl, by simp [meets, ghosts, St.le, St.get, look, keys, PV.labs, labsL, lookB, Blk.labs, hst]⟩
    ·exact ⟨[], _, Or.inl rfl, by simp [meets, ghosts, St.le, St.get, look, keys, PV.labs, labsL, lookB, Blk.labs, hst]⟩
    ·exact trivial
   conv => whnf
   refine And.intro (fun s hs => ?_) ?_
   ·simp only [inv114] at hs
    rcases hs with rfl | rfl
    ·(conv => whnf); repeat' (first | ((first | (apply And.intro;· exact Cl4) | apply T1 | apply T2 | apply T3 | apply T4 | apply T6 | apply T5); conv => whnf) | (refine ⟨by show (ns.length + 1) * 17 ≤ _; omega, ?_⟩; conv => whnf) | ((refine Both.mk ?_ ?_ <;> fail_if_success (intro _)) <;> conv => whnf))
     ·exact ⟨[], _, Or.inl rfl, by simp [meets, ghosts, St.le, St.get, look, keys, PV.labs, labsL, lookB, Blk.labs, hst]⟩
     ·exact ⟨[], _, Or.inl rfl, by simp [meets, ghosts, St.le, St.get, look, keys, PV.labs, labsL, lookB, Blk.labs, hst]⟩
     ·exact trivial
    ·(conv => whnf); repeat' (first | ((first | (apply And.intro;· exact Cl4) | apply T1 | apply T2 | apply T3 | apply T4 | apply T6 | apply T5); conv => whnf) | (refine ⟨by show (ns.length + 1) * 17 ≤ _; omega, ?_⟩; conv => whnf) | ((refine Both.mk ?_ ?_ <;> fail_if_success (intro _)) <;> conv => whnf))
     ·exact ⟨[], _, Or.inr rfl, by simp [meets, ghosts, St.le, St.get, look, keys, PV.labs, labsL, lookB, Blk.labs, hst]⟩
     ·exact ⟨[], _, Or.inr rfl, by simp [meets, ghosts, St.le, St.get, look, keys, PV.labs, labsL, lookB, Blk.labs, hst]⟩
     ·exact trivial
   conv => whnf
   refine And.intro (fun s hs => ?_) ?_
   ·simp only [inv114] at hs
    obtain rfl := hs
    (conv => whnf); repeat' (first | ((first | (apply And.intro;· exact Cl4) | apply T1 | apply T2 | apply T3 | apply T4 | apply T6 | apply T5); conv => whnf) | (refine ⟨by show (ns.length + 1) * 17 ≤ _; omega, ?_⟩; conv => whnf) | ((refine Both.mk ?_ ?_ <;> fail_if_success (intro _)) <;> conv => whnf))
    ·exact ⟨[], _, rfl, by simp [meets, ghosts, St.le, St.get, look, keys, PV.labs, labsL, lookB, Blk.labs, hst]⟩
    ·exact ⟨[], _, Or.inr rfl, by simp [meets, ghosts, St.le, St.get, look, keys, PV.labs, labsL, lookB, Blk.labs, hst]⟩
    ·exact trivial
   conv => whnf
   refine And.intro (fun s hs => ?_) ?_
   ·simp only [inv114] at hs
    obtain rfl := hs
    (conv => whnf); repeat' (first | ((first | (apply And.intro;· exact Cl4) | apply T1 | apply T2 | apply T3 | apply T4 | apply T6 | apply T5); conv => whnf) | (refine ⟨by show (ns.length + 1) * 17 ≤ _; omega, ?_⟩; conv => whnf) | ((refine Both.mk ?_ ?_ <;> fail_if_success (intro _)) <;> conv => whnf))
    ·exact ⟨[], _, rfl, by simp [meets, ghosts, St.le, St.get, look, keys, PV.labs, labsL, lookB, Blk.labs, hst]⟩
    ·exact trivial
   conv => whnf
   refine And.intro (fun s hs => ?_) ?_
   ·simp only [inv114] at hs
    obtain rfl := hs
    (conv => whnf); repeat' (first | ((first | (apply And.intro;· exact Cl4) | apply T1 | apply T2 | apply T3 | apply T4 | apply T6 | apply T5); conv => whnf) | (refine ⟨by show (ns.length + 1) * 17 ≤ _; omega, ?_⟩; conv => whnf) | ((refine Both.mk ?_ ?_ <;> fail_if_success (intro _)) <;> conv => whnf))
    ·exact ⟨[], _, rfl, by simp [meets, ghosts, St.le, St.get, look, keys, PV.labs, labsL, lookB, Blk.labs, hst]⟩
    ·exact ⟨[], _, Or.inl rfl, by simp [meets, ghosts, St.le, St.get, look, keys, PV.labs, labsL, lookB, Blk.labs, hst]⟩
    ·exact trivial
   conv => whnf
   refine And.intro (fun s hs => ?_) ?_
   ·simp only [inv114] at hs
    obtain rfl := hs
    (conv => whnf); repeat' (first | ((first | (apply And.intro;· exact Cl4) | apply T1 | apply T2 | apply T3 | apply T4 | apply T6 | apply T5); conv => whnf) | (refine ⟨by show (ns.length + 1) * 17 ≤ _; omega, ?_⟩; conv => whnf) | ((refine Both.mk ?_ ?_ <;> fail_if_success (intro _)) <;> conv => whnf))
    ·exact ⟨[], _, rfl, by simp [meets, ghosts, St.le, St.get, look, keys, PV.labs, labsL, lookB, Blk.labs, hst]⟩
    ·exact ⟨[], _, Or.inl rfl, by simp [meets, ghosts, St.le, St.get, look, keys, PV.labs, labsL, lookB, Blk.labs, hst]⟩
    ·exact trivial
   conv => whnf
   refine And.intro (fun s hs => ?_) ?_
   ·simp only [inv114] at hs
    rcases hs with rfl | rfl
    ·(conv => whnf); repeat' (first | ((first | (apply And.intro;· exact Cl4) | apply T1 | apply T2 | apply T3 | apply T4 | apply T6 | apply T5); conv => whnf) | (refine ⟨by show (ns.length + 1) * 17 ≤ _; omega, ?_⟩; conv => whnf) | ((refine Both.mk ?_ ?_ <;> fail_if_success (intro _)) <;> conv => whnf))
     ·exact ⟨[], _, Or.inr rfl, by simp [meets, ghosts, St.le, St.get, look, keys, PV.labs, labsL, lookB, Blk.labs, hst]⟩
     ·exact ⟨[], _, Or.inl rfl, by simp [meets, ghosts, St.le, St.get, look, keys, PV.labs, labsL, lookB, Blk.labs, hst]⟩
     ·exact trivial
    ·(conv => whnf); repeat' (first | ((first | (apply And.intro;· exact Cl4) | apply T1 | apply T2 | apply T3 | apply T4 | apply T6 | apply T5); conv => whnf) | (refine ⟨by show (ns.length + 1) * 17 ≤ _; omega, ?_⟩; conv => whnf) | ((refine Both.mk ?_ ?_ <;> fail_if_success (intro _)) <;> conv => whnf))
     ·exact ⟨[], _, Or.inl rfl, by simp [meets, ghosts, St.le, St.get, look, keys, PV.labs, labsL, lookB, Blk.labs, hst]⟩
     ·exact ⟨[], _, Or.inr rfl, by simp [meets, ghosts, St.le, St.get, look, keys, PV.labs, labsL, lookB, Blk.labs, hst]⟩
     ·exact trivial
   conv => whnf
   refine And.intro (fun s hs => ?_) ?_
   ·simp only [inv114] at hs
    obtain rfl := hs
    (conv => whnf); repeat' (first | ((first | (apply And.intro;· exact Cl4) | apply T1 | apply T2 | apply T3 | apply T4 | apply T6 | apply T5); conv => whnf) | (refine ⟨by show (ns.length + 1) * 17 ≤ _; omega, ?_⟩; conv => whnf) | ((refine Both.mk ?_ ?_ <;> fail_if_success (intro _)) <;> conv => whnf))
    ·exact ⟨[], _, Or.inr rfl, by simp [meets, ghosts, St.le, St.get, look, keys, PV.labs, labsL, lookB, Blk.labs, hst]⟩
    ·exact trivial
   conv => whnf
   refine And.intro (fun s hs => ?_) ?_
   ·simp only [inv114] at hs
    rcases hs with rfl | rfl
    ·(conv => whnf); repeat' (first | ((first | (apply And.intro;· exact Cl4) | apply T1 | apply T2 | apply T3 | apply T4 | apply T6 | apply T5); conv => whnf) | (refine ⟨by show (ns.length + 1) * 17 ≤ _; omega, ?_⟩; conv => whnf) | ((refine Both.mk ?_ ?_ <;> fail_if_success (intro _)) <;> conv => whnf))
     ·exact ⟨[], _, Or.inl rfl, by simp [meets, ghosts, St.le, St.get, look, keys, PV.labs, labsL, lookB, Blk.labs, hst]⟩
     ·exact trivial
    ·(conv => whnf); repeat' (first | ((first | (apply And.intro;· exact Cl4) | apply T1 | apply T2 | apply T3 | apply T4 | apply T6 | apply T5); conv => whnf) | (refine ⟨by show (ns.length + 1) * 17 ≤ _; omega, ?_⟩; conv => whnf) | ((refine Both.mk ?_ ?_ <;> fail_if_success (intro _)) <;> conv => whnf))
     ·exact ⟨[], _, Or.inr rfl, by simp [meets, ghosts, St.le, St.get, look, keys, PV.labs, labsL, lookB, Blk.labs, hst]⟩
     ·exact trivial
   conv => whnf
   refine And.intro (fun s hs => ?_) ?_
   ·simp only [inv114] at hs
    obtain rfl := hs
    (conv => whnf); repeat' (first | ((first | (apply And.intro;· exact Cl4) | apply T1 | apply T2 | apply T3 | apply T4 | apply T6 | apply T5); conv => whnf) | (refine ⟨by show (ns.length + 1) * 17 ≤ _; omega, ?_⟩; conv => whnf) | ((refine Both.mk ?_ ?_ <;> fail_if_success (intro _)) <;> conv => whnf))
    ·exact ⟨[], _, rfl, by simp [meets, ghosts, St.le, St.get, look, keys, PV.labs, labsL, lookB, Blk.labs, hst]⟩
    ·exact trivial
   conv => whnf
   refine And.intro (fun s hs => ?_) ?_
   ·simp only [inv114] at hs
    obtain rfl := hs
    (conv => whnf); repeat' (first | ((first | (apply And.intro;· exact Cl4) | apply T1 | apply T2 | apply T3 | apply T4 | apply T6 | apply T5); conv => whnf) | (refine ⟨by show (ns.length + 1) * 17 ≤ _; omega, ?_⟩; conv => whnf) | ((refine Both.mk ?_ ?_ <;> fail_if_success (intro _)) <;> conv => whnf))
    ·exact ⟨[], _, rfl, by simp [meets, ghosts, St.le, St.get, look, keys, PV.labs, labsL, lookB, Blk.labs, hst]⟩
    ·exact trivial
   conv => whnf
   refine And.intro (fun s hs => ?_) ?_
   ·simp only [inv114] at hs
    rcases hs with rfl | rfl
    ·(conv => whnf); repeat' (first | ((first | (apply And.intro;· exact Cl4) | apply T1 | apply T2 | apply T3 | apply T4 | apply T6 | apply T5); conv => whnf) | (refine ⟨by show (ns.length + 1) * 17 ≤ _; omega, ?_⟩; conv => whnf) | ((refine Both.mk ?_ ?_ <;> fail_if_success (intro _)) <;> conv => whnf))
     ·exact ⟨[], _, Or.inl rfl, by simp [meets, ghosts, St.le, St.get, look, keys, PV.labs, labsL, lookB, Blk.labs, hst]⟩
     ·exact trivial
    ·(conv => whnf); repeat' (first | ((first | (apply And.intro;· exact Cl4) | apply T1 | apply T2 | apply T3 | apply T4 | apply T6 | apply T5); conv => whnf) | (refine ⟨by show (ns.length + 1) * 17 ≤ _; omega, ?_⟩; conv => whnf) | ((refine Both.mk ?_ ?_ <;> fail_if_success (intro _)) <;> conv => whnf))
     ·exact ⟨[], _, Or.inr rfl, by simp [meets, ghosts, St.le, St.get, look, keys, PV.labs, labsL, lookB, Blk.labs, hst]⟩
     ·exact trivial
   conv => whnf
   refine And.intro (fun s hs => ?_) ?_
   ·simp only [inv114] at hs
    rcases hs with rfl | rfl
    ·(conv => whnf); repeat' (first | ((first | (apply And.intro;· exact Cl4) | apply T1 | apply T2 | apply T3 | apply T4 | apply T6 | apply T5); conv => whnf) | (refine ⟨by show (ns.length + 1) * 17 ≤ _; omega, ?_⟩; conv => whnf) | ((refine Both.mk ?_ ?_ <;> fail_if_success (intro _)) <;> conv => whnf))
     ·exact ⟨[], _, Or.inr rfl, by simp [meets, ghosts, St.le, St.get, look, keys, PV.labs, labsL, lookB, Blk.labs, hst]⟩
     ·exact trivial
    ·(conv => whnf); repeat' (first | ((first | (apply And.intro;· exact Cl4) | apply T1 | apply T2 | apply T3 | apply T4 | apply T6 | apply T5); conv => whnf) | (refine ⟨by show (ns.length + 1) * 17 ≤ _; omega, ?_⟩; conv => whnf) | ((refine Both.mk ?_ ?_ <;> fail_if_success (intro _)) <;> conv => whnf))
     ·exact ⟨[], _, Or.inl rfl, by simp [meets, ghosts, St.le, St.get, look, keys, PV.labs, labsL, lookB, Blk.labs, hst]⟩
     ·exact trivial
   conv => whnf
   refine And.intro (fun s hs => ?_) ?_
   ·simp only [inv114] at hs
    obtain rfl := hs
    (conv => whnf); repeat' (first | ((first | (apply And.intro;· exact Cl4) | apply T1 | apply T2 | apply T3 | apply T4 | apply T6 | apply T5); conv => whnf) | (refine ⟨by show (ns.length + 1) * 17 ≤ _; omega, ?_⟩; conv => whnf) | ((refine Both.mk ?_ ?_ <;> fail_if_success (intro _)) <;> conv => whnf))
    ·exact ⟨[], _, Or.inl rfl, by simp [meets, ghosts, St.le, St.get, look, keys, PV.labs, labsL, lookB, Blk.labs, hst]⟩
    ·exact trivial
   conv => whnf
   refine And.intro (fun s hs => ?_) ?_
   ·simp only [inv114] at hs
    rcases hs with rfl | rfl
    ·(conv => whnf); repeat' (first | ((first | (apply And.intro;· exact Cl4) | apply T1 | apply T2 | apply T3 | apply T4 | apply T6 | apply T5); conv => whnf) | (refine ⟨by show (ns.length + 1) * 17 ≤ _; omega, ?_⟩; conv => whnf) | ((refine Both.mk ?_ ?_ <;> fail_if_success (intro _)) <;> conv => whnf))
     ·exact ⟨[], _, Or.inl rfl, by simp [meets, ghosts, St.le, St.get, look, keys, PV.labs, labsL, lookB, Blk.labs, hst]⟩
     ·exact trivial
    ·(conv => whnf); repeat' (first | ((first | (apply And.intro;· exact Cl4) | apply T1 | apply T2 | apply T3 | apply T4 | apply T6 | apply T5); conv => whnf) | (refine ⟨by show (ns.length + 1) * 17 ≤ _; omega, ?_⟩; conv => whnf) | ((refine Both.mk ?_ ?_ <;> fail_if_success (intro _)) <;> conv => whnf))
     ·exact ⟨[], _, Or.inr rfl, by simp [meets, ghosts, St.le, St.get, look, keys, PV.labs, labsL, lookB, Blk.labs, hst]⟩
     ·exact trivial
   conv => whnf
   refine And.intro (fun s hs => ?_) ?_
   ·simp only [inv114] at hs
    rcases hs with rfl | rfl
    ·exact trivial
    ·exact trivial
   conv => whnf
   exact trivial
  ·simp only [inv114, List.length_cons, List.length_nil] at hs
   have hcl : (c :: r).length = r.length + 1 := rfl
   have hrows : strs ns ++ [.str nm] = strs (ns ++ [nm]) := (strs_app2 ns nm).symm
   have h1len : List.drop (Int.toNat 1) (List.take (c :: r).length (c :: r)) = r := by simp
   have htk : List.take (ns.length + 1) (List.drop 0 (strs ns ++ [PV.str nm])) = strs (ns ++ [nm]) := by rw [List.drop_zero, List.take_of_length_le (by simp [strs_len]), strs_app2]
   rcases hs with rfl | rfl
   all_goals (
    (conv => whnf); repeat ((first | (apply And.intro;· exact Cl4) | apply T1 | apply T2 | apply T3 | apply T4 | apply T6 | apply T5); conv => whnf)
    refine ⟨by show (ns.length + 1) * 57 ≤ _; omega, ?_⟩
    (conv => whnf); repeat ((first | (apply And.intro;· exact Cl4) | apply T1 | apply T2 | apply T3 | apply T4 | apply T6 | apply T5); conv => whnf)
    have h0 : (List.getD (c :: r) (Int.toNat 0) 0) = c := rfl
    rw [h0]
    by_cases h125 : c = 125
    ·subst h125
     refine Both.T (by rfl) ?_
     (conv => whnf); repeat' (first | ((first | (apply And.intro;· exact Cl4) | apply T1 | apply T2 | apply T3 | apply T4 | apply T6 | apply T5); conv => whnf) | ((rw [htk]; refine rising_spec (ns ++ [nm]) 1 _ (Or.inl rfl) (by simp; omega) _ ?_); conv => whnf) | ((refine Both.mk ?_ ?_ <;> fail_if_success (intro _)) <;> conv => whnf))
     all_goals (rw [h1len]; exact h _ _ _ _ _)
    have n125 : ((c.toNat : Int) == 125) = false := by
     have : ¬ (c.toNat : Int) = 125 := fun e => h125 (UInt8.toNat.inj (by show c.toNat = 125; omega))
     simpa using this
    rw [n125]
    (conv => whnf); repeat ((first | (apply And.intro;· exact Cl4) | apply T1 | apply T2 | apply T3 | apply T4 | apply T6 | apply T5); conv => whnf)
    by_cases h44 : c = 44
    ·subst h44
     refine Both.T (by rfl) ?_
     (conv => whnf); repeat ((first | (apply And.intro;· exact Cl4) | apply T1 | apply T2 | apply T3 | apply T4 | apply T6 | apply T5); conv => whnf)
     have hrec : recM n [] t = recM m (ns ++ [nm]) r := by rw [hin, recM_eq, hx, hcu]; rfl
     have hc2 := hc2 rfl
     simp only [List.length_cons] at hrl
     refine ⟨[], (m, ns ++ [nm], List.take ns.length L ++ List.take 1 (List.drop 0 [shp k z1 L1 z2 L2]), r), ⟨by show m ≤ n; omega, by show 2 * r.length + 2 ≤ m; omega, by show r.length ≤ _; omega, by show (ns ++ [nm]).length + r.length ≤ _; rw [List.length_append]; simp only [List.length_cons, List.length_nil]; omega, hrec⟩, by show r.length < u.length; omega, ?_⟩
     simp [meets, ghosts, St.le, St.get, look, keys, PV.labs, labsL, lookB, Blk.labs, strs_app2]
    have n44 : ((c.toNat : Int) == 44) = false := by
     have : ¬ (c.toNat : Int) = 44 := fun e => h44 (UInt8.toNat.inj (by show c.toNat = 44; omega))
     simpa using this
    rw [n44]
    (conv => whnf); repeat ((first | (apply And.intro;· exact Cl4) | apply T1 | apply T2 | apply T3 | apply T4 | apply T6 | apply T5); conv => whnf)
    have h := h 0 0 [] 0 []
    split at h
    ·rename_i e
     exact absurd (List.cons.inj e).1 h125
    ·rename_i e
     exact absurd (List.cons.inj e).1 h44
    ·exact h)
end Go.Vc
