/- What is proved here: contracts of functions of the program: of each function what it hands back and what it leaves in memory. Conditions: those that each theorem names. -/
import Derived.Test.YthhokabbanhllaaGreatDoorTBf
set_option linter.unusedVariables false
set_option linter.unusedSimpArgs false
set_option linter.unusedSectionVars false
namespace Go.Vc
open Go Go.Proofs
set_option maxRecDepth 100000
def inv114 (ns : List (List UInt8)) (nm l : List UInt8) (m : Nat) (L : List PV) (k : Int) (z1 : Nat) (L1 : List PV) (z2 : Nat) (L2 : List PV) : Nat → St → Prop
 | 0, s => s = ⟨61, [(40, .ptr 0 2), (37, .str nm), (35, .ptr 0 1), (9, .str l), (8, .ptr 3 0), (2, .ptr 0 0)], [(0, .box [.int .i64 5, .ref 1 1 0 m, .ref 3 2 0 m]), (1, .row 9 1 (strs ns) false), (2, .row 62 3 L true), (3, .box [.int .i64 k, .sl z1 L1 false true, .sl z2 L2 false true])], []⟩
 | 1, s => s = ⟨61, [(36, .ref 1 1 0 m), (40, .ptr 0 2), (37, .str nm), (35, .ptr 0 1), (9, .str l), (8, .ptr 3 0), (2, .ptr 0 0)], [(0, .box [.int .i64 5, .ref 1 1 0 m, .ref 3 2 0 m]), (1, .row 9 1 (strs ns) false), (2, .row 62 3 L true), (3, .box [.int .i64 k, .sl z1 L1 false true, .sl z2 L2 false true])], []⟩
 | 2, s => s = ⟨61, [(38, .ref 1 4 0 1), (40, .ptr 0 2), (37, .str nm), (35, .ptr 0 1), (9, .str l), (8, .ptr 3 0), (2, .ptr 0 0)], [(0, .box [.int .i64 5, .ref 1 1 0 m, .ref 3 2 0 m]), (1, .row 9 1 (strs ns) false), (2, .row 62 3 L true), (3, .box [.int .i64 k, .sl z1 L1 false true, .sl z2 L2 false true]), (4, .row 9 1 [.str nm] false)], []⟩
 | 3, s => s = ⟨61, [(41, .ref 3 2 0 m), (40, .ptr 0 2), (37, .str nm), (35, .ptr 0 1), (9, .str l), (8, .ptr 3 0), (2, .ptr 0 0)], [(0, .box [.int .i64 5, .ref 1 1 0 m, .ref 3 2 0 m]), (1, .row 9 1 (strs ns) false), (2, .row 62 3 L true), (3, .box [.int .i64 k, .sl z1 L1 false true, .sl z2 L2 false true])], []⟩
 | 4, s => s = ⟨61, [(42, shp k z1 L1 z2 L2), (40, .ptr 0 2), (37, .str nm), (35, .ptr 0 1), (9, .str l), (8, .ptr 3 0), (2, .ptr 0 0)], [(0, .box [.int .i64 5, .ref 1 1 0 m, .ref 3 2 0 m]), (1, .row 9 1 (strs ns) false), (2, .row 62 3 L true), (3, .box [.int .i64 k, .sl z1 L1 false true, .sl z2 L2 false true])], []⟩
 | 5, s => s = ⟨61, [(38, .ref 1 4 0 1), (36, .ref 1 1 0 m), (40, .ptr 0 2), (37, .str nm), (35, .ptr 0 1), (9, .str l), (8, .ptr 3 0), (2, .ptr 0 0)], [(0, .box [.int .i64 5, .ref 1 1 0 m, .ref 3 2 0 m]), (1, .row 9 1 (strs ns) false), (2, .row 62 3 L true), (3, .box [.int .i64 k, .sl z1 L1 false true, .sl z2 L2 false true]), (4, .row 9 1 [.str nm] false)], []⟩
 | 6, s => s = ⟨61, [(41, .ref 3 2 0 m), (36, .ref 1 1 0 m), (40, .ptr 0 2), (37, .str nm), (35, .ptr 0 1), (9, .str l), (8, .ptr 3 0), (2, .ptr 0 0)], [(0, .box [.int .i64 5, .ref 1 1 0 m, .ref 3 2 0 m]), (1, .row 9 1 (strs ns) false), (2, .row 62 3 L true), (3, .box [.int .i64 k, .sl z1 L1 false true, .sl z2 L2 false true])], []⟩
 | 7, s => s = ⟨61, [(42, shp k z1 L1 z2 L2), (36, .ref 1 1 0 m), (40, .ptr 0 2), (37, .str nm), (35, .ptr 0 1), (9, .str l), (8, .ptr 3 0), (2, .ptr 0 0)], [(0, .box [.int .i64 5, .ref 1 1 0 m, .ref 3 2 0 m]), (1, .row 9 1 (strs ns) false), (2, .row 62 3 L true), (3, .box [.int .i64 k, .sl z1 L1 false true, .sl z2 L2 false true])], []⟩
 | 8, s => s = ⟨61, [(41, .ref 3 2 0 m), (38, .ref 1 4 0 1), (40, .ptr 0 2), (37, .str nm), (35, .ptr 0 1), (9, .str l), (8, .ptr 3 0), (2, .ptr 0 0)], [(0, .box [.int .i64 5, .ref 1 1 0 m, .ref 3 2 0 m]), (1, .row 9 1 (strs ns) false), (2, .row 62 3 L true), (3, .box [.int .i64 k, .sl z1 L1 false true, .sl z2 L2 false true]), (4, .row 9 1 [.str nm] false)], []⟩
 | 9, s => s = ⟨61, [(42, shp k z1 L1 z2 L2), (38, .ref 1 4 0 1), (40, .ptr 0 2), (37, .str nm), (35, .ptr 0 1), (9, .str l), (8, .ptr 3 0), (2, .ptr 0 0)], [(0, .box [.int .i64 5, .ref 1 1 0 m, .ref 3 2 0 m]), (1, .row 9 1 (strs ns) false), (2, .row 62 3 L true), (3, .box [.int .i64 k, .sl z1 L1 false true, .sl z2 L2 false true]), (4, .row 9 1 [.str nm] false)], []⟩
 | 10, s => s = ⟨61, [(42, shp k z1 L1 z2 L2), (41, .ref 3 2 0 m), (40, .ptr 0 2), (37, .str nm), (35, .ptr 0 1), (9, .str l), (8, .ptr 3 0), (2, .ptr 0 0)], [(0, .box [.int .i64 5, .ref 1 1 0 m, .ref 3 2 0 m]), (1, .row 9 1 (strs ns) false), (2, .row 62 3 L true), (3, .box [.int .i64 k, .sl z1 L1 false true, .sl z2 L2 false true])], []⟩
 | 11, s => s = ⟨61, [(43, .ref 3 4 0 1), (42, shp k z1 L1 z2 L2), (40, .ptr 0 2), (37, .str nm), (35, .ptr 0 1), (9, .str l), (8, .ptr 3 0), (2, .ptr 0 0)], [(0, .box [.int .i64 5, .ref 1 1 0 m, .ref 3 2 0 m]), (1, .row 9 1 (strs ns) false), (2, .row 62 3 L true), (3, .box [.int .i64 k, .sl z1 L1 false true, .sl z2 L2 false true]), (4, .row 62 3 [shp k z1 L1 z2 L2] true)], []⟩
 | 12, s => s = ⟨61, [(39, .ref 1 1 0 (m + 1)), (40, .ptr 0 2), (37, .str nm), (35, .ptr 0 1), (9, .str l), (8, .ptr 3 0), (2, .ptr 0 0)], [(0, .box [.int .i64 5, .undef, .ref 3 2 0 m]), (1, .row 9 1 (strs ns ++ [.str nm]) false), (2, .row 62 3 L true), (3, .box [.int .i64 k, .sl z1 L1 false true, .sl z2 L2 false true])], []⟩
 | 13, s => s = ⟨61, [(41, .ref 3 2 0 m), (38, .ref 1 4 0 1), (36, .ref 1 1 0 m), (40, .ptr 0 2), (37, .str nm), (35, .ptr 0 1), (9, .str l), (8, .ptr 3 0), (2, .ptr 0 0)], [(0, .box [.int .i64 5, .ref 1 1 0 m, .ref 3 2 0 m]), (1, .row 9 1 (strs ns) false), (2, .row 62 3 L true), (3, .box [.int .i64 k, .sl z1 L1 false true, .sl z2 L2 false true]), (4, .row 9 1 [.str nm] false)], []⟩
 | 14, s => s = ⟨61, [(42, shp k z1 L1 z2 L2), (38, .ref 1 4 0 1), (36, .ref 1 1 0 m), (40, .ptr 0 2), (37, .str nm), (35, .ptr 0 1), (9, .str l), (8, .ptr 3 0), (2, .ptr 0 0)], [(0, .box [.int .i64 5, .ref 1 1 0 m, .ref 3 2 0 m]), (1, .row 9 1 (strs ns) false), (2, .row 62 3 L true), (3, .box [.int .i64 k, .sl z1 L1 false true, .sl z2 L2 false true]), (4, .row 9 1 [.str nm] false)], []⟩
 | 15, s => s = ⟨61, [(42, shp k z1 L1 z2 L2), (41, .ref 3 2 0 m), (36, .ref 1 1 0 m), (40, .ptr 0 2), (37, .str nm), (35, .ptr 0 1), (9, .str l), (8, .ptr 3 0), (2, .ptr 0 0)], [(0, .box [.int .i64 5, .ref 1 1 0 m, .ref 3 2 0 m]), (1, .row 9 1 (strs ns) false), (2, .row 62 3 L true), (3, .box [.int .i64 k, .sl z1 L1 false true, .sl z2 L2 false true])], []⟩
 | 16, s => s = ⟨61, [(43, .ref 3 4 0 1), (42, shp k z1 L1 z2 L2), (36, .ref 1 1 0 m), (40, .ptr 0 2), (37, .str nm), (35, .ptr 0 1), (9, .str l), (8, .ptr 3 0), (2, .ptr 0 0)], [(0, .box [.int .i64 5, .ref 1 1 0 m, .ref 3 2 0 m]), (1, .row 9 1 (strs ns) false), (2, .row 62 3 L true), (3, .box [.int .i64 k, .sl z1 L1 false true, .sl z2 L2 false true]), (4, .row 62 3 [shp k z1 L1 z2 L2] true)], []⟩
 | 17, s => s = ⟨61, [(42, shp k z1 L1 z2 L2), (41, .ref 3 2 0 m), (38, .ref 1 4 0 1), (40, .ptr 0 2), (37, .str nm), (35, .ptr 0 1), (9, .str l), (8, .ptr 3 0), (2, .ptr 0 0)], [(0, .box [.int .i64 5, .ref 1 1 0 m, .ref 3 2 0 m]), (1, .row 9 1 (strs ns) false), (2, .row 62 3 L true), (3, .box [.int .i64 k, .sl z1 L1 false true, .sl z2 L2 false true]), (4, .row 9 1 [.str nm] false)], []⟩
 | 18, s => s = ⟨61, [(43, .ref 3 5 0 1), (42, shp k z1 L1 z2 L2), (38, .ref 1 4 0 1), (40, .ptr 0 2), (37, .str nm), (35, .ptr 0 1), (9, .str l), (8, .ptr 3 0), (2, .ptr 0 0)], [(0, .box [.int .i64 5, .ref 1 1 0 m, .ref 3 2 0 m]), (1, .row 9 1 (strs ns) false), (2, .row 62 3 L true), (3, .box [.int .i64 k, .sl z1 L1 false true, .sl z2 L2 false true]), (4, .row 9 1 [.str nm] false), (5, .row 62 3 [shp k z1 L1 z2 L2] true)], []⟩ ∨ s = ⟨61, [(43, .ref 3 4 0 1), (42, shp k z1 L1 z2 L2), (38, .ref 1 5 0 1), (40, .ptr 0 2), (37, .str nm), (35, .ptr 0 1), (9, .str l), (8, .ptr 3 0), (2, .ptr 0 0)], [(0, .box [.int .i64 5, .ref 1 1 0 m, .ref 3 2 0 m]), (1, .row 9 1 (strs ns) false), (2, .row 62 3 L true), (3, .box [.int .i64 k, .sl z1 L1 false true, .sl z2 L2 false true]), (5, .row 9 1 [.str nm] false), (4, .row 62 3 [shp k z1 L1 z2 L2] true)], []⟩
 | 19, s => s = ⟨61, [(43, .ref 3 4 0 1), (42, shp k z1 L1 z2 L2), (41, .ref 3 2 0 m), (40, .ptr 0 2), (37, .str nm), (35, .ptr 0 1), (9, .str l), (8, .ptr 3 0), (2, .ptr 0 0)], [(0, .box [.int .i64 5, .ref 1 1 0 m, .ref 3 2 0 m]), (1, .row 9 1 (strs ns) false), (2, .row 62 3 L true), (3, .box [.int .i64 k, .sl z1 L1 false true, .sl z2 L2 false true]), (4, .row 62 3 [shp k z1 L1 z2 L2] true)], []⟩
 | 20, s => s = ⟨61, [(41, .ref 3 2 0 m), (39, .ref 1 1 0 (m + 1)), (40, .ptr 0 2), (37, .str nm), (35, .ptr 0 1), (9, .str l), (8, .ptr 3 0), (2, .ptr 0 0)], [(0, .box [.int .i64 5, .undef, .ref 3 2 0 m]), (1, .row 9 1 (strs ns ++ [.str nm]) false), (2, .row 62 3 L true), (3, .box [.int .i64 k, .sl z1 L1 false true, .sl z2 L2 false true])], []⟩
 | 21, s => s = ⟨61, [(42, shp k z1 L1 z2 L2), (39, .ref 1 1 0 (m + 1)), (40, .ptr 0 2), (37, .str nm), (35, .ptr 0 1), (9, .str l), (8, .ptr 3 0), (2, .ptr 0 0)], [(0, .box [.int .i64 5, .undef, .ref 3 2 0 m]), (1, .row 9 1 (strs ns ++ [.str nm]) false), (2, .row 62 3 L true), (3, .box [.int .i64 k, .sl z1 L1 false true, .sl z2 L2 false true])], []⟩
 | 22, s => s = ⟨61, [(42, shp k z1 L1 z2 L2), (41, .ref 3 2 0 m), (38, .ref 1 4 0 1), (36, .ref 1 1 0 m), (40, .ptr 0 2), (37, .str nm), (35, .ptr 0 1), (9, .str l), (8, .ptr 3 0), (2, .ptr 0 0)], [(0, .box [.int .i64 5, .ref 1 1 0 m, .ref 3 2 0 m]), (1, .row 9 1 (strs ns) false), (2, .row 62 3 L true), (3, .box [.int .i64 k, .sl z1 L1 false true, .sl z2 L2 false true]), (4, .row 9 1 [.str nm] false)], []⟩
 | 23, s => s = ⟨61, [(43, .ref 3 5 0 1), (42, shp k z1 L1 z2 L2), (38, .ref 1 4 0 1), (36, .ref 1 1 0 m), (40, .ptr 0 2), (37, .str nm), (35, .ptr 0 1), (9, .str l), (8, .ptr 3 0), (2, .ptr 0 0)], [(0, .box [.int .i64 5, .ref 1 1 0 m, .ref 3 2 0 m]), (1, .row 9 1 (strs ns) false), (2, .row 62 3 L true), (3, .box [.int .i64 k, .sl z1 L1 false true, .sl z2 L2 false true]), (4, .row 9 1 [.str nm] false), (5, .row 62 3 [shp k z1 L1 z2 L2] true)], []⟩ ∨ s = ⟨61, [(43, .ref 3 4 0 1), (42, shp k z1 L1 z2 L2), (38, .ref 1 5 0 1), (36, .ref 1 1 0 m), (40, .ptr 0 2), (37, .str nm), (35, .ptr 0 1), (9, .str l), (8, .ptr 3 0), (2, .ptr 0 0)], [(0, .box [.int .i64 5, .ref 1 1 0 m, .ref 3 2 0 m]), (1, .row 9 1 (strs ns) false), (2, .row 62 3 L true), (3, .box [.int .i64 k, .sl z1 L1 false true, .sl z2 L2 false true]), (5, .row 9 1 [.str nm] false), (4, .row 62 3 [shp k z1 L1 z2 L2] true)], []⟩
 | 24, s => s = ⟨61, [(43, .ref 3 4 0 1), (42, shp k z1 L1 z2 L2), (41, .ref 3 2 0 m), (36, .ref 1 1 0 m), (40, .ptr 0 2), (37, .str nm), (35, .ptr 0 1), (9, .str l), (8, .ptr 3 0), (2, .ptr 0 0)], [(0, .box [.int .i64 5, .ref 1 1 0 m, .ref 3 2 0 m]), (1, .row 9 1 (strs ns) false), (2, .row 62 3 L true), (3, .box [.int .i64 k, .sl z1 L1 false true, .sl z2 L2 false true]), (4, .row 62 3 [shp k z1 L1 z2 L2] true)], []⟩
 | 25, s => s = ⟨61, [(43, .ref 3 5 0 1), (42, shp k z1 L1 z2 L2), (41, .ref 3 2 0 m), (38, .ref 1 4 0 1), (40, .ptr 0 2), (37, .str nm), (35, .ptr 0 1), (9, .str l), (8, .ptr 3 0), (2, .ptr 0 0)], [(0, .box [.int .i64 5, .ref 1 1 0 m, .ref 3 2 0 m]), (1, .row 9 1 (strs ns) false), (2, .row 62 3 L true), (3, .box [.int .i64 k, .sl z1 L1 false true, .sl z2 L2 false true]), (4, .row 9 1 [.str nm] false), (5, .row 62 3 [shp k z1 L1 z2 L2] true)], []⟩ ∨ s = ⟨61, [(43, .ref 3 4 0 1), (42, shp k z1 L1 z2 L2), (41, .ref 3 2 0 m), (38, .ref 1 5 0 1), (40, .ptr 0 2), (37, .str nm), (35, .ptr 0 1), (9, .str l), (8, .ptr 3 0), (2, .ptr 0 0)], [(0, .box [.int .i64 5, .ref 1 1 0 m, .ref 3 2 0 m]), (1, .row 9 1 (strs ns) false), (2, .row 62 3 L true), (3, .box [.int .i64 k, .sl z1 L1 false true, .sl z2 L2 false true]), (5, .row 9 1 [.str nm] false), (4, .row 62 3 [shp k z1 L1 z2 L2] true)], []⟩
 | 26, s => s = ⟨61, [(45, .ptr 0 1), (41, .ref 3 2 0 m), (39, .ref 1 1 0 (m + 1)), (40, .ptr 0 2), (37, .str nm), (35, .ptr 0 1), (9, .str l), (8, .ptr 3 0), (2, .ptr 0 0)], [(0, .box [.int .i64 5, .undef, .ref 3 2 0 m]), (1, .row 9 1 (strs ns ++ [.str nm]) false), (2, .row 62 3 L true), (3, .box [.int .i64 k, .sl z1 L1 false true, .sl z2 L2 false true])], []⟩
 | 27, s => s = ⟨61, [(42, shp k z1 L1 z2 L2), (41, .ref 3 2 0 m), (39, .ref 1 1 0 (m + 1)), (40, .ptr 0 2), (37, .str nm), (35, .ptr 0 1), (9, .str l), (8, .ptr 3 0), (2, .ptr 0 0)], [(0, .box [.int .i64 5, .undef, .ref 3 2 0 m]), (1, .row 9 1 (strs ns ++ [.str nm]) false), (2, .row 62 3 L true), (3, .box [.int .i64 k, .sl z1 L1 false true, .sl z2 L2 false true])], []⟩
 | 28, s => s = ⟨61, [(43, .ref 3 4 0 1), (42, shp k z1 L1 z2 L2), (39, .ref 1 1 0 (m + 1)), (40, .ptr 0 2), (37, .str nm), (35, .ptr 0 1), (9, .str l), (8, .ptr 3 0), (2, .ptr 0 0)], [(0, .box [.int .i64 5, .undef, .ref 3 2 0 m]), (1, .row 9 1 (strs ns ++ [.str nm]) false), (2, .row 62 3 L true), (3, .box [.int .i64 k, .sl z1 L1 false true, .sl z2 L2 false true]), (4, .row 62 3 [shp k z1 L1 z2 L2] true)], []⟩ ∨ s = ⟨61, [(43, .ref 3 5 0 1), (42, shp k z1 L1 z2 L2), (39, .ref 1 1 0 (m + 1)), (40, .ptr 0 2), (37, .str nm), (35, .ptr 0 1), (9, .str l), (8, .ptr 3 0), (2, .ptr 0 0)], [(0, .box [.int .i64 5, .undef, .ref 3 2 0 m]), (1, .row 9 1 (strs ns ++ [.str nm]) false), (2, .row 62 3 L true), (3, .box [.int .i64 k, .sl z1 L1 false true, .sl z2 L2 false true]), (5, .row 62 3 [shp k z1 L1 z2 L2] true)], []⟩
 | 29, s => s = ⟨61, [(43, .ref 3 5 0 1), (42, shp k z1 L1 z2 L2), (41, .ref 3 2 0 m), (38, .ref 1 4 0 1), (36, .ref 1 1 0 m), (40, .ptr 0 2), (37, .str nm), (35, .ptr 0 1), (9, .str l), (8, .ptr 3 0), (2, .ptr 0 0)], [(0, .box [.int .i64 5, .ref 1 1 0 m, .ref 3 2 0 m]), (1, .row 9 1 (strs ns) false), (2, .row 62 3 L true), (3, .box [.int .i64 k, .sl z1 L1 false true, .sl z2 L2 false true]), (4, .row 9 1 [.str nm] false), (5, .row 62 3 [shp k z1 L1 z2 L2] true)], []⟩ ∨ s = ⟨61, [(43, .ref 3 4 0 1), (42, shp k z1 L1 z2 L2), (41, .ref 3 2 0 m), (38, .ref 1 5 0 1), (36, .ref 1 1 0 m), (40, .ptr 0 2), (37, .str nm), (35, .ptr 0 1), (9, .str l), (8, .ptr 3 0), (2, .ptr 0 0)], [(0, .box [.int .i64 5, .ref 1 1 0 m, .ref 3 2 0 m]), (1, .row 9 1 (strs ns) false), (2, .row 62 3 L true), (3, .box [.int .i64 k, .sl z1 L1 false true, .sl z2 L2 false true]), (5, .row 9 1 [.str nm] false), (4, .row 62 3 [shp k z1 L1 z2 L2] true)], []⟩
 | 30, s => s = ⟨61, [(45, .ptr 0 1), (42, shp k z1 L1 z2 L2), (41, .ref 3 2 0 m), (39, .ref 1 1 0 (m + 1)), (40, .ptr 0 2), (37, .str nm), (35, .ptr 0 1), (9, .str l), (8, .ptr 3 0), (2, .ptr 0 0)], [(0, .box [.int .i64 5, .undef, .ref 3 2 0 m]), (1, .row 9 1 (strs ns ++ [.str nm]) false), (2, .row 62 3 L true), (3, .box [.int .i64 k, .sl z1 L1 false true, .sl z2 L2 false true])], []⟩
 | 31, s => s = ⟨61, [(43, .ref 3 4 0 1), (42, shp k z1 L1 z2 L2), (41, .ref 3 2 0 m), (39, .ref 1 1 0 (m + 1)), (40, .ptr 0 2), (37, .str nm), (35, .ptr 0 1), (9, .str l), (8, .ptr 3 0), (2, .ptr 0 0)], [(0, .box [.int .i64 5, .undef, .ref 3 2 0 m]), (1, .row 9 1 (strs ns ++ [.str nm]) false), (2, .row 62 3 L true), (3, .box [.int .i64 k, .sl z1 L1 false true, .sl z2 L2 false true]), (4, .row 62 3 [shp k z1 L1 z2 L2] true)], []⟩ ∨ s = ⟨61, [(43, .ref 3 5 0 1), (42, shp k z1 L1 z2 L2), (41, .ref 3 2 0 m), (39, .ref 1 1 0 (m + 1)), (40, .ptr 0 2), (37, .str nm), (35, .ptr 0 1), (9, .str l), (8, .ptr 3 0), (2, .ptr 0 0)], [(0, .box [.int .i64 5, .undef, .ref 3 2 0 m]), (1, .row 9 1 (strs ns ++ [.str nm]) false), (2, .row 62 3 L true), (3, .box [.int .i64 k, .sl z1 L1 false true, .sl z2 L2 false true]), (5, .row 62 3 [shp k z1 L1 z2 L2] true)], []⟩
 | 32, s => s = ⟨61, [(45, .ptr 0 1), (43, .ref 3 4 0 1), (42, shp k z1 L1 z2 L2), (41, .ref 3 2 0 m), (39, .ref 1 1 0 (m + 1)), (40, .ptr 0 2), (37, .str nm), (35, .ptr 0 1), (9, .str l), (8, .ptr 3 0), (2, .ptr 0 0)], [(0, .box [.int .i64 5, .undef, .ref 3 2 0 m]), (1, .row 9 1 (strs ns ++ [.str nm]) false), (2, .row 62 3 L true), (3, .box [.int .i64 k, .sl z1 L1 false true, .sl z2 L2 false true]), (4, .row 62 3 [shp k z1 L1 z2 L2] true)], []⟩ ∨ s = ⟨61, [(45, .ptr 0 1), (43, .ref 3 5 0 1), (42, shp k z1 L1 z2 L2), (41, .ref 3 2 0 m), (39, .ref 1 1 0 (m + 1)), (40, .ptr 0 2), (37, .str nm), (35, .ptr 0 1), (9, .str l), (8, .ptr 3 0), (2, .ptr 0 0)], [(0, .box [.int .i64 5, .undef, .ref 3 2 0 m]), (1, .row 9 1 (strs ns ++ [.str nm]) false), (2, .row 62 3 L true), (3, .box [.int .i64 k, .sl z1 L1 false true, .sl z2 L2 false true]), (5, .row 62 3 [shp k z1 L1 z2 L2] true)], []⟩
 | _, _ => False
def LoopSh (t : List UInt8) (ns : List (List UInt8)) (L : List PV) (u : List UInt8) (ls : List Sh) (ts : List (List UInt8)) : Prop :=
 ns.length = ls.length ∧ ls.length = ts.length ∧ ShPs ls L ∧ (∀ (i : Nat) s t, ls[i]? = some s → ts[i]? = some t → IsT s t) ∧ t = preT ns ts ++ u
theorem LoopSh.snoc {t : List UInt8} {ns : List (List UInt8)} {L : List PV} {u : List UInt8} {ls : List Sh} {ts : List (List UInt8)} (h : LoopSh t ns L u ls ts) {nm bh r w : List UInt8} {s : Sh} {p : PV} (hu : u = nm ++ 58 :: bh) (hb : bh = w ++ 44 :: r) (hw : IsT s w) (hp : ShP s p) :
  LoopSh t (ns ++ [nm]) (List.take ns.length L ++ List.take 1 (List.drop 0 [p])) r (ls ++ [s]) (ts ++ [w]) := by
 obtain ⟨h1, h2, h3, h4, h5⟩ := h
 have hl := ShPs_len h3
 refine ⟨by simp [h1], by simp [h2], ?_, fun i s' t' a b => ?_, ?_⟩
 ·rw [List.take_of_length_le (by omega)]; exact ShPs_snoc h3 hp
 ·rcases Nat.lt_trichotomy i ls.length with hi | hi | hi
  ·rw [List.getElem?_append_left hi] at a
   rw [List.getElem?_append_left (by omega)] at b
   exact h4 i s' t' a b
  ·subst hi
   rw [List.getElem?_append_right (Nat.le_refl _)] at a
   rw [h2, List.getElem?_append_right (Nat.le_refl _)] at b
   simp at a b
   subst a; subst b; exact hw
  ·rw [List.getElem?_eq_none (by simp; omega)] at a; cases a
 ·rw [pre_snoc _ _ _ _ (h1.trans h2), h5, hu, hb]; simp
theorem LoopSh.fin {t : List UInt8} {ns : List (List UInt8)} {L : List PV} {u : List UInt8} {ls : List Sh} {ts : List (List UInt8)} (h : LoopSh t ns L u ls ts) {nm bh r w : List UInt8} {s : Sh} {p : PV} (hu : u = nm ++ 58 :: bh) (hb : bh = w ++ 125 :: r) (hw : IsT s w) (hp : ShP s p) (hr : rise [] (ns ++ [nm]) = true)
  (z1 z2 : Nat) (t1 t2 : Bool) (hz1 : z1 = 1) (hz2 : z2 = 3) : ∃ x w, IsT x (123 :: w) ∧ t = w ++ r ∧ ShP x (.agg [.int .i64 5, .sl z1 (strs (ns ++ [nm])) t1 true, .sl z2 (List.take ns.length L ++ List.take 1 (List.drop 0 [p])) t2 true]) := by
 obtain ⟨h1, h2, h3, h4, h5⟩ := h
 have hl := ShPs_len h3
 refine ⟨.mk 5 (ns ++ [nm]) (ls ++ [s]), fieldsT (ns ++ [nm]) (ts ++ [w]) ++ [125], .recd _ _ (ts ++ [w]) (by simp [h1]) (by simp [h2]) hr (fun i s' t' a b => ?_), ?_, z1, t1, true, z2, _, t2, true, rfl, ?_, .inl hz1, .inl hz2⟩
 ·rcases Nat.lt_trichotomy i ls.length with hi | hi | hi
  ·rw [List.getElem?_append_left hi] at a
   rw [List.getElem?_append_left (by omega)] at b
   exact h4 i s' t' a b
  ·subst hi
   rw [List.getElem?_append_right (Nat.le_refl _)] at a
   rw [h2, List.getElem?_append_right (Nat.le_refl _)] at b
   simp at a b
   subst a; subst b; exact hw
  ·rw [List.getElem?_eq_none (by simp; omega)] at a; cases a
 ·rw [fields_snoc _ _ _ _ (h1.trans h2), h5, hu, hb]; simp
 ·rw [List.take_of_length_le (by omega)]; exact ShPs_snoc h3 hp
theorem strs_app2 (a : List (List UInt8)) (b : List UInt8) : strs (a ++ [b]) = strs a ++ [.str b] := by unfold strs; rw [List.map_append]; rfl
theorem recM_eq (n : Nat) (ns : List (List UInt8)) (t : List UInt8) : recM (n + 1) ns t = (match (cutM t).2.2 && (readM n (cutM t).2.1).2, (readM n (cutM t).2.1).1 with
   | true, 125 :: r => (r, rise [] (ns ++ [(cutM t).1]))
   | true, 44 :: r => recM n (ns ++ [(cutM t).1]) r
   | _, _ => ([], false)) := by
 rw [recM]
 generalize readM n (cutM t).2.1 = x
 obtain ⟨l, ok⟩ := x
 rfl
set_option maxHeartbeats 32000000 in
theorem rec_step {n : Nat} (hr : ∀ m, m < n → ReadC m) : RecC n := by
 intro t ht hl Post h
 refine is88.specW K_ok K_mix false (by simp) (by simp [keys]) ?_
 (conv => whnf); repeat ((first | (apply And.intro;· exact Cl4) | apply T1 | apply T2 | apply T3 | apply T4 | apply T6 | apply T5); conv => whnf)
 refine ⟨Nat × List (List UInt8) × List PV × List UInt8 × List Sh × List (List UInt8), fun x => ⟨61, [(2, .ptr 0 0), (0, .str x.2.2.2.1)], [(0, .box [.int .i64 5, .ref 1 1 0 x.2.1.length, .ref 3 2 0 x.2.1.length]), (1, .row 9 1 (strs x.2.1) false), (2, .row 62 3 x.2.2.1 true)], []⟩,
  fun x => x.1 ≤ n ∧ 2 * x.2.2.2.1.length + 2 ≤ x.1 ∧ x.2.2.2.1.length ≤ 1000000 ∧ x.2.1.length + x.2.2.2.1.length ≤ 1000000 ∧ recM n [] t = recM x.1 x.2.1 x.2.2.2.1 ∧ LoopSh t x.2.1 x.2.2.1 x.2.2.2.1 x.2.2.2.2.1 x.2.2.2.2.2, fun x => x.2.2.2.1.length,
  ⟨[.cell 0 1 9, .cell 0 2 62, .age 2], (n, [], [], t, [], []), ⟨Nat.le_refl _, ht, hl, by simpa using hl, rfl, rfl, rfl, rfl, fun i s t h => (by simp at h), rfl⟩, ?_⟩, fun x hI => ?_⟩
 ·simp [meets, ghosts, ghost, St.le, St.get, St.put, look, keys, PV.labs, labsL, lookB, Blk.labs, fresh, nth, updB, strs]
  exact ⟨rfl, rfl⟩
 ·obtain ⟨m, ns, L, u, ls, ts⟩ := x
  obtain ⟨hm, hu, hul, hnl, hin, hsh⟩ := hI
  simp only at hm hu hul hnl hin hsh
  have hfin := fun k z1 L1 z2 L2 (h0 : (recM n [] t).2 = false) => h k z1 L1 z2 L2 (fun hok => by rw [h0] at hok; cases hok)
  rw [hin] at h hfin
  obtain ⟨m, rfl⟩ : ∃ k, m = k + 1 := ⟨m - 1, by omega⟩
  rw [recM_eq] at h hfin
  obtain ⟨hc1, hc2, hc3⟩ := cut_len u
  have hrd := hr m (by omega) (cutM u).2.1 (by
   cases hb : (cutM u).2.2
   ·rw [hc3 hb]; simp; omega
   ·have := hc2 hb; omega) (by omega)
  have hrl := (rest_len m).1 (cutM u).2.1
  conv => (arg 5; dsimp only)
  (conv => whnf); repeat ((first | (apply And.intro;· exact Cl4) | apply T1 | apply T2 | apply T3 | apply T4 | apply T6 | apply T5); conv => whnf)
  refine cut_spec u (by omega) _ ?_
  (conv => whnf); repeat ((first | (apply And.intro;· exact Cl4) | apply T1 | apply T2 | apply T3 | apply T4 | apply T6 | apply T5); conv => whnf)
  refine hrd _ (fun k z1 L1 z2 L2 hsr => ?_)
  unfold ShC at hsr
  have hce := fun h => cut_eq (u := u) h
  generalize hx : readM m (cutM u).2.1 = x at h hfin hrl hsr
  obtain ⟨l, ok⟩ := x
  generalize hcu : cutM u = y at h hfin hc1 hc2 hc3 hrl hsr hce
  obtain ⟨nm, bh, is⟩ := y
  simp only at h hfin hrl hc1 hc2 hc3 hsr hce
  have hgood : is = true → ok = true → ∃ s w, IsT s w ∧ bh = w ++ l ∧ ShP s (shp k z1 L1 z2 L2) := fun _ h2 => hsr h2
  have hst : List.take ns.length (strs ns) = strs ns := List.take_of_length_le (by rw [strs_len]; omega)
  (conv => whnf); repeat ((first | (apply And.intro;· exact Cl4) | apply T1 | apply T2 | apply T3 | apply T4 | apply T6 | apply T5); conv => whnf)
  cases is
  case false =>
   refine Both.T (by rfl) ?_
   (conv => whnf); repeat ((first | (apply And.intro;· exact Cl4) | apply T1 | apply T2 | apply T3 | apply T4 | apply T6 | apply T5); conv => whnf)
   exact hfin _ _ _ _ _ rfl
  cases ok
  case false =>
   refine Both.T (by rfl) ?_
   (conv => whnf); repeat ((first | (apply And.intro;· exact Cl4) | apply T1 | apply T2 | apply T3 | apply T4 | apply T6 | apply T5); conv => whnf)
   exact hfin _ _ _ _ _ rfl
  cases l with
  | nil =>
   refine Both.T (by rfl) ?_
   (conv => whnf); repeat ((first | (apply And.intro;· exact Cl4) | apply T1 | apply T2 | apply T3 | apply T4 | apply T6 | apply T5); conv => whnf)
   exact hfin _ _ _ _ _ rfl
  | cons c r =>
  refine Both.F (by rfl) ?_
  (conv => whnf); repeat ((first | (apply And.intro;· exact Cl4) | apply T1 | apply T2 | apply T3 | apply T4 | apply T6 | apply T5); conv => whnf)
  refine ⟨inv114 ns nm (c :: r) ns.length L k z1 L1 z2 L2, ⟨[], _, rfl, ?_⟩, ?_, fun s hs => ?_⟩
  ·simp [meets, ghosts, St.le, St.get, look, keys, PV.labs, labsL, lookB, Blk.labs, hst]
  ·(conv => whnf)
   refine And.intro (fun s hs => ?_) ?_
   ·simp only [inv114] at hs
    obtain rfl := hs
    (conv => whnf); repeat' (first | ((first | (apply And.intro;· exact Cl4) | apply T1 | apply T2 | apply T3 | apply T4 | apply T6 | apply T5); conv => whnf) | (refine ⟨by show (ns.length + 1) * 17 ≤ _; omega, ?_⟩; conv => whnf) | ((refine Both.mk ?_ ?_ <;> fail_if_success (intro _)) <;> conv => whnf))
    ·exact ⟨[], _, rfl, by simp [meets, ghosts, St.le, St.get, look, keys, PV.labs, labsL, lookB, Blk.labs, hst]⟩
    ·exact ⟨[], _, rfl, by simp [meets, ghosts, St.le, St.get, look, keys, PV.labs, labsL, lookB, Blk.labs, hst]⟩
    ·exact ⟨[], _, rfl, by simp [meets, ghosts, St.le, St.get, look, keys, PV.labs, labsL, lookB, Blk.labs, hst]⟩
    ·exact ⟨[], _, rfl, by simp [meets, ghosts, St.le, St.get, look, keys, PV.labs, labsL, lookB, Blk.labs, hst]⟩
    ·exact trivial
   conv => whnf
   refine And.intro (fun s hs => ?_) ?_
   ·simp only [inv114] at hs
    obtain rfl := hs
    (conv => whnf); repeat' (first | ((first | (apply And.intro;· exact Cl4) | apply T1 | apply T2 | apply T3 | apply T4 | apply T6 | apply T5); conv => whnf) | (refine ⟨by show (ns.length + 1) * 17 ≤ _; omega, ?_⟩; conv => whnf) | ((refine Both.mk ?_ ?_ <;> fail_if_success (intro _)) <;> conv => whnf))
    ·exact ⟨[], _, rfl, by simp [meets, ghosts, St.le, St.get, look, keys, PV.labs, labsL, lookB, Blk.labs, hst]⟩
    ·exact ⟨[], _, rfl, by simp [meets, ghosts, St.le, St.get, look, keys, PV.labs, labsL, lookB, Blk.labs, hst]⟩
    ·exact ⟨[], _, rfl, by simp [meets, ghosts, St.le, St.get, look, keys, PV.labs, labsL, lookB, Blk.labs, hst]⟩
    ·exact trivial
   conv => whnf
   refine And.intro (fun s hs => ?_) ?_
   ·simp only [inv114] at hs
    obtain rfl := hs
    (conv => whnf); repeat' (first | ((first | (apply And.intro;· exact Cl4) | apply T1 | apply T2 | apply T3 | apply T4 | apply T6 | apply T5); conv => whnf) | (refine ⟨by show (ns.length + 1) * 17 ≤ _; omega, ?_⟩; conv => whnf) | ((refine Both.mk ?_ ?_ <;> fail_if_success (intro _)) <;> conv => whnf))
    ·exact ⟨[], _, rfl, by simp [meets, ghosts, St.le, St.get, look, keys, PV.labs, labsL, lookB, Blk.labs, hst]⟩
    ·exact ⟨[], _, rfl, by simp [meets, ghosts, St.le, St.get, look, keys, PV.labs, labsL, lookB, Blk.labs, hst]⟩
    ·exact ⟨[], _, rfl, by simp [meets, ghosts, St.le, St.get, look, keys, PV.labs, labsL, lookB, Blk.labs, hst]⟩
    ·exact trivial
   conv => whnf
   refine And.intro (fun s hs => ?_) ?_
   ·simp only [inv114] at hs
    obtain rfl := hs
    (conv => whnf); repeat' (first | ((first | (apply And.intro;· exact Cl4) | apply T1 | apply T2 | apply T3 | apply T4 | apply T6 | apply T5); conv => whnf) | (refine ⟨by show (ns.length + 1) * 17 ≤ _; omega, ?_⟩; conv => whnf) | ((refine Both.mk ?_ ?_ <;> fail_if_success (intro _)) <;> conv => whnf))
    ·exact ⟨[], _, rfl, by simp [meets, ghosts, St.le, St.get, look, keys, PV.labs, labsL, lookB, Blk.labs, hst]⟩
    ·exact ⟨[], _, rfl, by simp [meets, ghosts, St.le, St.get, look, keys, PV.labs, labsL, lookB, Blk.labs, hst]⟩
    ·exact ⟨[], _, rfl, by simp [meets, ghosts, St.le, St.get, look, keys, PV.labs, labsL, lookB, Blk.labs, hst]⟩
    ·exact trivial
   conv => whnf
   refine And.intro (fun s hs => ?_) ?_
   ·simp only [inv114] at hs
    obtain rfl := hs
    (conv => whnf); repeat' (first | ((first | (apply And.intro;· exact Cl4) | apply T1 | apply T2 | apply T3 | apply T4 | apply T6 | apply T5); conv => whnf) | (refine ⟨by show (ns.length + 1) * 17 ≤ _; omega, ?_⟩; conv => whnf) | ((refine Both.mk ?_ ?_ <;> fail_if_success (intro _)) <;> conv => whnf))
    ·exact ⟨[], _, rfl, by simp [meets, ghosts, St.le, St.get, look, keys, PV.labs, labsL, lookB, Blk.labs, hst]⟩
    ·exact ⟨[], _, rfl, by simp [meets, ghosts, St.le, St.get, look, keys, PV.labs, labsL, lookB, Blk.labs, hst]⟩
    ·exact ⟨[], _, rfl, by simp [meets, ghosts, St.le, St.get, look, keys, PV.labs, labsL, lookB, Blk.labs, hst]⟩
    ·exact ⟨[], _, rfl, by simp [meets, ghosts, St.le, St.get, look, keys, PV.labs, labsL, lookB, Blk.labs, hst]⟩
    ·exact trivial
   conv => whnf
   refine And.intro (fun s hs => ?_) ?_
   ·simp only [inv114] at hs
    obtain rfl := hs
    (conv => whnf); repeat' (first | ((first | (apply And.intro;· exact Cl4) | apply T1 | apply T2 | apply T3 | apply T4 | apply T6 | apply T5); conv => whnf) | (refine ⟨by show (ns.length + 1) * 17 ≤ _; omega, ?_⟩; conv => whnf) | ((refine Both.mk ?_ ?_ <;> fail_if_success (intro _)) <;> conv => whnf))
    ·exact ⟨[], _, rfl, by simp [meets, ghosts, St.le, St.get, look, keys, PV.labs, labsL, lookB, Blk.labs, hst]⟩
    ·exact ⟨[], _, rfl, by simp [meets, ghosts, St.le, St.get, look, keys, PV.labs, labsL, lookB, Blk.labs, hst]⟩
    ·exact ⟨[], _, rfl, by simp [meets, ghosts, St.le, St.get, look, keys, PV.labs, labsL, lookB, Blk.labs, hst]⟩
    ·exact trivial
   conv => whnf
   refine And.intro (fun s hs => ?_) ?_
   ·simp only [inv114] at hs
    obtain rfl := hs
    (conv => whnf); repeat' (first | ((first | (apply And.intro;· exact Cl4) | apply T1 | apply T2 | apply T3 | apply T4 | apply T6 | apply T5); conv => whnf) | (refine ⟨by show (ns.length + 1) * 17 ≤ _; omega, ?_⟩; conv => whnf) | ((refine Both.mk ?_ ?_ <;> fail_if_success (intro _)) <;> conv => whnf))
    ·exact ⟨[], _, rfl, by simp [meets, ghosts, St.le, St.get, look, keys, PV.labs, labsL, lookB, Blk.labs, hst]⟩
    ·exact ⟨[], _, rfl, by simp [meets, ghosts, St.le, St.get, look, keys, PV.labs, labsL, lookB, Blk.labs, hst]⟩
    ·exact trivial
   conv => whnf
   refine And.intro (fun s hs => ?_) ?_
   ·simp only [inv114] at hs
    obtain rfl := hs
    (conv => whnf); repeat' (first | ((first | (apply And.intro;· exact Cl4) | apply T1 | apply T2 | apply T3 | apply T4 | apply T6 | apply T5); conv => whnf) | (refine ⟨by show (ns.length + 1) * 17 ≤ _; omega, ?_⟩; conv => whnf) | ((refine Both.mk ?_ ?_ <;> fail_if_success (intro _)) <;> conv => whnf))
    ·exact ⟨[], _, rfl, by simp [meets, ghosts, St.le, St.get, look, keys, PV.labs, labsL, lookB, Blk.labs, hst]⟩
    ·exact ⟨[], _, rfl, by simp [meets, ghosts, St.le, St.get, look, keys, PV.labs, labsL, lookB, Blk.labs, hst]⟩
    ·exact ⟨[], _, rfl, by simp [meets, ghosts, St.le, St.get, look, keys, PV.labs, labsL, lookB, Blk.labs, hst]⟩
    ·exact trivial
   conv => whnf
   refine And.intro (fun s hs => ?_) ?_
   ·simp only [inv114] at hs
    obtain rfl := hs
    (conv => whnf); repeat' (first | ((first | (apply And.intro;· exact Cl4) | apply T1 | apply T2 | apply T3 | apply T4 | apply T6 | apply T5); conv => whnf) | (refine ⟨by show (ns.length + 1) * 17 ≤ _; omega, ?_⟩; conv => whnf) | ((refine Both.mk ?_ ?_ <;> fail_if_success (intro _)) <;> conv => whnf))
    ·exact ⟨[], _, rfl, by simp [meets, ghosts, St.le, St.get, look, keys, PV.labs, labsL, lookB, Blk.labs, hst]⟩
    ·exact ⟨[], _, rfl, by simp [meets, ghosts, St.le, St.get, look, keys, PV.labs, labsL, lookB, Blk.labs, hst]⟩
    ·exact trivial
   conv => whnf
   refine And.intro (fun s hs => ?_) ?_
   ·simp only [inv114] at hs
    obtain rfl := hs
    (conv => whnf); repeat' (first | ((first | (apply And.intro;· exact Cl4) | apply T1 | apply T2 | apply T3 | apply T4 | apply T6 | apply T5); conv => whnf) | (refine ⟨by show (ns.length + 1) * 17 ≤ _; omega, ?_⟩; conv => whnf) | ((refine Both.mk ?_ ?_ <;> fail_if_success (intro _)) <;> conv => whnf))
    ·exact ⟨[], _, rfl, by simp [meets, ghosts, St.le, St.get, look, keys, PV.labs, labsL, lookB, Blk.labs, hst]⟩
    ·exact ⟨[], _, rfl, by simp [meets, ghosts, St.le, St.get, look, keys, PV.labs, labsL, lookB, Blk.labs, hst]⟩
    ·exact ⟨[], _, Or.inl rfl, by simp [meets, ghosts, St.le, St.get, look, keys, PV.labs, labsL, lookB, Blk.labs, hst]⟩
    ·exact trivial
   conv => whnf
   refine And.intro (fun s hs => ?_) ?_
   ·simp only [inv114] at hs
    obtain rfl := hs
    (conv => whnf); repeat' (first | ((first | (apply And.intro;· exact Cl4) | apply T1 | apply T2 | apply T3 | apply T4 | apply T6 | apply T5); conv => whnf) | (refine ⟨by show (ns.length + 1) * 17 ≤ _; omega, ?_⟩; conv => whnf) | ((refine Both.mk ?_ ?_ <;> fail_if_success (intro _)) <;> conv => whnf))
    ·exact ⟨[], _, rfl, by simp [meets, ghosts, St.le, St.get, look, keys, PV.labs, labsL, lookB, Blk.labs, hst]⟩
    ·exact ⟨[], _, rfl, by simp [meets, ghosts, St.le, St.get, look, keys, PV.labs, labsL, lookB, Blk.labs, hst]⟩
    ·exact ⟨[], _, rfl, by simp [meets, ghosts, St.le, St.get, look, keys, PV.labs, labsL, lookB, Blk.labs, hst]⟩
    ·exact trivial
   conv => whnf
   refine And.intro (fun s hs => ?_) ?_
   ·simp only [inv114] at hs
    obtain rfl := hs
    (conv => whnf); repeat' (first | ((first | (apply And.intro;· exact Cl4) | apply T1 | apply T2 | apply T3 | apply T4 | apply T6 | apply T5); conv => whnf) | (refine ⟨by show (ns.length + 1) * 17 ≤ _; omega, ?_⟩; conv => whnf) | ((refine Both.mk ?_ ?_ <;> fail_if_success (intro _)) <;> conv => whnf))
    ·exact ⟨[], _, rfl, by simp [meets, ghosts, St.le, St.get, look, keys, PV.labs, labsL, lookB, Blk.labs, hst]⟩
    ·exact ⟨[], _, Or.inr rfl, by simp [meets, ghosts, St.le, St.get, look, keys, PV.labs, labsL, lookB, Blk.labs, hst]⟩
    ·exact ⟨[], _, rfl, by simp [meets, ghosts, St.le, St.get, look, keys, PV.labs, labsL, lookB, Blk.labs, hst]⟩
    ·exact trivial
   conv => whnf
   refine And.intro (fun s hs => ?_) ?_
   ·simp only [inv114] at hs
    obtain rfl := hs
    (conv => whnf); repeat' (first | ((first | (apply And.intro;· exact Cl4) | apply T1 | apply T2 | apply T3 | apply T4 | apply T6 | apply T5); conv => whnf) | (refine ⟨by show (ns.length + 1) * 17 ≤ _; omega, ?_⟩; conv => whnf) | ((refine Both.mk ?_ ?_ <;> fail_if_success (intro _)) <;> conv => whnf))
    ·exact ⟨[], _, rfl, by simp [meets, ghosts, St.le, St.get, look, keys, PV.labs, labsL, lookB, Blk.labs, hst]⟩
    ·exact ⟨[], _, rfl, by simp [meets, ghosts, St.le, St.get, look, keys, PV.labs, labsL, lookB, Blk.labs, hst]⟩
    ·exact trivial
   conv => whnf
   refine And.intro (fun s hs => ?_) ?_
   ·simp only [inv114] at hs
    obtain rfl := hs
    (conv => whnf); repeat' (first | ((first | (apply And.intro;· exact Cl4) | apply T1 | apply T2 | apply T3 | apply T4 | apply T6 | apply T5); conv => whnf) | (refine ⟨by show (ns.length + 1) * 17 ≤ _; omega, ?_⟩; conv => whnf) | ((refine Both.mk ?_ ?_ <;> fail_if_success (intro _)) <;> conv => whnf))
    ·exact ⟨[], _, rfl, by simp [meets, ghosts, St.le, St.get, look, keys, PV.labs, labsL, lookB, Blk.labs, hst]⟩
    ·exact ⟨[], _, rfl, by simp [meets, ghosts, St.le, St.get, look, keys, PV.labs, labsL, lookB, Blk.labs, hst]⟩
    ·exact trivial
   conv => whnf
   refine And.intro (fun s hs => ?_) ?_
   ·simp only [inv114] at hs
    obtain rfl := hs
    (conv => whnf); repeat' (first | ((first | (apply And.intro;· exact Cl4) | apply T1 | apply T2 | apply T3 | apply T4 | apply T6 | apply T5); conv => whnf) | (refine ⟨by show (ns.length + 1) * 17 ≤ _; omega, ?_⟩; conv => whnf) | ((refine Both.mk ?_ ?_ <;> fail_if_success (intro _)) <;> conv => whnf))
    ·exact ⟨[], _, rfl, by simp [meets, ghosts, St.le, St.get, look, keys, PV.labs, labsL, lookB, Blk.labs, hst]⟩
    ·exact ⟨[], _, rfl, by simp [meets, ghosts, St.le, St.get, look, keys, PV.labs, labsL, lookB, Blk.labs, hst]⟩
    ·exact ⟨[], _, Or.inl rfl, by simp [meets, ghosts, St.le, St.get, look, keys, PV.labs, labsL, lookB, Blk.labs, hst]⟩
    ·exact trivial
   conv => whnf
   refine And.intro (fun s hs => ?_) ?_
   ·simp only [inv114] at hs
    obtain rfl := hs
    (conv => whnf); repeat' (first | ((first | (apply And.intro;· exact Cl4) | apply T1 | apply T2 | apply T3 | apply T4 | apply T6 | apply T5); conv => whnf) | (refine ⟨by show (ns.length + 1) * 17 ≤ _; omega, ?_⟩; conv => whnf) | ((refine Both.mk ?_ ?_ <;> fail_if_success (intro _)) <;> conv => whnf))
    ·exact ⟨[], _, rfl, by simp [meets, ghosts, St.le, St.get, look, keys, PV.labs, labsL, lookB, Blk.labs, hst]⟩
    ·exact ⟨[], _, rfl, by simp [meets, ghosts, St.le, St.get, look, keys, PV.labs, labsL, lookB, Blk.labs, hst]⟩
    ·exact trivial
   conv => whnf
   refine And.intro (fun s hs => ?_) ?_
   ·simp only [inv114] at hs
    obtain rfl := hs
    (conv => whnf); repeat' (first | ((first | (apply And.intro;· exact Cl4) | apply T1 | apply T2 | apply T3 | apply T4 | apply T6 | apply T5); conv => whnf) | (refine ⟨by show (ns.length + 1) * 17 ≤ _; omega, ?_⟩; conv => whnf) | ((refine Both.mk ?_ ?_ <;> fail_if_success (intro _)) <;> conv => whnf))
    ·exact ⟨[], _, Or.inr rfl, by simp [meets, ghosts, St.le, St.get, look, keys, PV.labs, labsL, lookB, Blk.labs, hst]⟩
    ·exact ⟨[], _, rfl, by simp [meets, ghosts, St.le, St.get, look, keys, PV.labs, labsL, lookB, Blk.labs, hst]⟩
    ·exact trivial
   conv => whnf
   refine And.intro (fun s hs => ?_) ?_
   ·simp only [inv114] at hs
    obtain rfl := hs
    (conv => whnf); repeat' (first | ((first | (apply And.intro;· exact Cl4) | apply T1 | apply T2 | apply T3 | apply T4 | apply T6 | apply T5); conv => whnf) | (refine ⟨by show (ns.length + 1) * 17 ≤ _; omega, ?_⟩; conv => whnf) | ((refine Both.mk ?_ ?_ <;> fail_if_success (intro _)) <;> conv => whnf))
    ·exact ⟨[], _, rfl, by simp [meets, ghosts, St.le, St.get, look, keys, PV.labs, labsL, lookB, Blk.labs, hst]⟩
    ·exact ⟨[], _, Or.inl rfl, by simp [meets, ghosts, St.le, St.get, look, keys, PV.labs, labsL, lookB, Blk.labs, hst]⟩
    ·exact trivial
   conv => whnf
   refine And.intro (fun s hs => ?_) ?_
   ·simp only [inv114] at hs
    rcases hs with rfl | rfl
    ·(conv => whnf); repeat' (first | ((first | (apply And.intro;· exact Cl4) | apply T1 | apply T2 | apply T3 | apply T4 | apply T6 | apply T5); conv => whnf) | (refine ⟨by show (ns.length + 1) * 17 ≤ _; omega, ?_⟩; conv => whnf) | ((refine Both.mk ?_ ?_ <;> fail_if_success (intro _)) <;> conv => whnf))
     ·exact ⟨[], _, Or.inl rfl, by simp [meets, ghosts, St.le, St.get, look, keys, PV.labs, labsL, lookB, Blk.labs, hst]⟩
     ·exact ⟨[], _, Or.inl rfl, by simp [meets, ghosts, St.le, St.get, look, keys, PV.labs, labsL, lookB, Blk.labs, hst]⟩
     ·exact trivial
    ·(conv => whnf); repeat' (first | ((first | (apply And.intro;· exact Cl4) | apply T1 | apply T2 | apply T3 | apply T4 | apply T6 | apply T5); conv => whnf) | (refine ⟨by show (ns.length + 1) * 17 ≤ _; omega, ?_⟩; conv => whnf) | ((refine Both.mk ?_ ?_ <;> fail_if_success (intro _)) <;> conv => whnf))
     ·exact ⟨[], _, Or.inr rfl, by simp [meets, ghosts, St.le, St.get, look, keys, PV.labs, labsL, lookB, Blk.labs, hst]⟩
     ·exact ⟨[], _, Or.inr rfl, by simp [meets, ghosts, St.le, St.get, look, keys, PV.labs, labsL, lookB, Blk.labs, hst]⟩
     ·exact trivial
   conv => whnf
   refine And.intro (fun s hs => ?_) ?_
   ·simp only [inv114] at hs
    obtain rfl := hs
    (conv => whnf); repeat' (first | ((first | (apply And.intro;· exact Cl4) | apply T1 | apply T2 | apply T3 | apply T4 | apply T6 | apply T5); conv => whnf) | (refine ⟨by show (ns.length + 1) * 17 ≤ _; omega, ?_⟩; conv => whnf) | ((refine Both.mk ?_ ?_ <;> fail_if_success (intro _)) <;> conv => whnf))
    ·exact ⟨[], _, rfl, by simp [meets, ghosts, St.le, St.get, look, keys, PV.labs, labsL, lookB, Blk.labs, hst]⟩
    ·exact ⟨[], _, Or.inr rfl, by simp [meets, ghosts, St.le, St.get, look, keys, PV.labs, labsL, lookB, Blk.labs, hst]⟩
    ·exact trivial
   conv => whnf
   refine And.intro (fun s hs => ?_) ?_
   ·simp only [inv114] at hs
    obtain rfl := hs
    (conv => whnf); repeat' (first | ((first | (apply And.intro;· exact Cl4) | apply T1 | apply T2 | apply T3 | apply T4 | apply T6 | apply T5); conv => whnf) | (refine ⟨by show (ns.length + 1) * 17 ≤ _; omega, ?_⟩; conv => whnf) | ((refine Both.mk ?_ ?_ <;> fail_if_success (intro _)) <;> conv => whnf))
    ·exact ⟨[], _, rfl, by simp [meets, ghosts, St.le, St.get, look, keys, PV.labs, labsL, lookB, Blk.labs, hst]⟩
    ·exact trivial
   conv => whnf
   refine And.intro (fun s hs => ?_) ?_
   ·simp only [inv114] at hs
    obtain rfl := hs
    (conv => whnf); repeat' (first | ((first | (apply And.intro;· exact Cl4) | apply T1 | apply T2 | apply T3 | apply T4 | apply T6 | apply T5); conv => whnf) | (refine ⟨by show (ns.length + 1) * 17 ≤ _; omega, ?_⟩; conv => whnf) | ((refine Both.mk ?_ ?_ <;> fail_if_success (intro _)) <;> conv => whnf))
    ·exact ⟨[], _, rfl, by simp [meets, ghosts, St.le, St.get, look, keys, PV.labs, labsL, lookB, Blk.labs, hst]⟩
    ·exact ⟨[], _, Or.inl rfl, by simp [meets, ghosts, St.le, St.get, look, keys, PV.labs, labsL, lookB, Blk.labs, hst]⟩
    ·exact trivial
   conv => whnf
   refine And.intro (fun s hs => ?_) ?_
   ·simp only [inv114] at hs
    obtain rfl := hs
    (conv => whnf); repeat' (first | ((first | (apply And.intro;· exact Cl4) | apply T1 | apply T2 | apply T3 | apply T4 | apply T6 | apply T5); conv => whnf) | (refine ⟨by show (ns.length + 1) * 17 ≤ _; omega, ?_⟩; conv => whnf) | ((refine Both.mk ?_ ?_ <;> fail_if_success (intro _)) <;> conv => whnf))
    ·exact ⟨[], _, rfl, by simp [meets, ghosts, St.le, St.get, look, keys, PV.labs, labsL, lookB, Blk.labs, hst]⟩
    ·exact ⟨[], _, Or.inl rfl, by simp [meets, ghosts, St.le, St.get, look, keys, PV.labs, labsL, lookB, Blk.labs, hst]⟩
    ·exact trivial
   conv => whnf
   refine And.intro (fun s hs => ?_) ?_
   ·simp only [inv114] at hs
    rcases hs with rfl | rfl
    ·(conv => whnf); repeat' (first | ((first | (apply And.intro;· exact Cl4) | apply T1 | apply T2 | apply T3 | apply T4 | apply T6 | apply T5); conv => whnf) | (refine ⟨by show (ns.length + 1) * 17 ≤ _; omega, ?_⟩; conv => whnf) | ((refine Both.mk ?_ ?_ <;> fail_if_success (intro _)) <;> conv => whnf))
     ·exact ⟨[], _, Or.inr rfl, by simp [meets, ghosts, St.le, St.get, look, keys, PV.labs, labsL, lookB, Blk.labs, hst]⟩
     ·exact ⟨[], _, Or.inl rfl, by simp [meets, ghosts, St.le, St.get, look, keys, PV.labs, labsL, lookB, Blk.labs, hst]⟩
     ·exact trivial
    ·(conv => whnf); repeat' (first | ((first | (apply And.intro;· exact Cl4) | apply T1 | apply T2 | apply T3 | apply T4 | apply T6 | apply T5); conv => whnf) | (refine ⟨by show (ns.length + 1) * 17 ≤ _; omega, ?_⟩; conv => whnf) | ((refine Both.mk ?_ ?_ <;> fail_if_success (intro _)) <;> conv => whnf))
     ·exact ⟨[], _, Or.inl rfl, by simp [meets, ghosts, St.le, St.get, look, keys, PV.labs, labsL, lookB, Blk.labs, hst]⟩
     ·exact ⟨[], _, Or.inr rfl, by simp [meets, ghosts, St.le, St.get, look, keys, PV.labs, labsL, lookB, Blk.labs, hst]⟩
     ·exact trivial
   conv => whnf
   refine And.intro (fun s hs => ?_) ?_
   ·simp only [inv114] at hs
    obtain rfl := hs
    (conv => whnf); repeat' (first | ((first | (apply And.intro;· exact Cl4) | apply T1 | apply T2 | apply T3 | apply T4 | apply T6 | apply T5); conv => whnf) | (refine ⟨by show (ns.length + 1) * 17 ≤ _; omega, ?_⟩; conv => whnf) | ((refine Both.mk ?_ ?_ <;> fail_if_success (intro _)) <;> conv => whnf))
    ·exact ⟨[], _, Or.inr rfl, by simp [meets, ghosts, St.le, St.get, look, keys, PV.labs, labsL, lookB, Blk.labs, hst]⟩
    ·exact trivial
   conv => whnf
   refine And.intro (fun s hs => ?_) ?_
   ·simp only [inv114] at hs
    rcases hs with rfl | rfl
    ·(conv => whnf); repeat' (first | ((first | (apply And.intro;· exact Cl4) | apply T1 | apply T2 | apply T3 | apply T4 | apply T6 | apply T5); conv => whnf) | (refine ⟨by show (ns.length + 1) * 17 ≤ _; omega, ?_⟩; conv => whnf) | ((refine Both.mk ?_ ?_ <;> fail_if_success (intro _)) <;> conv => whnf))
     ·exact ⟨[], _, Or.inl rfl, by simp [meets, ghosts, St.le, St.get, look, keys, PV.labs, labsL, lookB, Blk.labs, hst]⟩
     ·exact trivial
    ·(conv => whnf); repeat' (first | ((first | (apply And.intro;· exact Cl4) | apply T1 | apply T2 | apply T3 | apply T4 | apply T6 | apply T5); conv => whnf) | (refine ⟨by show (ns.length + 1) * 17 ≤ _; omega, ?_⟩; conv => whnf) | ((refine Both.mk ?_ ?_ <;> fail_if_success (intro _)) <;> conv => whnf))
     ·exact ⟨[], _, Or.inr rfl, by simp [meets, ghosts, St.le, St.get, look, keys, PV.labs, labsL, lookB, Blk.labs, hst]⟩
     ·exact trivial
   conv => whnf
   refine And.intro (fun s hs => ?_) ?_
   ·simp only [inv114] at hs
    obtain rfl := hs
    (conv => whnf); repeat' (first | ((first | (apply And.intro;· exact Cl4) | apply T1 | apply T2 | apply T3 | apply T4 | apply T6 | apply T5); conv => whnf) | (refine ⟨by show (ns.length + 1) * 17 ≤ _; omega, ?_⟩; conv => whnf) | ((refine Both.mk ?_ ?_ <;> fail_if_success (intro _)) <;> conv => whnf))
    ·exact ⟨[], _, rfl, by simp [meets, ghosts, St.le, St.get, look, keys, PV.labs, labsL, lookB, Blk.labs, hst]⟩
    ·exact trivial
   conv => whnf
   refine And.intro (fun s hs => ?_) ?_
   ·simp only [inv114] at hs
    obtain rfl := hs
    (conv => whnf); repeat' (first | ((first | (apply And.intro;· exact Cl4) | apply T1 | apply T2 | apply T3 | apply T4 | apply T6 | apply T5); conv => whnf) | (refine ⟨by show (ns.length + 1) * 17 ≤ _; omega, ?_⟩; conv => whnf) | ((refine Both.mk ?_ ?_ <;> fail_if_success (intro _)) <;> conv => whnf))
    ·exact ⟨[], _, rfl, by simp [meets, ghosts, St.le, St.get, look, keys, PV.labs, labsL, lookB, Blk.labs, hst]⟩
    ·exact trivial
   conv => whnf
   refine And.intro (fun s hs => ?_) ?_
   ·simp only [inv114] at hs
    rcases hs with rfl | rfl
    ·(conv => whnf); repeat' (first | ((first | (apply And.intro;· exact Cl4) | apply T1 | apply T2 | apply T3 | apply T4 | apply T6 | apply T5); conv => whnf) | (refine ⟨by show (ns.length + 1) * 17 ≤ _; omega, ?_⟩; conv => whnf) | ((refine Both.mk ?_ ?_ <;> fail_if_success (intro _)) <;> conv => whnf))
     ·exact ⟨[], _, Or.inl rfl, by simp [meets, ghosts, St.le, St.get, look, keys, PV.labs, labsL, lookB, Blk.labs, hst]⟩
     ·exact trivial
    ·(conv => whnf); repeat' (first | ((first | (apply And.intro;· exact Cl4) | apply T1 | apply T2 | apply T3 | apply T4 | apply T6 | apply T5); conv => whnf) | (refine ⟨by show (ns.length + 1) * 17 ≤ _; omega, ?_⟩; conv => whnf) | ((refine Both.mk ?_ ?_ <;> fail_if_success (intro _)) <;> conv => whnf))
     ·exact ⟨[], _, Or.inr rfl, by simp [meets, ghosts, St.le, St.get, look, keys, PV.labs, labsL, lookB, Blk.labs, hst]⟩
     ·exact trivial
   conv => whnf
   refine And.intro (fun s hs => ?_) ?_
   ·simp only [inv114] at hs
    rcases hs with rfl | rfl
    ·(conv => whnf); repeat' (first | ((first | (apply And.intro;· exact Cl4) | apply T1 | apply T2 | apply T3 | apply T4 | apply T6 | apply T5); conv => whnf) | (refine ⟨by show (ns.length + 1) * 17 ≤ _; omega, ?_⟩; conv => whnf) | ((refine Both.mk ?_ ?_ <;> fail_if_success (intro _)) <;> conv => whnf))
     ·exact ⟨[], _, Or.inr rfl, by simp [meets, ghosts, St.le, St.get, look, keys, PV.labs, labsL, lookB, Blk.labs, hst]⟩
     ·exact trivial
    ·(conv => whnf); repeat' (first | ((first | (apply And.intro;· exact Cl4) | apply T1 | apply T2 | apply T3 | apply T4 | apply T6 | apply T5); conv => whnf) | (refine ⟨by show (ns.length + 1) * 17 ≤ _; omega, ?_⟩; conv => whnf) | ((refine Both.mk ?_ ?_ <;> fail_if_success (intro _)) <;> conv => whnf))
     ·exact ⟨[], _, Or.inl rfl, by simp [meets, ghosts, St.le, St.get, look, keys, PV.labs, labsL, lookB, Blk.labs, hst]⟩
     ·exact trivial
   conv => whnf
   refine And.intro (fun s hs => ?_) ?_
   ·simp only [inv114] at hs
    obtain rfl := hs
    (conv => whnf); repeat' (first | ((first | (apply And.intro;· exact Cl4) | apply T1 | apply T2 | apply T3 | apply T4 | apply T6 | apply T5); conv => whnf) | (refine ⟨by show (ns.length + 1) * 17 ≤ _; omega, ?_⟩; conv => whnf) | ((refine Both.mk ?_ ?_ <;> fail_if_success (intro _)) <;> conv => whnf))
    ·exact ⟨[], _, Or.inl rfl, by simp [meets, ghosts, St.le, St.get, look, keys, PV.labs, labsL, lookB, Blk.labs, hst]⟩
    ·exact trivial
   conv => whnf
   refine And.intro (fun s hs => ?_) ?_
   ·simp only [inv114] at hs
    rcases hs with rfl | rfl
    ·(conv => whnf); repeat' (first | ((first | (apply And.intro;· exact Cl4) | apply T1 | apply T2 | apply T3 | apply T4 | apply T6 | apply T5); conv => whnf) | (refine ⟨by show (ns.length + 1) * 17 ≤ _; omega, ?_⟩; conv => whnf) | ((refine Both.mk ?_ ?_ <;> fail_if_success (intro _)) <;> conv => whnf))
     ·exact ⟨[], _, Or.inl rfl, by simp [meets, ghosts, St.le, St.get, look, keys, PV.labs, labsL, lookB, Blk.labs, hst]⟩
     ·exact trivial
    ·(conv => whnf); repeat' (first | ((first | (apply And.intro;· exact Cl4) | apply T1 | apply T2 | apply T3 | apply T4 | apply T6 | apply T5); conv => whnf) | (refine ⟨by show (ns.length + 1) * 17 ≤ _; omega, ?_⟩; conv => whnf) | ((refine Both.mk ?_ ?_ <;> fail_if_success (intro _)) <;> conv => whnf))
     ·exact ⟨[], _, Or.inr rfl, by simp [meets, ghosts, St.le, St.get, look, keys, PV.labs, labsL, lookB, Blk.labs, hst]⟩
     ·exact trivial
   conv => whnf
   refine And.intro (fun s hs => ?_) ?_
   ·simp only [inv114] at hs
    rcases hs with rfl | rfl
    ·exact trivial
    ·exact trivial
   conv => whnf
   exact trivial
  ·simp only [inv114, List.length_cons, List.length_nil] at hs
   have hcl : (c :: r).length = r.length + 1 := rfl
   have hrows : strs ns ++ [.str nm] = strs (ns ++ [nm]) := (strs_app2 ns nm).symm
   have h1len : List.drop (Int.toNat 1) (List.take (c :: r).length (c :: r)) = r := by simp
   have htk : List.take (ns.length + 1) (List.drop 0 (strs ns ++ [PV.str nm])) = strs (ns ++ [nm]) := by rw [List.drop_zero, List.take_of_length_le (by simp [strs_len]), strs_app2]
   rcases hs with rfl | rfl
   all_goals (
    (conv => whnf); repeat ((first | (apply And.intro;· exact Cl4) | apply T1 | apply T2 | apply T3 | apply T4 | apply T6 | apply T5); conv => whnf)
    refine ⟨by show (ns.length + 1) * 57 ≤ _; omega, ?_⟩
    (conv => whnf); repeat ((first | (apply And.intro;· exact Cl4) | apply T1 | apply T2 | apply T3 | apply T4 | apply T6 | apply T5); conv => whnf)
    have h0 : (List.getD (c :: r) (Int.toNat 0) 0) = c := rfl
    rw [h0]
    by_cases h125 : c = 125
    ·subst h125
     refine Both.T (by rfl) ?_
     (conv => whnf); repeat' (first | ((first | (apply And.intro;· exact Cl4) | apply T1 | apply T2 | apply T3 | apply T4 | apply T6 | apply T5); conv => whnf) | ((rw [htk]; refine rising_spec (ns ++ [nm]) 1 _ (Or.inl rfl) (by simp; omega) _ ?_); conv => whnf) | ((refine Both.mk ?_ ?_ <;> fail_if_success (intro _)) <;> conv => whnf))
     all_goals (
      rw [h1len]
      obtain ⟨s, w, g1, g2, g3⟩ := hgood rfl rfl
      refine h _ _ _ _ _ (fun hok => ?_)
      have e : recM n [] t = (r, rise [] (ns ++ [nm])) := by rw [hin, recM_eq, hx, hcu]; rfl
      rw [e] at hok ⊢
      obtain ⟨x, w', f1, f2, f3⟩ := hsh.fin (hce rfl) g2 g1 g3 hok 1 3 false false rfl rfl
      refine ⟨x, w', f1, f2, ?_⟩
      have hA : List.take (ns.length + (List.take 1 (List.drop 0 [shp k z1 L1 z2 L2])).length) (List.drop 0 (List.take ns.length L ++ List.take 1 (List.drop 0 [shp k z1 L1 z2 L2]))) = List.take ns.length L ++ List.take 1 (List.drop 0 [shp k z1 L1 z2 L2]) := by
       exact (congrArg _ List.drop_zero).trans (List.take_of_length_le (by rw [List.length_append, List.length_take]; omega))
      rw [htk, hA]
      exact f3)
    have n125 : ((c.toNat : Int) == 125) = false := by
     have : ¬ (c.toNat : Int) = 125 := fun e => h125 (UInt8.toNat.inj (by show c.toNat = 125; omega))
     simpa using this
    rw [n125]
    (conv => whnf); repeat ((first | (apply And.intro;· exact Cl4) | apply T1 | apply T2 | apply T3 | apply T4 | apply T6 | apply T5); conv => whnf)
    by_cases h44 : c = 44
    ·subst h44
     refine Both.T (by rfl) ?_
     (conv => whnf); repeat ((first | (apply And.intro;· exact Cl4) | apply T1 | apply T2 | apply T3 | apply T4 | apply T6 | apply T5); conv => whnf)
     have hrec : recM n [] t = recM m (ns ++ [nm]) r := by rw [hin, recM_eq, hx, hcu]; rfl
     have hc2 := hc2 rfl
     simp only [List.length_cons] at hrl
     obtain ⟨s, w, g1, g2, g3⟩ := hgood rfl rfl
     refine ⟨[], (m, ns ++ [nm], List.take ns.length L ++ List.take 1 (List.drop 0 [shp k z1 L1 z2 L2]), r, ls ++ [s], ts ++ [w]), ⟨by show m ≤ n; omega, by show 2 * r.length + 2 ≤ m; omega, by show r.length ≤ _; omega, by show (ns ++ [nm]).length + r.length ≤ _; rw [List.length_append]; simp only [List.length_cons, List.length_nil]; omega, hrec, hsh.snoc (hce rfl) g2 g1 g3⟩, by show r.length < u.length; omega, ?_⟩
     simp [meets, ghosts, St.le, St.get, look, keys, PV.labs, labsL, lookB, Blk.labs, strs_app2]
    have n44 : ((c.toNat : Int) == 44) = false := by
     have : ¬ (c.toNat : Int) = 44 := fun e => h44 (UInt8.toNat.inj (by show c.toNat = 44; omega))
     simpa using this
    rw [n44]
    (conv => whnf); repeat ((first | (apply And.intro;· exact Cl4) | apply T1 | apply T2 | apply T3 | apply T4 | apply T6 | apply T5); conv => whnf)
    have hno : recM n [] t = ([], false) := by
     rw [hin, recM_eq, hx, hcu]
     dsimp only
     split
     ·rename_i e
      exact absurd (List.cons.inj e).1 h125
     ·rename_i e
      exact absurd (List.cons.inj e).1 h44
     ·rfl
    have h := hfin 0 0 [] 0 []
    split at h
    ·rename_i e
     exact absurd (List.cons.inj e).1 h125
    ·rename_i e
     exact absurd (List.cons.inj e).1 h44
    ·exact h rfl)
end Go.Vc
