/- What is proved here: contracts of functions of the program: of each function what it hands back and what it leaves in memory. Conditions: those that each theorem names. -/
import Derived.Test.YtmbopgmllnijjaaQp
import Derived.Test.YtmbopgmllnijjaaFd
set_option linter.unusedVariables false
set_option linter.unusedSimpArgs false
set_option linter.unusedSectionVars false
namespace Go.Vc
open Go Go.Proofs
set_option maxRecDepth 100000
/-- The states of a drawn region, by what is done. -/
def inv14 : Nat → St → Prop
  | 0, s => s = ⟨79, [(2, .ptr 1 0), (1, .ptr 0 0), (0, .bool false)], [(1, .box [.int .i64 30, .int .i64 0, .int .i64 0]), (0, .box [.int .i64 1, .int .i64 0, .int .i64 0])], []⟩
  | 1, s => s = ⟨79, [(8, INP ⟨26, 4, 0⟩), (2, .ptr 1 0), (1, .ptr 0 0), (0, .bool false)], [(1, .box [.int .i64 30, .int .i64 0, .int .i64 0]), (0, .box [.int .i64 1, .int .i64 0, .int .i64 0])], []⟩
  | 2, s => s = ⟨79, [(9, INP ⟨1, 0, 0⟩), (2, .ptr 1 0), (1, .ptr 0 0), (0, .bool false)], [(1, .box [.int .i64 30, .int .i64 0, .int .i64 0]), (0, .box [.int .i64 1, .int .i64 0, .int .i64 0])], []⟩
  | 3, s => s = ⟨79, [(11, INP ⟨30, 0, 0⟩), (2, .ptr 1 0), (1, .ptr 0 0), (0, .bool false)], [(1, .box [.int .i64 30, .int .i64 0, .int .i64 0]), (0, .box [.int .i64 1, .int .i64 0, .int .i64 0])], []⟩
  | 4, s => s = ⟨79, [(12, INP ⟨30, 0, 0⟩), (2, .ptr 1 0), (1, .ptr 0 0), (0, .bool false)], [(1, .box [.int .i64 30, .int .i64 0, .int .i64 0]), (0, .box [.int .i64 1, .int .i64 0, .int .i64 0])], []⟩
  | 5, s => s = ⟨79, [(3, .ptr 2 0), (2, .ptr 1 0), (1, .ptr 0 0), (0, .bool false)], [(2, .box [.sl 0 [] true false, .sl 0 [] true false]), (1, .box [.int .i64 30, .int .i64 0, .int .i64 0]), (0, .box [.int .i64 1, .int .i64 0, .int .i64 0])], []⟩
  | 6, s => s = ⟨79, [(9, INP ⟨1, 0, 0⟩), (8, INP ⟨26, 4, 0⟩), (2, .ptr 1 0), (1, .ptr 0 0), (0, .bool false)], [(1, .box [.int .i64 30, .int .i64 0, .int .i64 0]), (0, .box [.int .i64 1, .int .i64 0, .int .i64 0])], []⟩
  | 7, s => s = ⟨79, [(10, INP ⟨27, 0, 0⟩), (8, INP ⟨26, 4, 0⟩), (2, .ptr 1 0), (1, .ptr 0 0), (0, .bool false)], [(1, .box [.int .i64 30, .int .i64 0, .int .i64 0]), (0, .box [.int .i64 1, .int .i64 0, .int .i64 0])], []⟩
  | 8, s => s = ⟨79, [(11, INP ⟨30, 0, 0⟩), (8, INP ⟨26, 4, 0⟩), (2, .ptr 1 0), (1, .ptr 0 0), (0, .bool false)], [(1, .box [.int .i64 30, .int .i64 0, .int .i64 0]), (0, .box [.int .i64 1, .int .i64 0, .int .i64 0])], []⟩
  | 9, s => s = ⟨79, [(12, INP ⟨30, 0, 0⟩), (8, INP ⟨26, 4, 0⟩), (2, .ptr 1 0), (1, .ptr 0 0), (0, .bool false)], [(1, .box [.int .i64 30, .int .i64 0, .int .i64 0]), (0, .box [.int .i64 1, .int .i64 0, .int .i64 0])], []⟩
  | 10, s => s = ⟨79, [(3, .ptr 2 0), (8, INP ⟨26, 4, 0⟩), (2, .ptr 1 0), (1, .ptr 0 0), (0, .bool false)], [(2, .box [.sl 0 [] true false, .sl 0 [] true false]), (1, .box [.int .i64 30, .int .i64 0, .int .i64 0]), (0, .box [.int .i64 1, .int .i64 0, .int .i64 0])], []⟩
  | 11, s => s = ⟨79, [(11, INP ⟨30, 0, 0⟩), (9, INP ⟨1, 0, 0⟩), (2, .ptr 1 0), (1, .ptr 0 0), (0, .bool false)], [(1, .box [.int .i64 30, .int .i64 0, .int .i64 0]), (0, .box [.int .i64 1, .int .i64 0, .int .i64 0])], []⟩
  | 12, s => s = ⟨79, [(12, INP ⟨30, 0, 0⟩), (9, INP ⟨1, 0, 0⟩), (2, .ptr 1 0), (1, .ptr 0 0), (0, .bool false)], [(1, .box [.int .i64 30, .int .i64 0, .int .i64 0]), (0, .box [.int .i64 1, .int .i64 0, .int .i64 0])], []⟩
  | 13, s => s = ⟨79, [(3, .ptr 2 0), (9, INP ⟨1, 0, 0⟩), (2, .ptr 1 0), (1, .ptr 0 0), (0, .bool false)], [(2, .box [.sl 0 [] true false, .sl 0 [] true false]), (1, .box [.int .i64 30, .int .i64 0, .int .i64 0]), (0, .box [.int .i64 1, .int .i64 0, .int .i64 0])], []⟩
  | 14, s => s = ⟨79, [(12, INP ⟨30, 0, 0⟩), (11, INP ⟨30, 0, 0⟩), (2, .ptr 1 0), (1, .ptr 0 0), (0, .bool false)], [(1, .box [.int .i64 30, .int .i64 0, .int .i64 0]), (0, .box [.int .i64 1, .int .i64 0, .int .i64 0])], []⟩
  | 15, s => s = ⟨79, [(3, .ptr 2 0), (11, INP ⟨30, 0, 0⟩), (2, .ptr 1 0), (1, .ptr 0 0), (0, .bool false)], [(2, .box [.sl 0 [] true false, .sl 0 [] true false]), (1, .box [.int .i64 30, .int .i64 0, .int .i64 0]), (0, .box [.int .i64 1, .int .i64 0, .int .i64 0])], []⟩
  | 16, s => s = ⟨79, [(3, .ptr 2 0), (12, INP ⟨30, 0, 0⟩), (2, .ptr 1 0), (1, .ptr 0 0), (0, .bool false)], [(2, .box [.sl 0 [] true false, .sl 0 [] true false]), (1, .box [.int .i64 30, .int .i64 0, .int .i64 0]), (0, .box [.int .i64 1, .int .i64 0, .int .i64 0])], []⟩
  | 17, s => s = ⟨79, [(10, INP ⟨27, 0, 0⟩), (9, INP ⟨1, 0, 0⟩), (8, INP ⟨26, 4, 0⟩), (2, .ptr 1 0), (1, .ptr 0 0), (0, .bool false)], [(1, .box [.int .i64 30, .int .i64 0, .int .i64 0]), (0, .box [.int .i64 1, .int .i64 0, .int .i64 0])], []⟩
  | 18, s => s = ⟨79, [(11, INP ⟨30, 0, 0⟩), (9, INP ⟨1, 0, 0⟩), (8, INP ⟨26, 4, 0⟩), (2, .ptr 1 0), (1, .ptr 0 0), (0, .bool false)], [(1, .box [.int .i64 30, .int .i64 0, .int .i64 0]), (0, .box [.int .i64 1, .int .i64 0, .int .i64 0])], []⟩
  | 19, s => s = ⟨79, [(12, INP ⟨30, 0, 0⟩), (9, INP ⟨1, 0, 0⟩), (8, INP ⟨26, 4, 0⟩), (2, .ptr 1 0), (1, .ptr 0 0), (0, .bool false)], [(1, .box [.int .i64 30, .int .i64 0, .int .i64 0]), (0, .box [.int .i64 1, .int .i64 0, .int .i64 0])], []⟩
  | 20, s => s = ⟨79, [(3, .ptr 2 0), (9, INP ⟨1, 0, 0⟩), (8, INP ⟨26, 4, 0⟩), (2, .ptr 1 0), (1, .ptr 0 0), (0, .bool false)], [(2, .box [.sl 0 [] true false, .sl 0 [] true false]), (1, .box [.int .i64 30, .int .i64 0, .int .i64 0]), (0, .box [.int .i64 1, .int .i64 0, .int .i64 0])], []⟩
  | 21, s => s = ⟨79, [(11, INP ⟨30, 0, 0⟩), (10, INP ⟨27, 0, 0⟩), (8, INP ⟨26, 4, 0⟩), (2, .ptr 1 0), (1, .ptr 0 0), (0, .bool false)], [(1, .box [.int .i64 30, .int .i64 0, .int .i64 0]), (0, .box [.int .i64 1, .int .i64 0, .int .i64 0])], []⟩
  | 22, s => s = ⟨79, [(12, INP ⟨30, 0, 0⟩), (10, INP ⟨27, 0, 0⟩), (8, INP ⟨26, 4, 0⟩), (2, .ptr 1 0), (1, .ptr 0 0), (0, .bool false)], [(1, .box [.int .i64 30, .int .i64 0, .int .i64 0]), (0, .box [.int .i64 1, .int .i64 0, .int .i64 0])], []⟩
  | 23, s => s = ⟨79, [(3, .ptr 2 0), (10, INP ⟨27, 0, 0⟩), (8, INP ⟨26, 4, 0⟩), (2, .ptr 1 0), (1, .ptr 0 0), (0, .bool false)], [(2, .box [.sl 0 [] true false, .sl 0 [] true false]), (1, .box [.int .i64 30, .int .i64 0, .int .i64 0]), (0, .box [.int .i64 1, .int .i64 0, .int .i64 0])], []⟩
  | 24, s => s = ⟨79, [(12, INP ⟨30, 0, 0⟩), (11, INP ⟨30, 0, 0⟩), (8, INP ⟨26, 4, 0⟩), (2, .ptr 1 0), (1, .ptr 0 0), (0, .bool false)], [(1, .box [.int .i64 30, .int .i64 0, .int .i64 0]), (0, .box [.int .i64 1, .int .i64 0, .int .i64 0])], []⟩
  | 25, s => s = ⟨79, [(3, .ptr 2 0), (11, INP ⟨30, 0, 0⟩), (8, INP ⟨26, 4, 0⟩), (2, .ptr 1 0), (1, .ptr 0 0), (0, .bool false)], [(2, .box [.sl 0 [] true false, .sl 0 [] true false]), (1, .box [.int .i64 30, .int .i64 0, .int .i64 0]), (0, .box [.int .i64 1, .int .i64 0, .int .i64 0])], []⟩
  | 26, s => s = ⟨79, [(3, .ptr 2 0), (12, INP ⟨30, 0, 0⟩), (8, INP ⟨26, 4, 0⟩), (2, .ptr 1 0), (1, .ptr 0 0), (0, .bool false)], [(2, .box [.sl 0 [] true false, .sl 0 [] true false]), (1, .box [.int .i64 30, .int .i64 0, .int .i64 0]), (0, .box [.int .i64 1, .int .i64 0, .int .i64 0])], []⟩
  | 27, s => s = ⟨79, [(12, INP ⟨30, 0, 0⟩), (11, INP ⟨30, 0, 0⟩), (9, INP ⟨1, 0, 0⟩), (2, .ptr 1 0), (1, .ptr 0 0), (0, .bool false)], [(1, .box [.int .i64 30, .int .i64 0, .int .i64 0]), (0, .box [.int .i64 1, .int .i64 0, .int .i64 0])], []⟩
  | 28, s => s = ⟨79, [(3, .ptr 2 0), (11, INP ⟨30, 0, 0⟩), (9, INP ⟨1, 0, 0⟩), (2, .ptr 1 0), (1, .ptr 0 0), (0, .bool false)], [(2, .box [.sl 0 [] true false, .sl 0 [] true false]), (1, .box [.int .i64 30, .int .i64 0, .int .i64 0]), (0, .box [.int .i64 1, .int .i64 0, .int .i64 0])], []⟩
  | 29, s => s = ⟨79, [(3, .ptr 2 0), (12, INP ⟨30, 0, 0⟩), (9, INP ⟨1, 0, 0⟩), (2, .ptr 1 0), (1, .ptr 0 0), (0, .bool false)], [(2, .box [.sl 0 [] true false, .sl 0 [] true false]), (1, .box [.int .i64 30, .int .i64 0, .int .i64 0]), (0, .box [.int .i64 1, .int .i64 0, .int .i64 0])], []⟩
  | 30, s => s = ⟨79, [(3, .ptr 2 0), (12, INP ⟨30, 0, 0⟩), (11, INP ⟨30, 0, 0⟩), (2, .ptr 1 0), (1, .ptr 0 0), (0, .bool false)], [(2, .box [.sl 0 [] true false, .sl 0 [] true false]), (1, .box [.int .i64 30, .int .i64 0, .int .i64 0]), (0, .box [.int .i64 1, .int .i64 0, .int .i64 0])], []⟩
  | 31, s => s = ⟨79, [(11, INP ⟨30, 0, 0⟩), (10, INP ⟨27, 0, 0⟩), (9, INP ⟨1, 0, 0⟩), (8, INP ⟨26, 4, 0⟩), (2, .ptr 1 0), (1, .ptr 0 0), (0, .bool false)], [(1, .box [.int .i64 30, .int .i64 0, .int .i64 0]), (0, .box [.int .i64 1, .int .i64 0, .int .i64 0])], []⟩
  | 32, s => s = ⟨79, [(12, INP ⟨30, 0, 0⟩), (10, INP ⟨27, 0, 0⟩), (9, INP ⟨1, 0, 0⟩), (8, INP ⟨26, 4, 0⟩), (2, .ptr 1 0), (1, .ptr 0 0), (0, .bool false)], [(1, .box [.int .i64 30, .int .i64 0, .int .i64 0]), (0, .box [.int .i64 1, .int .i64 0, .int .i64 0])], []⟩
  | 33, s => s = ⟨79, [(3, .ptr 2 0), (10, INP ⟨27, 0, 0⟩), (9, INP ⟨1, 0, 0⟩), (8, INP ⟨26, 4, 0⟩), (2, .ptr 1 0), (1, .ptr 0 0), (0, .bool false)], [(2, .box [.sl 0 [] true false, .sl 0 [] true false]), (1, .box [.int .i64 30, .int .i64 0, .int .i64 0]), (0, .box [.int .i64 1, .int .i64 0, .int .i64 0])], []⟩
  | 34, s => s = ⟨79, [(12, INP ⟨30, 0, 0⟩), (11, INP ⟨30, 0, 0⟩), (9, INP ⟨1, 0, 0⟩), (8, INP ⟨26, 4, 0⟩), (2, .ptr 1 0), (1, .ptr 0 0), (0, .bool false)], [(1, .box [.int .i64 30, .int .i64 0, .int .i64 0]), (0, .box [.int .i64 1, .int .i64 0, .int .i64 0])], []⟩
  | 35, s => s = ⟨79, [(3, .ptr 2 0), (11, INP ⟨30, 0, 0⟩), (9, INP ⟨1, 0, 0⟩), (8, INP ⟨26, 4, 0⟩), (2, .ptr 1 0), (1, .ptr 0 0), (0, .bool false)], [(2, .box [.sl 0 [] true false, .sl 0 [] true false]), (1, .box [.int .i64 30, .int .i64 0, .int .i64 0]), (0, .box [.int .i64 1, .int .i64 0, .int .i64 0])], []⟩
  | 36, s => s = ⟨79, [(3, .ptr 2 0), (12, INP ⟨30, 0, 0⟩), (9, INP ⟨1, 0, 0⟩), (8, INP ⟨26, 4, 0⟩), (2, .ptr 1 0), (1, .ptr 0 0), (0, .bool false)], [(2, .box [.sl 0 [] true false, .sl 0 [] true false]), (1, .box [.int .i64 30, .int .i64 0, .int .i64 0]), (0, .box [.int .i64 1, .int .i64 0, .int .i64 0])], []⟩
  | 37, s => s = ⟨79, [(12, INP ⟨30, 0, 0⟩), (11, INP ⟨30, 0, 0⟩), (10, INP ⟨27, 0, 0⟩), (8, INP ⟨26, 4, 0⟩), (2, .ptr 1 0), (1, .ptr 0 0), (0, .bool false)], [(1, .box [.int .i64 30, .int .i64 0, .int .i64 0]), (0, .box [.int .i64 1, .int .i64 0, .int .i64 0])], []⟩
  | 38, s => s = ⟨79, [(3, .ptr 2 0), (11, INP ⟨30, 0, 0⟩), (10, INP ⟨27, 0, 0⟩), (8, INP ⟨26, 4, 0⟩), (2, .ptr 1 0), (1, .ptr 0 0), (0, .bool false)], [(2, .box [.sl 0 [] true false, .sl 0 [] true false]), (1, .box [.int .i64 30, .int .i64 0, .int .i64 0]), (0, .box [.int .i64 1, .int .i64 0, .int .i64 0])], []⟩
  | 39, s => s = ⟨79, [(3, .ptr 2 0), (12, INP ⟨30, 0, 0⟩), (10, INP ⟨27, 0, 0⟩), (8, INP ⟨26, 4, 0⟩), (2, .ptr 1 0), (1, .ptr 0 0), (0, .bool false)], [(2, .box [.sl 0 [] true false, .sl 0 [] true false]), (1, .box [.int .i64 30, .int .i64 0, .int .i64 0]), (0, .box [.int .i64 1, .int .i64 0, .int .i64 0])], []⟩
  | 40, s => s = ⟨79, [(3, .ptr 2 0), (12, INP ⟨30, 0, 0⟩), (11, INP ⟨30, 0, 0⟩), (8, INP ⟨26, 4, 0⟩), (2, .ptr 1 0), (1, .ptr 0 0), (0, .bool false)], [(2, .box [.sl 0 [] true false, .sl 0 [] true false]), (1, .box [.int .i64 30, .int .i64 0, .int .i64 0]), (0, .box [.int .i64 1, .int .i64 0, .int .i64 0])], []⟩
  | 41, s => s = ⟨79, [(3, .ptr 2 0), (12, INP ⟨30, 0, 0⟩), (11, INP ⟨30, 0, 0⟩), (9, INP ⟨1, 0, 0⟩), (2, .ptr 1 0), (1, .ptr 0 0), (0, .bool false)], [(2, .box [.sl 0 [] true false, .sl 0 [] true false]), (1, .box [.int .i64 30, .int .i64 0, .int .i64 0]), (0, .box [.int .i64 1, .int .i64 0, .int .i64 0])], []⟩
  | 42, s => s = ⟨79, [(12, INP ⟨30, 0, 0⟩), (11, INP ⟨30, 0, 0⟩), (10, INP ⟨27, 0, 0⟩), (9, INP ⟨1, 0, 0⟩), (8, INP ⟨26, 4, 0⟩), (2, .ptr 1 0), (1, .ptr 0 0), (0, .bool false)], [(1, .box [.int .i64 30, .int .i64 0, .int .i64 0]), (0, .box [.int .i64 1, .int .i64 0, .int .i64 0])], []⟩
  | 43, s => s = ⟨79, [(3, .ptr 2 0), (11, INP ⟨30, 0, 0⟩), (10, INP ⟨27, 0, 0⟩), (9, INP ⟨1, 0, 0⟩), (8, INP ⟨26, 4, 0⟩), (2, .ptr 1 0), (1, .ptr 0 0), (0, .bool false)], [(2, .box [.sl 0 [] true false, .sl 0 [] true false]), (1, .box [.int .i64 30, .int .i64 0, .int .i64 0]), (0, .box [.int .i64 1, .int .i64 0, .int .i64 0])], []⟩
  | 44, s => s = ⟨79, [(3, .ptr 2 0), (12, INP ⟨30, 0, 0⟩), (10, INP ⟨27, 0, 0⟩), (9, INP ⟨1, 0, 0⟩), (8, INP ⟨26, 4, 0⟩), (2, .ptr 1 0), (1, .ptr 0 0), (0, .bool false)], [(2, .box [.sl 0 [] true false, .sl 0 [] true false]), (1, .box [.int .i64 30, .int .i64 0, .int .i64 0]), (0, .box [.int .i64 1, .int .i64 0, .int .i64 0])], []⟩
  | 45, s => s = ⟨79, [(3, .ptr 2 0), (12, INP ⟨30, 0, 0⟩), (11, INP ⟨30, 0, 0⟩), (9, INP ⟨1, 0, 0⟩), (8, INP ⟨26, 4, 0⟩), (2, .ptr 1 0), (1, .ptr 0 0), (0, .bool false)], [(2, .box [.sl 0 [] true false, .sl 0 [] true false]), (1, .box [.int .i64 30, .int .i64 0, .int .i64 0]), (0, .box [.int .i64 1, .int .i64 0, .int .i64 0])], []⟩
  | 46, s => s = ⟨79, [(3, .ptr 2 0), (12, INP ⟨30, 0, 0⟩), (11, INP ⟨30, 0, 0⟩), (10, INP ⟨27, 0, 0⟩), (8, INP ⟨26, 4, 0⟩), (2, .ptr 1 0), (1, .ptr 0 0), (0, .bool false)], [(2, .box [.sl 0 [] true false, .sl 0 [] true false]), (1, .box [.int .i64 30, .int .i64 0, .int .i64 0]), (0, .box [.int .i64 1, .int .i64 0, .int .i64 0])], []⟩
  | 47, s => s = ⟨79, [(13, .ref 3 2 0 5), (2, .ptr 1 0), (1, .ptr 0 0), (0, .bool false)], [(2, .row 47 3 (wTried.map INP) false), (1, .box [.int .i64 30, .int .i64 0, .int .i64 0]), (0, .box [.int .i64 1, .int .i64 0, .int .i64 0])], []⟩
  | 48, s => s = ⟨79, [(3, .ptr 2 0), (12, INP ⟨30, 0, 0⟩), (11, INP ⟨30, 0, 0⟩), (10, INP ⟨27, 0, 0⟩), (9, INP ⟨1, 0, 0⟩), (8, INP ⟨26, 4, 0⟩), (2, .ptr 1 0), (1, .ptr 0 0), (0, .bool false)], [(2, .box [.sl 0 [] true false, .sl 0 [] true false]), (1, .box [.int .i64 30, .int .i64 0, .int .i64 0]), (0, .box [.int .i64 1, .int .i64 0, .int .i64 0])], []⟩
  | 49, s => ∃ zf lf tf zc lc tc, PGA (ofP wTried) zf lf zc lc ∧ (s = ⟨79, [(14, .agg (pgc zf lf tf zc lc tc)), (2, .ptr 1 0), (1, .ptr 0 0), (0, .bool false)], [(1, .box [.int .i64 30, .int .i64 0, .int .i64 0]), (0, .box [.int .i64 1, .int .i64 0, .int .i64 0])], []⟩)
  | 50, s => s = ⟨79, [(3, .ptr 3 0), (13, .ref 3 2 0 5), (2, .ptr 1 0), (1, .ptr 0 0), (0, .bool false)], [(3, .box [.sl 0 [] true false, .sl 0 [] true false]), (2, .row 47 3 (wTried.map INP) false), (1, .box [.int .i64 30, .int .i64 0, .int .i64 0]), (0, .box [.int .i64 1, .int .i64 0, .int .i64 0])], []⟩ ∨ s = ⟨79, [(3, .ptr 2 0), (13, .ref 3 3 0 5), (2, .ptr 1 0), (1, .ptr 0 0), (0, .bool false)], [(2, .box [.sl 0 [] true false, .sl 0 [] true false]), (3, .row 47 3 (wTried.map INP) false), (1, .box [.int .i64 30, .int .i64 0, .int .i64 0]), (0, .box [.int .i64 1, .int .i64 0, .int .i64 0])], []⟩
  | 51, s => ∃ zf lf tf zc lc tc, PGA (ofP wTried) zf lf zc lc ∧ (s = ⟨79, [(3, .ptr 2 0), (14, .agg (pgc zf lf tf zc lc tc)), (2, .ptr 1 0), (1, .ptr 0 0), (0, .bool false)], [(2, .box [.sl 0 [] true false, .sl 0 [] true false]), (1, .box [.int .i64 30, .int .i64 0, .int .i64 0]), (0, .box [.int .i64 1, .int .i64 0, .int .i64 0])], []⟩ ∨ s = ⟨79, [(3, .ptr 3 0), (14, .agg (pgc zf lf tf zc lc tc)), (2, .ptr 1 0), (1, .ptr 0 0), (0, .bool false)], [(3, .box [.sl 0 [] true false, .sl 0 [] true false]), (1, .box [.int .i64 30, .int .i64 0, .int .i64 0]), (0, .box [.int .i64 1, .int .i64 0, .int .i64 0])], []⟩)
  | _, _ => False
/-- The states of a drawn region, by what is done. -/
def inv14b2 (zf0 : Nat) (lf0 : List PV) (tf0 : Bool) (zc0 : Nat) (lc0 : List PV) (tc0 : Bool) : Nat → St → Prop
  | 0, s => s = ⟨79, [(56, .bool true), (3, .ptr 2 0), (2, .ptr 1 0), (1, .ptr 0 0)], [(2, .box (pgc zf0 lf0 tf0 zc0 lc0 tc0)), (1, .box [.int .i64 30, .int .i64 0, .int .i64 0]), (0, .box [.int .i64 1, .int .i64 0, .int .i64 0])], []⟩
  | 1, s => s = ⟨79, [(57, .cond true (INP ⟨1, 0, 0⟩)), (56, .bool true), (3, .ptr 2 0), (2, .ptr 1 0), (1, .ptr 0 0)], [(2, .box (pgc zf0 lf0 tf0 zc0 lc0 tc0)), (1, .box [.int .i64 30, .int .i64 0, .int .i64 0]), (0, .box [.int .i64 1, .int .i64 0, .int .i64 0])], []⟩
  | 2, s => s = ⟨79, [(58, .cond true (INP ⟨30, 0, 0⟩)), (56, .bool true), (3, .ptr 2 0), (2, .ptr 1 0), (1, .ptr 0 0)], [(2, .box (pgc zf0 lf0 tf0 zc0 lc0 tc0)), (1, .box [.int .i64 30, .int .i64 0, .int .i64 0]), (0, .box [.int .i64 1, .int .i64 0, .int .i64 0])], []⟩
  | 3, s => s = ⟨79, [(61, .ref 1 3 0 2), (56, .bool true), (3, .ptr 2 0), (2, .ptr 1 0), (1, .ptr 0 0)], [(3, .row 3 1 (ints [0, 1]) false), (2, .box (pgc zf0 lf0 tf0 zc0 lc0 tc0)), (1, .box [.int .i64 30, .int .i64 0, .int .i64 0]), (0, .box [.int .i64 1, .int .i64 0, .int .i64 0])], []⟩
  | 4, s => s = ⟨79, [(57, .cond true (INP ⟨1, 0, 0⟩)), (58, .cond true (INP ⟨30, 0, 0⟩)), (56, .bool true), (3, .ptr 2 0), (2, .ptr 1 0), (1, .ptr 0 0)], [(2, .box (pgc zf0 lf0 tf0 zc0 lc0 tc0)), (1, .box [.int .i64 30, .int .i64 0, .int .i64 0]), (0, .box [.int .i64 1, .int .i64 0, .int .i64 0])], []⟩
  | 5, s => s = ⟨79, [(61, .ref 1 3 0 2), (57, .cond true (INP ⟨1, 0, 0⟩)), (56, .bool true), (3, .ptr 2 0), (2, .ptr 1 0), (1, .ptr 0 0)], [(3, .row 3 1 (ints [0, 1]) false), (2, .box (pgc zf0 lf0 tf0 zc0 lc0 tc0)), (1, .box [.int .i64 30, .int .i64 0, .int .i64 0]), (0, .box [.int .i64 1, .int .i64 0, .int .i64 0])], []⟩
  | 6, s => s = ⟨79, [(61, .ref 1 3 0 2), (58, .cond true (INP ⟨30, 0, 0⟩)), (56, .bool true), (3, .ptr 2 0), (2, .ptr 1 0), (1, .ptr 0 0)], [(3, .row 3 1 (ints [0, 1]) false), (2, .box (pgc zf0 lf0 tf0 zc0 lc0 tc0)), (1, .box [.int .i64 30, .int .i64 0, .int .i64 0]), (0, .box [.int .i64 1, .int .i64 0, .int .i64 0])], []⟩
  | 7, s => s = ⟨79, [(59, .ref 3 3 0 2), (56, .bool true), (3, .ptr 2 0), (2, .ptr 1 0), (1, .ptr 0 0)], [(3, .row 47 3 (wOne.map INP) false), (2, .box (pgc zf0 lf0 tf0 zc0 lc0 tc0)), (1, .box [.int .i64 30, .int .i64 0, .int .i64 0]), (0, .box [.int .i64 1, .int .i64 0, .int .i64 0])], []⟩
  | 8, s => s = ⟨79, [(61, .ref 1 3 0 2), (57, .cond true (INP ⟨1, 0, 0⟩)), (58, .cond true (INP ⟨30, 0, 0⟩)), (56, .bool true), (3, .ptr 2 0), (2, .ptr 1 0), (1, .ptr 0 0)], [(3, .row 3 1 (ints [0, 1]) false), (2, .box (pgc zf0 lf0 tf0 zc0 lc0 tc0)), (1, .box [.int .i64 30, .int .i64 0, .int .i64 0]), (0, .box [.int .i64 1, .int .i64 0, .int .i64 0])], []⟩
  | 9, s => ∃ zf lf tf zc lc tc, PGA (ofP wOne) zf lf zc lc ∧ (s = ⟨79, [(60, .agg (pgc zf lf tf zc lc tc)), (56, .bool true), (3, .ptr 2 0), (2, .ptr 1 0), (1, .ptr 0 0)], [(2, .box (pgc zf0 lf0 tf0 zc0 lc0 tc0)), (1, .box [.int .i64 30, .int .i64 0, .int .i64 0]), (0, .box [.int .i64 1, .int .i64 0, .int .i64 0])], []⟩)
  | 10, s => s = ⟨79, [(59, .ref 3 3 0 2), (61, .ref 1 4 0 2), (56, .bool true), (3, .ptr 2 0), (2, .ptr 1 0), (1, .ptr 0 0)], [(4, .row 3 1 (ints [0, 1]) false), (3, .row 47 3 (wOne.map INP) false), (2, .box (pgc zf0 lf0 tf0 zc0 lc0 tc0)), (1, .box [.int .i64 30, .int .i64 0, .int .i64 0]), (0, .box [.int .i64 1, .int .i64 0, .int .i64 0])], []⟩ ∨ s = ⟨79, [(59, .ref 3 4 0 2), (61, .ref 1 3 0 2), (56, .bool true), (3, .ptr 2 0), (2, .ptr 1 0), (1, .ptr 0 0)], [(3, .row 3 1 (ints [0, 1]) false), (4, .row 47 3 (wOne.map INP) false), (2, .box (pgc zf0 lf0 tf0 zc0 lc0 tc0)), (1, .box [.int .i64 30, .int .i64 0, .int .i64 0]), (0, .box [.int .i64 1, .int .i64 0, .int .i64 0])], []⟩
  | 11, s => ∃ zf lf tf zc lc tc, PGA (ofP wOne) zf lf zc lc ∧ (s = ⟨79, [(60, .agg (pgc zf lf tf zc lc tc)), (61, .ref 1 3 0 2), (56, .bool true), (3, .ptr 2 0), (2, .ptr 1 0), (1, .ptr 0 0)], [(3, .row 3 1 (ints [0, 1]) false), (2, .box (pgc zf0 lf0 tf0 zc0 lc0 tc0)), (1, .box [.int .i64 30, .int .i64 0, .int .i64 0]), (0, .box [.int .i64 1, .int .i64 0, .int .i64 0])], []⟩ ∨ s = ⟨79, [(60, .agg (pgc zf lf tf zc lc tc)), (61, .ref 1 4 0 2), (56, .bool true), (3, .ptr 2 0), (2, .ptr 1 0), (1, .ptr 0 0)], [(4, .row 3 1 (ints [0, 1]) false), (2, .box (pgc zf0 lf0 tf0 zc0 lc0 tc0)), (1, .box [.int .i64 30, .int .i64 0, .int .i64 0]), (0, .box [.int .i64 1, .int .i64 0, .int .i64 0])], []⟩)
  | _, _ => False
/-- The states of a drawn region, by what is done. -/
def inv14c2 (zf0 : Nat) (lf0 : List PV) (tf0 : Bool) (zc0 : Nat) (lc0 : List PV) (tc0 : Bool) : Nat → St → Prop
  | 0, s => s = ⟨79, [(70, .bool true), (3, .ptr 2 0), (2, .ptr 1 0), (1, .ptr 0 0)], [(2, .box (pgc zf0 lf0 tf0 zc0 lc0 tc0)), (1, .box [.int .i64 30, .int .i64 0, .int .i64 0]), (0, .box [.int .i64 1, .int .i64 0, .int .i64 0])], []⟩
  | 1, s => s = ⟨79, [(71, .cond true (INP ⟨1, 0, 0⟩)), (70, .bool true), (3, .ptr 2 0), (2, .ptr 1 0), (1, .ptr 0 0)], [(2, .box (pgc zf0 lf0 tf0 zc0 lc0 tc0)), (1, .box [.int .i64 30, .int .i64 0, .int .i64 0]), (0, .box [.int .i64 1, .int .i64 0, .int .i64 0])], []⟩
  | 2, s => s = ⟨79, [(72, .cond true (INP ⟨30, 0, 0⟩)), (70, .bool true), (3, .ptr 2 0), (2, .ptr 1 0), (1, .ptr 0 0)], [(2, .box (pgc zf0 lf0 tf0 zc0 lc0 tc0)), (1, .box [.int .i64 30, .int .i64 0, .int .i64 0]), (0, .box [.int .i64 1, .int .i64 0, .int .i64 0])], []⟩
  | 3, s => s = ⟨79, [(73, INP ⟨4, 0, 0⟩), (70, .bool true), (3, .ptr 2 0), (2, .ptr 1 0), (1, .ptr 0 0)], [(2, .box (pgc zf0 lf0 tf0 zc0 lc0 tc0)), (1, .box [.int .i64 30, .int .i64 0, .int .i64 0]), (0, .box [.int .i64 1, .int .i64 0, .int .i64 0])], []⟩
  | 4, s => s = ⟨79, [(76, .ref 1 3 0 3), (70, .bool true), (3, .ptr 2 0), (2, .ptr 1 0), (1, .ptr 0 0)], [(3, .row 3 1 (ints [0, 1, -1]) false), (2, .box (pgc zf0 lf0 tf0 zc0 lc0 tc0)), (1, .box [.int .i64 30, .int .i64 0, .int .i64 0]), (0, .box [.int .i64 1, .int .i64 0, .int .i64 0])], []⟩
  | 5, s => s = ⟨79, [(71, .cond true (INP ⟨1, 0, 0⟩)), (72, .cond true (INP ⟨30, 0, 0⟩)), (70, .bool true), (3, .ptr 2 0), (2, .ptr 1 0), (1, .ptr 0 0)], [(2, .box (pgc zf0 lf0 tf0 zc0 lc0 tc0)), (1, .box [.int .i64 30, .int .i64 0, .int .i64 0]), (0, .box [.int .i64 1, .int .i64 0, .int .i64 0])], []⟩
  | 6, s => s = ⟨79, [(71, .cond true (INP ⟨1, 0, 0⟩)), (73, INP ⟨4, 0, 0⟩), (70, .bool true), (3, .ptr 2 0), (2, .ptr 1 0), (1, .ptr 0 0)], [(2, .box (pgc zf0 lf0 tf0 zc0 lc0 tc0)), (1, .box [.int .i64 30, .int .i64 0, .int .i64 0]), (0, .box [.int .i64 1, .int .i64 0, .int .i64 0])], []⟩
  | 7, s => s = ⟨79, [(76, .ref 1 3 0 3), (71, .cond true (INP ⟨1, 0, 0⟩)), (70, .bool true), (3, .ptr 2 0), (2, .ptr 1 0), (1, .ptr 0 0)], [(3, .row 3 1 (ints [0, 1, -1]) false), (2, .box (pgc zf0 lf0 tf0 zc0 lc0 tc0)), (1, .box [.int .i64 30, .int .i64 0, .int .i64 0]), (0, .box [.int .i64 1, .int .i64 0, .int .i64 0])], []⟩
  | 8, s => s = ⟨79, [(72, .cond true (INP ⟨30, 0, 0⟩)), (73, INP ⟨4, 0, 0⟩), (70, .bool true), (3, .ptr 2 0), (2, .ptr 1 0), (1, .ptr 0 0)], [(2, .box (pgc zf0 lf0 tf0 zc0 lc0 tc0)), (1, .box [.int .i64 30, .int .i64 0, .int .i64 0]), (0, .box [.int .i64 1, .int .i64 0, .int .i64 0])], []⟩
  | 9, s => s = ⟨79, [(76, .ref 1 3 0 3), (72, .cond true (INP ⟨30, 0, 0⟩)), (70, .bool true), (3, .ptr 2 0), (2, .ptr 1 0), (1, .ptr 0 0)], [(3, .row 3 1 (ints [0, 1, -1]) false), (2, .box (pgc zf0 lf0 tf0 zc0 lc0 tc0)), (1, .box [.int .i64 30, .int .i64 0, .int .i64 0]), (0, .box [.int .i64 1, .int .i64 0, .int .i64 0])], []⟩
  | 10, s => s = ⟨79, [(76, .ref 1 3 0 3), (73, INP ⟨4, 0, 0⟩), (70, .bool true), (3, .ptr 2 0), (2, .ptr 1 0), (1, .ptr 0 0)], [(3, .row 3 1 (ints [0, 1, -1]) false), (2, .box (pgc zf0 lf0 tf0 zc0 lc0 tc0)), (1, .box [.int .i64 30, .int .i64 0, .int .i64 0]), (0, .box [.int .i64 1, .int .i64 0, .int .i64 0])], []⟩
  | 11, s => s = ⟨79, [(71, .cond true (INP ⟨1, 0, 0⟩)), (72, .cond true (INP ⟨30, 0, 0⟩)), (73, INP ⟨4, 0, 0⟩), (70, .bool true), (3, .ptr 2 0), (2, .ptr 1 0), (1, .ptr 0 0)], [(2, .box (pgc zf0 lf0 tf0 zc0 lc0 tc0)), (1, .box [.int .i64 30, .int .i64 0, .int .i64 0]), (0, .box [.int .i64 1, .int .i64 0, .int .i64 0])], []⟩
  | 12, s => s = ⟨79, [(76, .ref 1 3 0 3), (71, .cond true (INP ⟨1, 0, 0⟩)), (72, .cond true (INP ⟨30, 0, 0⟩)), (70, .bool true), (3, .ptr 2 0), (2, .ptr 1 0), (1, .ptr 0 0)], [(3, .row 3 1 (ints [0, 1, -1]) false), (2, .box (pgc zf0 lf0 tf0 zc0 lc0 tc0)), (1, .box [.int .i64 30, .int .i64 0, .int .i64 0]), (0, .box [.int .i64 1, .int .i64 0, .int .i64 0])], []⟩
  | 13, s => s = ⟨79, [(76, .ref 1 3 0 3), (71, .cond true (INP ⟨1, 0, 0⟩)), (73, INP ⟨4, 0, 0⟩), (70, .bool true), (3, .ptr 2 0), (2, .ptr 1 0), (1, .ptr 0 0)], [(3, .row 3 1 (ints [0, 1, -1]) false), (2, .box (pgc zf0 lf0 tf0 zc0 lc0 tc0)), (1, .box [.int .i64 30, .int .i64 0, .int .i64 0]), (0, .box [.int .i64 1, .int .i64 0, .int .i64 0])], []⟩
  | 14, s => s = ⟨79, [(76, .ref 1 3 0 3), (72, .cond true (INP ⟨30, 0, 0⟩)), (73, INP ⟨4, 0, 0⟩), (70, .bool true), (3, .ptr 2 0), (2, .ptr 1 0), (1, .ptr 0 0)], [(3, .row 3 1 (ints [0, 1, -1]) false), (2, .box (pgc zf0 lf0 tf0 zc0 lc0 tc0)), (1, .box [.int .i64 30, .int .i64 0, .int .i64 0]), (0, .box [.int .i64 1, .int .i64 0, .int .i64 0])], []⟩
  | 15, s => s = ⟨79, [(74, .ref 3 3 0 3), (70, .bool true), (3, .ptr 2 0), (2, .ptr 1 0), (1, .ptr 0 0)], [(3, .row 47 3 (wAll.map INP) false), (2, .box (pgc zf0 lf0 tf0 zc0 lc0 tc0)), (1, .box [.int .i64 30, .int .i64 0, .int .i64 0]), (0, .box [.int .i64 1, .int .i64 0, .int .i64 0])], []⟩
  | 16, s => s = ⟨79, [(76, .ref 1 3 0 3), (71, .cond true (INP ⟨1, 0, 0⟩)), (72, .cond true (INP ⟨30, 0, 0⟩)), (73, INP ⟨4, 0, 0⟩), (70, .bool true), (3, .ptr 2 0), (2, .ptr 1 0), (1, .ptr 0 0)], [(3, .row 3 1 (ints [0, 1, -1]) false), (2, .box (pgc zf0 lf0 tf0 zc0 lc0 tc0)), (1, .box [.int .i64 30, .int .i64 0, .int .i64 0]), (0, .box [.int .i64 1, .int .i64 0, .int .i64 0])], []⟩
  | 17, s => ∃ zf lf tf zc lc tc, PGA (ofP wAll) zf lf zc lc ∧ (s = ⟨79, [(75, .agg (pgc zf lf tf zc lc tc)), (70, .bool true), (3, .ptr 2 0), (2, .ptr 1 0), (1, .ptr 0 0)], [(2, .box (pgc zf0 lf0 tf0 zc0 lc0 tc0)), (1, .box [.int .i64 30, .int .i64 0, .int .i64 0]), (0, .box [.int .i64 1, .int .i64 0, .int .i64 0])], []⟩)
  | 18, s => s = ⟨79, [(74, .ref 3 3 0 3), (76, .ref 1 4 0 3), (70, .bool true), (3, .ptr 2 0), (2, .ptr 1 0), (1, .ptr 0 0)], [(4, .row 3 1 (ints [0, 1, -1]) false), (3, .row 47 3 (wAll.map INP) false), (2, .box (pgc zf0 lf0 tf0 zc0 lc0 tc0)), (1, .box [.int .i64 30, .int .i64 0, .int .i64 0]), (0, .box [.int .i64 1, .int .i64 0, .int .i64 0])], []⟩ ∨ s = ⟨79, [(74, .ref 3 4 0 3), (76, .ref 1 3 0 3), (70, .bool true), (3, .ptr 2 0), (2, .ptr 1 0), (1, .ptr 0 0)], [(3, .row 3 1 (ints [0, 1, -1]) false), (4, .row 47 3 (wAll.map INP) false), (2, .box (pgc zf0 lf0 tf0 zc0 lc0 tc0)), (1, .box [.int .i64 30, .int .i64 0, .int .i64 0]), (0, .box [.int .i64 1, .int .i64 0, .int .i64 0])], []⟩
  | 19, s => ∃ zf lf tf zc lc tc, PGA (ofP wAll) zf lf zc lc ∧ (s = ⟨79, [(75, .agg (pgc zf lf tf zc lc tc)), (76, .ref 1 3 0 3), (70, .bool true), (3, .ptr 2 0), (2, .ptr 1 0), (1, .ptr 0 0)], [(3, .row 3 1 (ints [0, 1, -1]) false), (2, .box (pgc zf0 lf0 tf0 zc0 lc0 tc0)), (1, .box [.int .i64 30, .int .i64 0, .int .i64 0]), (0, .box [.int .i64 1, .int .i64 0, .int .i64 0])], []⟩ ∨ s = ⟨79, [(75, .agg (pgc zf lf tf zc lc tc)), (76, .ref 1 4 0 3), (70, .bool true), (3, .ptr 2 0), (2, .ptr 1 0), (1, .ptr 0 0)], [(4, .row 3 1 (ints [0, 1, -1]) false), (2, .box (pgc zf0 lf0 tf0 zc0 lc0 tc0)), (1, .box [.int .i64 30, .int .i64 0, .int .i64 0]), (0, .box [.int .i64 1, .int .i64 0, .int .i64 0])], []⟩)
  | _, _ => False
/-- The states of a drawn region, by what is done. -/
def inv14b3 (zf0 : Nat) (lf0 : List PV) (tf0 : Bool) (zc0 : Nat) (lc0 : List PV) (tc0 : Bool) : Nat → St → Prop
  | 0, s => s = ⟨79, [(56, .bool true), (3, .ptr 3 0), (2, .ptr 1 0), (1, .ptr 0 0)], [(3, .box (pgc zf0 lf0 tf0 zc0 lc0 tc0)), (1, .box [.int .i64 30, .int .i64 0, .int .i64 0]), (0, .box [.int .i64 1, .int .i64 0, .int .i64 0])], []⟩
  | 1, s => s = ⟨79, [(57, .cond true (INP ⟨1, 0, 0⟩)), (56, .bool true), (3, .ptr 3 0), (2, .ptr 1 0), (1, .ptr 0 0)], [(3, .box (pgc zf0 lf0 tf0 zc0 lc0 tc0)), (1, .box [.int .i64 30, .int .i64 0, .int .i64 0]), (0, .box [.int .i64 1, .int .i64 0, .int .i64 0])], []⟩
  | 2, s => s = ⟨79, [(58, .cond true (INP ⟨30, 0, 0⟩)), (56, .bool true), (3, .ptr 3 0), (2, .ptr 1 0), (1, .ptr 0 0)], [(3, .box (pgc zf0 lf0 tf0 zc0 lc0 tc0)), (1, .box [.int .i64 30, .int .i64 0, .int .i64 0]), (0, .box [.int .i64 1, .int .i64 0, .int .i64 0])], []⟩
  | 3, s => s = ⟨79, [(61, .ref 1 4 0 2), (56, .bool true), (3, .ptr 3 0), (2, .ptr 1 0), (1, .ptr 0 0)], [(4, .row 3 1 (ints [0, 1]) false), (3, .box (pgc zf0 lf0 tf0 zc0 lc0 tc0)), (1, .box [.int .i64 30, .int .i64 0, .int .i64 0]), (0, .box [.int .i64 1, .int .i64 0, .int .i64 0])], []⟩
  | 4, s => s = ⟨79, [(57, .cond true (INP ⟨1, 0, 0⟩)), (58, .cond true (INP ⟨30, 0, 0⟩)), (56, .bool true), (3, .ptr 3 0), (2, .ptr 1 0), (1, .ptr 0 0)], [(3, .box (pgc zf0 lf0 tf0 zc0 lc0 tc0)), (1, .box [.int .i64 30, .int .i64 0, .int .i64 0]), (0, .box [.int .i64 1, .int .i64 0, .int .i64 0])], []⟩
  | 5, s => s = ⟨79, [(61, .ref 1 4 0 2), (57, .cond true (INP ⟨1, 0, 0⟩)), (56, .bool true), (3, .ptr 3 0), (2, .ptr 1 0), (1, .ptr 0 0)], [(4, .row 3 1 (ints [0, 1]) false), (3, .box (pgc zf0 lf0 tf0 zc0 lc0 tc0)), (1, .box [.int .i64 30, .int .i64 0, .int .i64 0]), (0, .box [.int .i64 1, .int .i64 0, .int .i64 0])], []⟩
  | 6, s => s = ⟨79, [(61, .ref 1 4 0 2), (58, .cond true (INP ⟨30, 0, 0⟩)), (56, .bool true), (3, .ptr 3 0), (2, .ptr 1 0), (1, .ptr 0 0)], [(4, .row 3 1 (ints [0, 1]) false), (3, .box (pgc zf0 lf0 tf0 zc0 lc0 tc0)), (1, .box [.int .i64 30, .int .i64 0, .int .i64 0]), (0, .box [.int .i64 1, .int .i64 0, .int .i64 0])], []⟩
  | 7, s => s = ⟨79, [(59, .ref 3 4 0 2), (56, .bool true), (3, .ptr 3 0), (2, .ptr 1 0), (1, .ptr 0 0)], [(4, .row 47 3 (wOne.map INP) false), (3, .box (pgc zf0 lf0 tf0 zc0 lc0 tc0)), (1, .box [.int .i64 30, .int .i64 0, .int .i64 0]), (0, .box [.int .i64 1, .int .i64 0, .int .i64 0])], []⟩
  | 8, s => s = ⟨79, [(61, .ref 1 4 0 2), (57, .cond true (INP ⟨1, 0, 0⟩)), (58, .cond true (INP ⟨30, 0, 0⟩)), (56, .bool true), (3, .ptr 3 0), (2, .ptr 1 0), (1, .ptr 0 0)], [(4, .row 3 1 (ints [0, 1]) false), (3, .box (pgc zf0 lf0 tf0 zc0 lc0 tc0)), (1, .box [.int .i64 30, .int .i64 0, .int .i64 0]), (0, .box [.int .i64 1, .int .i64 0, .int .i64 0])], []⟩
  | 9, s => ∃ zf lf tf zc lc tc, PGA (ofP wOne) zf lf zc lc ∧ (s = ⟨79, [(60, .agg (pgc zf lf tf zc lc tc)), (56, .bool true), (3, .ptr 3 0), (2, .ptr 1 0), (1, .ptr 0 0)], [(3, .box (pgc zf0 lf0 tf0 zc0 lc0 tc0)), (1, .box [.int .i64 30, .int .i64 0, .int .i64 0]), (0, .box [.int .i64 1, .int .i64 0, .int .i64 0])], []⟩)
  | 10, s => s = ⟨79, [(59, .ref 3 4 0 2), (61, .ref 1 5 0 2), (56, .bool true), (3, .ptr 3 0), (2, .ptr 1 0), (1, .ptr 0 0)], [(5, .row 3 1 (ints [0, 1]) false), (4, .row 47 3 (wOne.map INP) false), (3, .box (pgc zf0 lf0 tf0 zc0 lc0 tc0)), (1, .box [.int .i64 30, .int .i64 0, .int .i64 0]), (0, .box [.int .i64 1, .int .i64 0, .int .i64 0])], []⟩ ∨ s = ⟨79, [(59, .ref 3 5 0 2), (61, .ref 1 4 0 2), (56, .bool true), (3, .ptr 3 0), (2, .ptr 1 0), (1, .ptr 0 0)], [(4, .row 3 1 (ints [0, 1]) false), (5, .row 47 3 (wOne.map INP) false), (3, .box (pgc zf0 lf0 tf0 zc0 lc0 tc0)), (1, .box [.int .i64 30, .int .i64 0, .int .i64 0]), (0, .box [.int .i64 1, .int .i64 0, .int .i64 0])], []⟩
  | 11, s => ∃ zf lf tf zc lc tc, PGA (ofP wOne) zf lf zc lc ∧ (s = ⟨79, [(60, .agg (pgc zf lf tf zc lc tc)), (61, .ref 1 4 0 2), (56, .bool true), (3, .ptr 3 0), (2, .ptr 1 0), (1, .ptr 0 0)], [(4, .row 3 1 (ints [0, 1]) false), (3, .box (pgc zf0 lf0 tf0 zc0 lc0 tc0)), (1, .box [.int .i64 30, .int .i64 0, .int .i64 0]), (0, .box [.int .i64 1, .int .i64 0, .int .i64 0])], []⟩ ∨ s = ⟨79, [(60, .agg (pgc zf lf tf zc lc tc)), (61, .ref 1 5 0 2), (56, .bool true), (3, .ptr 3 0), (2, .ptr 1 0), (1, .ptr 0 0)], [(5, .row 3 1 (ints [0, 1]) false), (3, .box (pgc zf0 lf0 tf0 zc0 lc0 tc0)), (1, .box [.int .i64 30, .int .i64 0, .int .i64 0]), (0, .box [.int .i64 1, .int .i64 0, .int .i64 0])], []⟩)
  | _, _ => False
/-- The states of a drawn region, by what is done. -/
def inv14c3 (zf0 : Nat) (lf0 : List PV) (tf0 : Bool) (zc0 : Nat) (lc0 : List PV) (tc0 : Bool) : Nat → St → Prop
  | 0, s => s = ⟨79, [(70, .bool true), (3, .ptr 3 0), (2, .ptr 1 0), (1, .ptr 0 0)], [(3, .box (pgc zf0 lf0 tf0 zc0 lc0 tc0)), (1, .box [.int .i64 30, .int .i64 0, .int .i64 0]), (0, .box [.int .i64 1, .int .i64 0, .int .i64 0])], []⟩
  | 1, s => s = ⟨79, [(71, .cond true (INP ⟨1, 0, 0⟩)), (70, .bool true), (3, .ptr 3 0), (2, .ptr 1 0), (1, .ptr 0 0)], [(3, .box (pgc zf0 lf0 tf0 zc0 lc0 tc0)), (1, .box [.int .i64 30, .int .i64 0, .int .i64 0]), (0, .box [.int .i64 1, .int .i64 0, .int .i64 0])], []⟩
  | 2, s => s = ⟨79, [(72, .cond true (INP ⟨30, 0, 0⟩)), (70, .bool true), (3, .ptr 3 0), (2, .ptr 1 0), (1, .ptr 0 0)], [(3, .box (pgc zf0 lf0 tf0 zc0 lc0 tc0)), (1, .box [.int .i64 30, .int .i64 0, .int .i64 0]), (0, .box [.int .i64 1, .int .i64 0, .int .i64 0])], []⟩
  | 3, s => s = ⟨79, [(73, INP ⟨4, 0, 0⟩), (70, .bool true), (3, .ptr 3 0), (2, .ptr 1 0), (1, .ptr 0 0)], [(3, .box (pgc zf0 lf0 tf0 zc0 lc0 tc0)), (1, .box [.int .i64 30, .int .i64 0, .int .i64 0]), (0, .box [.int .i64 1, .int .i64 0, .int .i64 0])], []⟩
  | 4, s => s = ⟨79, [(76, .ref 1 4 0 3), (70, .bool true), (3, .ptr 3 0), (2, .ptr 1 0), (1, .ptr 0 0)], [(4, .row 3 1 (ints [0, 1, -1]) false), (3, .box (pgc zf0 lf0 tf0 zc0 lc0 tc0)), (1, .box [.int .i64 30, .int .i64 0, .int .i64 0]), (0, .box [.int .i64 1, .int .i64 0, .int .i64 0])], []⟩
  | 5, s => s = ⟨79, [(71, .cond true (INP ⟨1, 0, 0⟩)), (72, .cond true (INP ⟨30, 0, 0⟩)), (70, .bool true), (3, .ptr 3 0), (2, .ptr 1 0), (1, .ptr 0 0)], [(3, .box (pgc zf0 lf0 tf0 zc0 lc0 tc0)), (1, .box [.int .i64 30, .int .i64 0, .int .i64 0]), (0, .box [.int .i64 1, .int .i64 0, .int .i64 0])], []⟩
  | 6, s => s = ⟨79, [(71, .cond true (INP ⟨1, 0, 0⟩)), (73, INP ⟨4, 0, 0⟩), (70, .bool true), (3, .ptr 3 0), (2, .ptr 1 0), (1, .ptr 0 0)], [(3, .box (pgc zf0 lf0 tf0 zc0 lc0 tc0)), (1, .box [.int .i64 30, .int .i64 0, .int .i64 0]), (0, .box [.int .i64 1, .int .i64 0, .int .i64 0])], []⟩
  | 7, s => s = ⟨79, [(76, .ref 1 4 0 3), (71, .cond true (INP ⟨1, 0, 0⟩)), (70, .bool true), (3, .ptr 3 0), (2, .ptr 1 0), (1, .ptr 0 0)], [(4, .row 3 1 (ints [0, 1, -1]) false), (3, .box (pgc zf0 lf0 tf0 zc0 lc0 tc0)), (1, .box [.int .i64 30, .int .i64 0, .int .i64 0]), (0, .box [.int .i64 1, .int .i64 0, .int .i64 0])], []⟩
  | 8, s => s = ⟨79, [(72, .cond true (INP ⟨30, 0, 0⟩)), (73, INP ⟨4, 0, 0⟩), (70, .bool true), (3, .ptr 3 0), (2, .ptr 1 0), (1, .ptr 0 0)], [(3, .box (pgc zf0 lf0 tf0 zc0 lc0 tc0)), (1, .box [.int .i64 30, .int .i64 0, .int .i64 0]), (0, .box [.int .i64 1, .int .i64 0, .int .i64 0])], []⟩
  | 9, s => s = ⟨79, [(76, .ref 1 4 0 3), (72, .cond true (INP ⟨30, 0, 0⟩)), (70, .bool true), (3, .ptr 3 0), (2, .ptr 1 0), (1, .ptr 0 0)], [(4, .row 3 1 (ints [0, 1, -1]) false), (3, .box (pgc zf0 lf0 tf0 zc0 lc0 tc0)), (1, .box [.int .i64 30, .int .i64 0, .int .i64 0]), (0, .box [.int .i64 1, .int .i64 0, .int .i64 0])], []⟩
  | 10, s => s = ⟨79, [(76, .ref 1 4 0 3), (73, INP ⟨4, 0, 0⟩), (70, .bool true), (3, .ptr 3 0), (2, .ptr 1 0), (1, .ptr 0 0)], [(4, .row 3 1 (ints [0, 1, -1]) false), (3, .box (pgc zf0 lf0 tf0 zc0 lc0 tc0)), (1, .box [.int .i64 30, .int .i64 0, .int .i64 0]), (0, .box [.int .i64 1, .int .i64 0, .int .i64 0])], []⟩
  | 11, s => s = ⟨79, [(71, .cond true (INP ⟨1, 0, 0⟩)), (72, .cond true (INP ⟨30, 0, 0⟩)), (73, INP ⟨4, 0, 0⟩), (70, .bool true), (3, .ptr 3 0), (2, .ptr 1 0), (1, .ptr 0 0)], [(3, .box (pgc zf0 lf0 tf0 zc0 lc0 tc0)), (1, .box [.int .i64 30, .int .i64 0, .int .i64 0]), (0, .box [.int .i64 1, .int .i64 0, .int .i64 0])], []⟩
  | 12, s => s = ⟨79, [(76, .ref 1 4 0 3), (71, .cond true (INP ⟨1, 0, 0⟩)), (72, .cond true (INP ⟨30, 0, 0⟩)), (70, .bool true), (3, .ptr 3 0), (2, .ptr 1 0), (1, .ptr 0 0)], [(4, .row 3 1 (ints [0, 1, -1]) false), (3, .box (pgc zf0 lf0 tf0 zc0 lc0 tc0)), (1, .box [.int .i64 30, .int .i64 0, .int .i64 0]), (0, .box [.int .i64 1, .int .i64 0, .int .i64 0])], []⟩
  | 13, s => s = ⟨79, [(76, .ref 1 4 0 3), (71, .cond true (INP ⟨1, 0, 0⟩)), (73, INP ⟨4, 0, 0⟩), (70, .bool true), (3, .ptr 3 0), (2, .ptr 1 0), (1, .ptr 0 0)], [(4, .row 3 1 (ints [0, 1, -1]) false), (3, .box (pgc zf0 lf0 tf0 zc0 lc0 tc0)), (1, .box [.int .i64 30, .int .i64 0, .int .i64 0]), (0, .box [.int .i64 1, .int .i64 0, .int .i64 0])], []⟩
  | 14, s => s = ⟨79, [(76, .ref 1 4 0 3), (72, .cond true (INP ⟨30, 0, 0⟩)), (73, INP ⟨4, 0, 0⟩), (70, .bool true), (3, .ptr 3 0), (2, .ptr 1 0), (1, .ptr 0 0)], [(4, .row 3 1 (ints [0, 1, -1]) false), (3, .box (pgc zf0 lf0 tf0 zc0 lc0 tc0)), (1, .box [.int .i64 30, .int .i64 0, .int .i64 0]), (0, .box [.int .i64 1, .int .i64 0, .int .i64 0])], []⟩
  | 15, s => s = ⟨79, [(74, .ref 3 4 0 3), (70, .bool true), (3, .ptr 3 0), (2, .ptr 1 0), (1, .ptr 0 0)], [(4, .row 47 3 (wAll.map INP) false), (3, .box (pgc zf0 lf0 tf0 zc0 lc0 tc0)), (1, .box [.int .i64 30, .int .i64 0, .int .i64 0]), (0, .box [.int .i64 1, .int .i64 0, .int .i64 0])], []⟩
  | 16, s => s = ⟨79, [(76, .ref 1 4 0 3), (71, .cond true (INP ⟨1, 0, 0⟩)), (72, .cond true (INP ⟨30, 0, 0⟩)), (73, INP ⟨4, 0, 0⟩), (70, .bool true), (3, .ptr 3 0), (2, .ptr 1 0), (1, .ptr 0 0)], [(4, .row 3 1 (ints [0, 1, -1]) false), (3, .box (pgc zf0 lf0 tf0 zc0 lc0 tc0)), (1, .box [.int .i64 30, .int .i64 0, .int .i64 0]), (0, .box [.int .i64 1, .int .i64 0, .int .i64 0])], []⟩
  | 17, s => ∃ zf lf tf zc lc tc, PGA (ofP wAll) zf lf zc lc ∧ (s = ⟨79, [(75, .agg (pgc zf lf tf zc lc tc)), (70, .bool true), (3, .ptr 3 0), (2, .ptr 1 0), (1, .ptr 0 0)], [(3, .box (pgc zf0 lf0 tf0 zc0 lc0 tc0)), (1, .box [.int .i64 30, .int .i64 0, .int .i64 0]), (0, .box [.int .i64 1, .int .i64 0, .int .i64 0])], []⟩)
  | 18, s => s = ⟨79, [(74, .ref 3 4 0 3), (76, .ref 1 5 0 3), (70, .bool true), (3, .ptr 3 0), (2, .ptr 1 0), (1, .ptr 0 0)], [(5, .row 3 1 (ints [0, 1, -1]) false), (4, .row 47 3 (wAll.map INP) false), (3, .box (pgc zf0 lf0 tf0 zc0 lc0 tc0)), (1, .box [.int .i64 30, .int .i64 0, .int .i64 0]), (0, .box [.int .i64 1, .int .i64 0, .int .i64 0])], []⟩ ∨ s = ⟨79, [(74, .ref 3 5 0 3), (76, .ref 1 4 0 3), (70, .bool true), (3, .ptr 3 0), (2, .ptr 1 0), (1, .ptr 0 0)], [(4, .row 3 1 (ints [0, 1, -1]) false), (5, .row 47 3 (wAll.map INP) false), (3, .box (pgc zf0 lf0 tf0 zc0 lc0 tc0)), (1, .box [.int .i64 30, .int .i64 0, .int .i64 0]), (0, .box [.int .i64 1, .int .i64 0, .int .i64 0])], []⟩
  | 19, s => ∃ zf lf tf zc lc tc, PGA (ofP wAll) zf lf zc lc ∧ (s = ⟨79, [(75, .agg (pgc zf lf tf zc lc tc)), (76, .ref 1 4 0 3), (70, .bool true), (3, .ptr 3 0), (2, .ptr 1 0), (1, .ptr 0 0)], [(4, .row 3 1 (ints [0, 1, -1]) false), (3, .box (pgc zf0 lf0 tf0 zc0 lc0 tc0)), (1, .box [.int .i64 30, .int .i64 0, .int .i64 0]), (0, .box [.int .i64 1, .int .i64 0, .int .i64 0])], []⟩ ∨ s = ⟨79, [(75, .agg (pgc zf lf tf zc lc tc)), (76, .ref 1 5 0 3), (70, .bool true), (3, .ptr 3 0), (2, .ptr 1 0), (1, .ptr 0 0)], [(5, .row 3 1 (ints [0, 1, -1]) false), (3, .box (pgc zf0 lf0 tf0 zc0 lc0 tc0)), (1, .box [.int .i64 30, .int .i64 0, .int .i64 0]), (0, .box [.int .i64 1, .int .i64 0, .int .i64 0])], []⟩)
  | _, _ => False

set_option maxHeartbeats 32000000 in
theorem works_spec (hF : FitsC) : WorksC := by
  intro Post h
  refine is14.specW K_ok K_mix false (by simp) (by simp [keys]) ?_
  (conv => whnf); repeat ((first | (refine And.intro ?_ ?_; focus exact Cl4) | refine Both.T (by exact rfl) ?_ | refine Both.F (by exact rfl) ?_ | refine Both.GT (by exact rfl) (by exact rfl) ?_ | refine Both.GF (by exact rfl) ?_ | refine Both.GN (by exact rfl) ?_); conv => whnf)
  refine is_spec 1 0 _ ?_
  (conv => whnf); repeat ((first | (refine And.intro ?_ ?_; focus exact Cl4) | refine Both.T (by exact rfl) ?_ | refine Both.F (by exact rfl) ?_ | refine Both.GT (by exact rfl) (by exact rfl) ?_ | refine Both.GF (by exact rfl) ?_ | refine Both.GN (by exact rfl) ?_); conv => whnf)
  refine is_spec 30 0 _ ?_
  (conv => whnf); repeat ((first | (refine And.intro ?_ ?_; focus exact Cl4) | refine Both.T (by exact rfl) ?_ | refine Both.F (by exact rfl) ?_ | refine Both.GT (by exact rfl) (by exact rfl) ?_ | refine Both.GF (by exact rfl) ?_ | refine Both.GN (by exact rfl) ?_); conv => whnf)
  refine ⟨inv14, ⟨[], _, rfl, ?_⟩, ?_, fun s hs => ?_⟩
  · simp [meets, ghosts, St.le, St.get, look, keys, PV.labs, labsL, lookB, Blk.labs]
  · (conv => whnf)
    refine And.intro (fun s hs => ?_) ?_
    · simp only [inv14] at hs
      obtain rfl := hs
      (conv => whnf); repeat' (first | ((first | (refine And.intro ?_ ?_; focus exact Cl4) | refine Both.T (by exact rfl) ?_ | refine Both.F (by exact rfl) ?_ | refine Both.GT (by exact rfl) (by exact rfl) ?_ | refine Both.GF (by exact rfl) ?_ | refine Both.GN (by exact rfl) ?_); conv => whnf) | (refine is_spec _ _ _ ?_; conv => whnf) | (refine of_spec wTried 3 _ (Or.inl rfl) (by decide) (by unfold i64; decide) _ (fun zf lf tf zc lc tc hp => ?_); conv => whnf) | ((refine Both.mk ?_ ?_ <;> fail_if_success (intro _)) <;> conv => whnf))
      · exact ⟨[], _, rfl, by simp [meets, ghosts, St.le, St.get, look, keys, PV.labs, labsL, lookB, Blk.labs, INP, wTried]⟩
      · exact ⟨[], _, rfl, by simp [meets, ghosts, St.le, St.get, look, keys, PV.labs, labsL, lookB, Blk.labs, INP, wTried]⟩
      · exact ⟨[], _, rfl, by simp [meets, ghosts, St.le, St.get, look, keys, PV.labs, labsL, lookB, Blk.labs, INP, wTried]⟩
      · exact ⟨[], _, rfl, by simp [meets, ghosts, St.le, St.get, look, keys, PV.labs, labsL, lookB, Blk.labs, INP, wTried]⟩
      · exact ⟨[], _, rfl, by simp [meets, ghosts, St.le, St.get, look, keys, PV.labs, labsL, lookB, Blk.labs, INP, wTried]⟩
      · exact trivial
    conv => whnf
    refine And.intro (fun s hs => ?_) ?_
    · simp only [inv14] at hs
      obtain rfl := hs
      (conv => whnf); repeat' (first | ((first | (refine And.intro ?_ ?_; focus exact Cl4) | refine Both.T (by exact rfl) ?_ | refine Both.F (by exact rfl) ?_ | refine Both.GT (by exact rfl) (by exact rfl) ?_ | refine Both.GF (by exact rfl) ?_ | refine Both.GN (by exact rfl) ?_); conv => whnf) | (refine is_spec _ _ _ ?_; conv => whnf) | (refine of_spec wTried 3 _ (Or.inl rfl) (by decide) (by unfold i64; decide) _ (fun zf lf tf zc lc tc hp => ?_); conv => whnf) | ((refine Both.mk ?_ ?_ <;> fail_if_success (intro _)) <;> conv => whnf))
      · exact ⟨[], _, rfl, by simp [meets, ghosts, St.le, St.get, look, keys, PV.labs, labsL, lookB, Blk.labs, INP, wTried]⟩
      · exact ⟨[], _, rfl, by simp [meets, ghosts, St.le, St.get, look, keys, PV.labs, labsL, lookB, Blk.labs, INP, wTried]⟩
      · exact ⟨[], _, rfl, by simp [meets, ghosts, St.le, St.get, look, keys, PV.labs, labsL, lookB, Blk.labs, INP, wTried]⟩
      · exact ⟨[], _, rfl, by simp [meets, ghosts, St.le, St.get, look, keys, PV.labs, labsL, lookB, Blk.labs, INP, wTried]⟩
      · exact ⟨[], _, rfl, by simp [meets, ghosts, St.le, St.get, look, keys, PV.labs, labsL, lookB, Blk.labs, INP, wTried]⟩
      · exact trivial
    conv => whnf
    refine And.intro (fun s hs => ?_) ?_
    · simp only [inv14] at hs
      obtain rfl := hs
      (conv => whnf); repeat' (first | ((first | (refine And.intro ?_ ?_; focus exact Cl4) | refine Both.T (by exact rfl) ?_ | refine Both.F (by exact rfl) ?_ | refine Both.GT (by exact rfl) (by exact rfl) ?_ | refine Both.GF (by exact rfl) ?_ | refine Both.GN (by exact rfl) ?_); conv => whnf) | (refine is_spec _ _ _ ?_; conv => whnf) | (refine of_spec wTried 3 _ (Or.inl rfl) (by decide) (by unfold i64; decide) _ (fun zf lf tf zc lc tc hp => ?_); conv => whnf) | ((refine Both.mk ?_ ?_ <;> fail_if_success (intro _)) <;> conv => whnf))
      · exact ⟨[], _, rfl, by simp [meets, ghosts, St.le, St.get, look, keys, PV.labs, labsL, lookB, Blk.labs, INP, wTried]⟩
      · exact ⟨[], _, rfl, by simp [meets, ghosts, St.le, St.get, look, keys, PV.labs, labsL, lookB, Blk.labs, INP, wTried]⟩
      · exact ⟨[], _, rfl, by simp [meets, ghosts, St.le, St.get, look, keys, PV.labs, labsL, lookB, Blk.labs, INP, wTried]⟩
      · exact ⟨[], _, rfl, by simp [meets, ghosts, St.le, St.get, look, keys, PV.labs, labsL, lookB, Blk.labs, INP, wTried]⟩
      · exact trivial
    conv => whnf
    refine And.intro (fun s hs => ?_) ?_
    · simp only [inv14] at hs
      obtain rfl := hs
      (conv => whnf); repeat' (first | ((first | (refine And.intro ?_ ?_; focus exact Cl4) | refine Both.T (by exact rfl) ?_ | refine Both.F (by exact rfl) ?_ | refine Both.GT (by exact rfl) (by exact rfl) ?_ | refine Both.GF (by exact rfl) ?_ | refine Both.GN (by exact rfl) ?_); conv => whnf) | (refine is_spec _ _ _ ?_; conv => whnf) | (refine of_spec wTried 3 _ (Or.inl rfl) (by decide) (by unfold i64; decide) _ (fun zf lf tf zc lc tc hp => ?_); conv => whnf) | ((refine Both.mk ?_ ?_ <;> fail_if_success (intro _)) <;> conv => whnf))
      · exact ⟨[], _, rfl, by simp [meets, ghosts, St.le, St.get, look, keys, PV.labs, labsL, lookB, Blk.labs, INP, wTried]⟩
      · exact ⟨[], _, rfl, by simp [meets, ghosts, St.le, St.get, look, keys, PV.labs, labsL, lookB, Blk.labs, INP, wTried]⟩
      · exact ⟨[], _, rfl, by simp [meets, ghosts, St.le, St.get, look, keys, PV.labs, labsL, lookB, Blk.labs, INP, wTried]⟩
      · exact ⟨[], _, rfl, by simp [meets, ghosts, St.le, St.get, look, keys, PV.labs, labsL, lookB, Blk.labs, INP, wTried]⟩
      · exact trivial
    conv => whnf
    refine And.intro (fun s hs => ?_) ?_
    · simp only [inv14] at hs
      obtain rfl := hs
      (conv => whnf); repeat' (first | ((first | (refine And.intro ?_ ?_; focus exact Cl4) | refine Both.T (by exact rfl) ?_ | refine Both.F (by exact rfl) ?_ | refine Both.GT (by exact rfl) (by exact rfl) ?_ | refine Both.GF (by exact rfl) ?_ | refine Both.GN (by exact rfl) ?_); conv => whnf) | (refine is_spec _ _ _ ?_; conv => whnf) | (refine of_spec wTried 3 _ (Or.inl rfl) (by decide) (by unfold i64; decide) _ (fun zf lf tf zc lc tc hp => ?_); conv => whnf) | ((refine Both.mk ?_ ?_ <;> fail_if_success (intro _)) <;> conv => whnf))
      · exact ⟨[], _, rfl, by simp [meets, ghosts, St.le, St.get, look, keys, PV.labs, labsL, lookB, Blk.labs, INP, wTried]⟩
      · exact ⟨[], _, rfl, by simp [meets, ghosts, St.le, St.get, look, keys, PV.labs, labsL, lookB, Blk.labs, INP, wTried]⟩
      · exact ⟨[], _, rfl, by simp [meets, ghosts, St.le, St.get, look, keys, PV.labs, labsL, lookB, Blk.labs, INP, wTried]⟩
      · exact ⟨[], _, rfl, by simp [meets, ghosts, St.le, St.get, look, keys, PV.labs, labsL, lookB, Blk.labs, INP, wTried]⟩
      · exact trivial
    conv => whnf
    refine And.intro (fun s hs => ?_) ?_
    · simp only [inv14] at hs
      obtain rfl := hs
      (conv => whnf); repeat' (first | ((first | (refine And.intro ?_ ?_; focus exact Cl4) | refine Both.T (by exact rfl) ?_ | refine Both.F (by exact rfl) ?_ | refine Both.GT (by exact rfl) (by exact rfl) ?_ | refine Both.GF (by exact rfl) ?_ | refine Both.GN (by exact rfl) ?_); conv => whnf) | (refine is_spec _ _ _ ?_; conv => whnf) | (refine of_spec wTried 3 _ (Or.inl rfl) (by decide) (by unfold i64; decide) _ (fun zf lf tf zc lc tc hp => ?_); conv => whnf) | ((refine Both.mk ?_ ?_ <;> fail_if_success (intro _)) <;> conv => whnf))
      · exact ⟨[], _, rfl, by simp [meets, ghosts, St.le, St.get, look, keys, PV.labs, labsL, lookB, Blk.labs, INP, wTried]⟩
      · exact ⟨[], _, rfl, by simp [meets, ghosts, St.le, St.get, look, keys, PV.labs, labsL, lookB, Blk.labs, INP, wTried]⟩
      · exact ⟨[], _, rfl, by simp [meets, ghosts, St.le, St.get, look, keys, PV.labs, labsL, lookB, Blk.labs, INP, wTried]⟩
      · exact ⟨[], _, rfl, by simp [meets, ghosts, St.le, St.get, look, keys, PV.labs, labsL, lookB, Blk.labs, INP, wTried]⟩
      · exact trivial
    conv => whnf
    refine And.intro (fun s hs => ?_) ?_
    · simp only [inv14] at hs
      obtain rfl := hs
      (conv => whnf); repeat' (first | ((first | (refine And.intro ?_ ?_; focus exact Cl4) | refine Both.T (by exact rfl) ?_ | refine Both.F (by exact rfl) ?_ | refine Both.GT (by exact rfl) (by exact rfl) ?_ | refine Both.GF (by exact rfl) ?_ | refine Both.GN (by exact rfl) ?_); conv => whnf) | (refine is_spec _ _ _ ?_; conv => whnf) | (refine of_spec wTried 3 _ (Or.inl rfl) (by decide) (by unfold i64; decide) _ (fun zf lf tf zc lc tc hp => ?_); conv => whnf) | ((refine Both.mk ?_ ?_ <;> fail_if_success (intro _)) <;> conv => whnf))
      · exact ⟨[], _, rfl, by simp [meets, ghosts, St.le, St.get, look, keys, PV.labs, labsL, lookB, Blk.labs, INP, wTried]⟩
      · exact ⟨[], _, rfl, by simp [meets, ghosts, St.le, St.get, look, keys, PV.labs, labsL, lookB, Blk.labs, INP, wTried]⟩
      · exact ⟨[], _, rfl, by simp [meets, ghosts, St.le, St.get, look, keys, PV.labs, labsL, lookB, Blk.labs, INP, wTried]⟩
      · exact ⟨[], _, rfl, by simp [meets, ghosts, St.le, St.get, look, keys, PV.labs, labsL, lookB, Blk.labs, INP, wTried]⟩
      · exact trivial
    conv => whnf
    refine And.intro (fun s hs => ?_) ?_
    · simp only [inv14] at hs
      obtain rfl := hs
      (conv => whnf); repeat' (first | ((first | (refine And.intro ?_ ?_; focus exact Cl4) | refine Both.T (by exact rfl) ?_ | refine Both.F (by exact rfl) ?_ | refine Both.GT (by exact rfl) (by exact rfl) ?_ | refine Both.GF (by exact rfl) ?_ | refine Both.GN (by exact rfl) ?_); conv => whnf) | (refine is_spec _ _ _ ?_; conv => whnf) | (refine of_spec wTried 3 _ (Or.inl rfl) (by decide) (by unfold i64; decide) _ (fun zf lf tf zc lc tc hp => ?_); conv => whnf) | ((refine Both.mk ?_ ?_ <;> fail_if_success (intro _)) <;> conv => whnf))
      · exact ⟨[], _, rfl, by simp [meets, ghosts, St.le, St.get, look, keys, PV.labs, labsL, lookB, Blk.labs, INP, wTried]⟩
      · exact ⟨[], _, rfl, by simp [meets, ghosts, St.le, St.get, look, keys, PV.labs, labsL, lookB, Blk.labs, INP, wTried]⟩
      · exact ⟨[], _, rfl, by simp [meets, ghosts, St.le, St.get, look, keys, PV.labs, labsL, lookB, Blk.labs, INP, wTried]⟩
      · exact ⟨[], _, rfl, by simp [meets, ghosts, St.le, St.get, look, keys, PV.labs, labsL, lookB, Blk.labs, INP, wTried]⟩
      · exact trivial
    conv => whnf
    refine And.intro (fun s hs => ?_) ?_
    · simp only [inv14] at hs
      obtain rfl := hs
      (conv => whnf); repeat' (first | ((first | (refine And.intro ?_ ?_; focus exact Cl4) | refine Both.T (by exact rfl) ?_ | refine Both.F (by exact rfl) ?_ | refine Both.GT (by exact rfl) (by exact rfl) ?_ | refine Both.GF (by exact rfl) ?_ | refine Both.GN (by exact rfl) ?_); conv => whnf) | (refine is_spec _ _ _ ?_; conv => whnf) | (refine of_spec wTried 3 _ (Or.inl rfl) (by decide) (by unfold i64; decide) _ (fun zf lf tf zc lc tc hp => ?_); conv => whnf) | ((refine Both.mk ?_ ?_ <;> fail_if_success (intro _)) <;> conv => whnf))
      · exact ⟨[], _, rfl, by simp [meets, ghosts, St.le, St.get, look, keys, PV.labs, labsL, lookB, Blk.labs, INP, wTried]⟩
      · exact ⟨[], _, rfl, by simp [meets, ghosts, St.le, St.get, look, keys, PV.labs, labsL, lookB, Blk.labs, INP, wTried]⟩
      · exact ⟨[], _, rfl, by simp [meets, ghosts, St.le, St.get, look, keys, PV.labs, labsL, lookB, Blk.labs, INP, wTried]⟩
      · exact ⟨[], _, rfl, by simp [meets, ghosts, St.le, St.get, look, keys, PV.labs, labsL, lookB, Blk.labs, INP, wTried]⟩
      · exact trivial
    conv => whnf
    refine And.intro (fun s hs => ?_) ?_
    · simp only [inv14] at hs
      obtain rfl := hs
      (conv => whnf); repeat' (first | ((first | (refine And.intro ?_ ?_; focus exact Cl4) | refine Both.T (by exact rfl) ?_ | refine Both.F (by exact rfl) ?_ | refine Both.GT (by exact rfl) (by exact rfl) ?_ | refine Both.GF (by exact rfl) ?_ | refine Both.GN (by exact rfl) ?_); conv => whnf) | (refine is_spec _ _ _ ?_; conv => whnf) | (refine of_spec wTried 3 _ (Or.inl rfl) (by decide) (by unfold i64; decide) _ (fun zf lf tf zc lc tc hp => ?_); conv => whnf) | ((refine Both.mk ?_ ?_ <;> fail_if_success (intro _)) <;> conv => whnf))
      · exact ⟨[], _, rfl, by simp [meets, ghosts, St.le, St.get, look, keys, PV.labs, labsL, lookB, Blk.labs, INP, wTried]⟩
      · exact ⟨[], _, rfl, by simp [meets, ghosts, St.le, St.get, look, keys, PV.labs, labsL, lookB, Blk.labs, INP, wTried]⟩
      · exact ⟨[], _, rfl, by simp [meets, ghosts, St.le, St.get, look, keys, PV.labs, labsL, lookB, Blk.labs, INP, wTried]⟩
      · exact ⟨[], _, rfl, by simp [meets, ghosts, St.le, St.get, look, keys, PV.labs, labsL, lookB, Blk.labs, INP, wTried]⟩
      · exact trivial
    conv => whnf
    refine And.intro (fun s hs => ?_) ?_
    · simp only [inv14] at hs
      obtain rfl := hs
      (conv => whnf); repeat' (first | ((first | (refine And.intro ?_ ?_; focus exact Cl4) | refine Both.T (by exact rfl) ?_ | refine Both.F (by exact rfl) ?_ | refine Both.GT (by exact rfl) (by exact rfl) ?_ | refine Both.GF (by exact rfl) ?_ | refine Both.GN (by exact rfl) ?_); conv => whnf) | (refine is_spec _ _ _ ?_; conv => whnf) | (refine of_spec wTried 3 _ (Or.inl rfl) (by decide) (by unfold i64; decide) _ (fun zf lf tf zc lc tc hp => ?_); conv => whnf) | ((refine Both.mk ?_ ?_ <;> fail_if_success (intro _)) <;> conv => whnf))
      · exact ⟨[], _, rfl, by simp [meets, ghosts, St.le, St.get, look, keys, PV.labs, labsL, lookB, Blk.labs, INP, wTried]⟩
      · exact ⟨[], _, rfl, by simp [meets, ghosts, St.le, St.get, look, keys, PV.labs, labsL, lookB, Blk.labs, INP, wTried]⟩
      · exact ⟨[], _, rfl, by simp [meets, ghosts, St.le, St.get, look, keys, PV.labs, labsL, lookB, Blk.labs, INP, wTried]⟩
      · exact ⟨[], _, rfl, by simp [meets, ghosts, St.le, St.get, look, keys, PV.labs, labsL, lookB, Blk.labs, INP, wTried]⟩
      · exact trivial
    conv => whnf
    refine And.intro (fun s hs => ?_) ?_
    · simp only [inv14] at hs
      obtain rfl := hs
      (conv => whnf); repeat' (first | ((first | (refine And.intro ?_ ?_; focus exact Cl4) | refine Both.T (by exact rfl) ?_ | refine Both.F (by exact rfl) ?_ | refine Both.GT (by exact rfl) (by exact rfl) ?_ | refine Both.GF (by exact rfl) ?_ | refine Both.GN (by exact rfl) ?_); conv => whnf) | (refine is_spec _ _ _ ?_; conv => whnf) | (refine of_spec wTried 3 _ (Or.inl rfl) (by decide) (by unfold i64; decide) _ (fun zf lf tf zc lc tc hp => ?_); conv => whnf) | ((refine Both.mk ?_ ?_ <;> fail_if_success (intro _)) <;> conv => whnf))
      · exact ⟨[], _, rfl, by simp [meets, ghosts, St.le, St.get, look, keys, PV.labs, labsL, lookB, Blk.labs, INP, wTried]⟩
      · exact ⟨[], _, rfl, by simp [meets, ghosts, St.le, St.get, look, keys, PV.labs, labsL, lookB, Blk.labs, INP, wTried]⟩
      · exact ⟨[], _, rfl, by simp [meets, ghosts, St.le, St.get, look, keys, PV.labs, labsL, lookB, Blk.labs, INP, wTried]⟩
      · exact trivial
    conv => whnf
    refine And.intro (fun s hs => ?_) ?_
    · simp only [inv14] at hs
      obtain rfl := hs
      (conv => whnf); repeat' (first | ((first | (refine And.intro ?_ ?_; focus exact Cl4) | refine Both.T (by exact rfl) ?_ | refine Both.F (by exact rfl) ?_ | refine Both.GT (by exact rfl) (by exact rfl) ?_ | refine Both.GF (by exact rfl) ?_ | refine Both.GN (by exact rfl) ?_); conv => whnf) | (refine is_spec _ _ _ ?_; conv => whnf) | (refine of_spec wTried 3 _ (Or.inl rfl) (by decide) (by unfold i64; decide) _ (fun zf lf tf zc lc tc hp => ?_); conv => whnf) | ((refine Both.mk ?_ ?_ <;> fail_if_success (intro _)) <;> conv => whnf))
      · exact ⟨[], _, rfl, by simp [meets, ghosts, St.le, St.get, look, keys, PV.labs, labsL, lookB, Blk.labs, INP, wTried]⟩
      · exact ⟨[], _, rfl, by simp [meets, ghosts, St.le, St.get, look, keys, PV.labs, labsL, lookB, Blk.labs, INP, wTried]⟩
      · exact ⟨[], _, rfl, by simp [meets, ghosts, St.le, St.get, look, keys, PV.labs, labsL, lookB, Blk.labs, INP, wTried]⟩
      · exact trivial
    conv => whnf
    refine And.intro (fun s hs => ?_) ?_
    · simp only [inv14] at hs
      obtain rfl := hs
      (conv => whnf); repeat' (first | ((first | (refine And.intro ?_ ?_; focus exact Cl4) | refine Both.T (by exact rfl) ?_ | refine Both.F (by exact rfl) ?_ | refine Both.GT (by exact rfl) (by exact rfl) ?_ | refine Both.GF (by exact rfl) ?_ | refine Both.GN (by exact rfl) ?_); conv => whnf) | (refine is_spec _ _ _ ?_; conv => whnf) | (refine of_spec wTried 3 _ (Or.inl rfl) (by decide) (by unfold i64; decide) _ (fun zf lf tf zc lc tc hp => ?_); conv => whnf) | ((refine Both.mk ?_ ?_ <;> fail_if_success (intro _)) <;> conv => whnf))
      · exact ⟨[], _, rfl, by simp [meets, ghosts, St.le, St.get, look, keys, PV.labs, labsL, lookB, Blk.labs, INP, wTried]⟩
      · exact ⟨[], _, rfl, by simp [meets, ghosts, St.le, St.get, look, keys, PV.labs, labsL, lookB, Blk.labs, INP, wTried]⟩
      · exact ⟨[], _, rfl, by simp [meets, ghosts, St.le, St.get, look, keys, PV.labs, labsL, lookB, Blk.labs, INP, wTried]⟩
      · exact trivial
    conv => whnf
    refine And.intro (fun s hs => ?_) ?_
    · simp only [inv14] at hs
      obtain rfl := hs
      (conv => whnf); repeat' (first | ((first | (refine And.intro ?_ ?_; focus exact Cl4) | refine Both.T (by exact rfl) ?_ | refine Both.F (by exact rfl) ?_ | refine Both.GT (by exact rfl) (by exact rfl) ?_ | refine Both.GF (by exact rfl) ?_ | refine Both.GN (by exact rfl) ?_); conv => whnf) | (refine is_spec _ _ _ ?_; conv => whnf) | (refine of_spec wTried 3 _ (Or.inl rfl) (by decide) (by unfold i64; decide) _ (fun zf lf tf zc lc tc hp => ?_); conv => whnf) | ((refine Both.mk ?_ ?_ <;> fail_if_success (intro _)) <;> conv => whnf))
      · exact ⟨[], _, rfl, by simp [meets, ghosts, St.le, St.get, look, keys, PV.labs, labsL, lookB, Blk.labs, INP, wTried]⟩
      · exact ⟨[], _, rfl, by simp [meets, ghosts, St.le, St.get, look, keys, PV.labs, labsL, lookB, Blk.labs, INP, wTried]⟩
      · exact ⟨[], _, rfl, by simp [meets, ghosts, St.le, St.get, look, keys, PV.labs, labsL, lookB, Blk.labs, INP, wTried]⟩
      · exact trivial
    conv => whnf
    refine And.intro (fun s hs => ?_) ?_
    · simp only [inv14] at hs
      obtain rfl := hs
      (conv => whnf); repeat' (first | ((first | (refine And.intro ?_ ?_; focus exact Cl4) | refine Both.T (by exact rfl) ?_ | refine Both.F (by exact rfl) ?_ | refine Both.GT (by exact rfl) (by exact rfl) ?_ | refine Both.GF (by exact rfl) ?_ | refine Both.GN (by exact rfl) ?_); conv => whnf) | (refine is_spec _ _ _ ?_; conv => whnf) | (refine of_spec wTried 3 _ (Or.inl rfl) (by decide) (by unfold i64; decide) _ (fun zf lf tf zc lc tc hp => ?_); conv => whnf) | ((refine Both.mk ?_ ?_ <;> fail_if_success (intro _)) <;> conv => whnf))
      · exact ⟨[], _, rfl, by simp [meets, ghosts, St.le, St.get, look, keys, PV.labs, labsL, lookB, Blk.labs, INP, wTried]⟩
      · exact ⟨[], _, rfl, by simp [meets, ghosts, St.le, St.get, look, keys, PV.labs, labsL, lookB, Blk.labs, INP, wTried]⟩
      · exact ⟨[], _, rfl, by simp [meets, ghosts, St.le, St.get, look, keys, PV.labs, labsL, lookB, Blk.labs, INP, wTried]⟩
      · exact trivial
    conv => whnf
    refine And.intro (fun s hs => ?_) ?_
    · simp only [inv14] at hs
      obtain rfl := hs
      (conv => whnf); repeat' (first | ((first | (refine And.intro ?_ ?_; focus exact Cl4) | refine Both.T (by exact rfl) ?_ | refine Both.F (by exact rfl) ?_ | refine Both.GT (by exact rfl) (by exact rfl) ?_ | refine Both.GF (by exact rfl) ?_ | refine Both.GN (by exact rfl) ?_); conv => whnf) | (refine is_spec _ _ _ ?_; conv => whnf) | (refine of_spec wTried 3 _ (Or.inl rfl) (by decide) (by unfold i64; decide) _ (fun zf lf tf zc lc tc hp => ?_); conv => whnf) | ((refine Both.mk ?_ ?_ <;> fail_if_success (intro _)) <;> conv => whnf))
      · exact ⟨[], _, rfl, by simp [meets, ghosts, St.le, St.get, look, keys, PV.labs, labsL, lookB, Blk.labs, INP, wTried]⟩
      · exact ⟨[], _, rfl, by simp [meets, ghosts, St.le, St.get, look, keys, PV.labs, labsL, lookB, Blk.labs, INP, wTried]⟩
      · exact ⟨[], _, rfl, by simp [meets, ghosts, St.le, St.get, look, keys, PV.labs, labsL, lookB, Blk.labs, INP, wTried]⟩
      · exact trivial
    conv => whnf
    refine And.intro (fun s hs => ?_) ?_
    · simp only [inv14] at hs
      obtain rfl := hs
      (conv => whnf); repeat' (first | ((first | (refine And.intro ?_ ?_; focus exact Cl4) | refine Both.T (by exact rfl) ?_ | refine Both.F (by exact rfl) ?_ | refine Both.GT (by exact rfl) (by exact rfl) ?_ | refine Both.GF (by exact rfl) ?_ | refine Both.GN (by exact rfl) ?_); conv => whnf) | (refine is_spec _ _ _ ?_; conv => whnf) | (refine of_spec wTried 3 _ (Or.inl rfl) (by decide) (by unfold i64; decide) _ (fun zf lf tf zc lc tc hp => ?_); conv => whnf) | ((refine Both.mk ?_ ?_ <;> fail_if_success (intro _)) <;> conv => whnf))
      · exact ⟨[], _, rfl, by simp [meets, ghosts, St.le, St.get, look, keys, PV.labs, labsL, lookB, Blk.labs, INP, wTried]⟩
      · exact ⟨[], _, rfl, by simp [meets, ghosts, St.le, St.get, look, keys, PV.labs, labsL, lookB, Blk.labs, INP, wTried]⟩
      · exact ⟨[], _, rfl, by simp [meets, ghosts, St.le, St.get, look, keys, PV.labs, labsL, lookB, Blk.labs, INP, wTried]⟩
      · exact trivial
    conv => whnf
    refine And.intro (fun s hs => ?_) ?_
    · simp only [inv14] at hs
      obtain rfl := hs
      (conv => whnf); repeat' (first | ((first | (refine And.intro ?_ ?_; focus exact Cl4) | refine Both.T (by exact rfl) ?_ | refine Both.F (by exact rfl) ?_ | refine Both.GT (by exact rfl) (by exact rfl) ?_ | refine Both.GF (by exact rfl) ?_ | refine Both.GN (by exact rfl) ?_); conv => whnf) | (refine is_spec _ _ _ ?_; conv => whnf) | (refine of_spec wTried 3 _ (Or.inl rfl) (by decide) (by unfold i64; decide) _ (fun zf lf tf zc lc tc hp => ?_); conv => whnf) | ((refine Both.mk ?_ ?_ <;> fail_if_success (intro _)) <;> conv => whnf))
      · exact ⟨[], _, rfl, by simp [meets, ghosts, St.le, St.get, look, keys, PV.labs, labsL, lookB, Blk.labs, INP, wTried]⟩
      · exact ⟨[], _, rfl, by simp [meets, ghosts, St.le, St.get, look, keys, PV.labs, labsL, lookB, Blk.labs, INP, wTried]⟩
      · exact ⟨[], _, rfl, by simp [meets, ghosts, St.le, St.get, look, keys, PV.labs, labsL, lookB, Blk.labs, INP, wTried]⟩
      · exact trivial
    conv => whnf
    refine And.intro (fun s hs => ?_) ?_
    · simp only [inv14] at hs
      obtain rfl := hs
      (conv => whnf); repeat' (first | ((first | (refine And.intro ?_ ?_; focus exact Cl4) | refine Both.T (by exact rfl) ?_ | refine Both.F (by exact rfl) ?_ | refine Both.GT (by exact rfl) (by exact rfl) ?_ | refine Both.GF (by exact rfl) ?_ | refine Both.GN (by exact rfl) ?_); conv => whnf) | (refine is_spec _ _ _ ?_; conv => whnf) | (refine of_spec wTried 3 _ (Or.inl rfl) (by decide) (by unfold i64; decide) _ (fun zf lf tf zc lc tc hp => ?_); conv => whnf) | ((refine Both.mk ?_ ?_ <;> fail_if_success (intro _)) <;> conv => whnf))
      · exact ⟨[], _, rfl, by simp [meets, ghosts, St.le, St.get, look, keys, PV.labs, labsL, lookB, Blk.labs, INP, wTried]⟩
      · exact ⟨[], _, rfl, by simp [meets, ghosts, St.le, St.get, look, keys, PV.labs, labsL, lookB, Blk.labs, INP, wTried]⟩
      · exact ⟨[], _, rfl, by simp [meets, ghosts, St.le, St.get, look, keys, PV.labs, labsL, lookB, Blk.labs, INP, wTried]⟩
      · exact trivial
    conv => whnf
    refine And.intro (fun s hs => ?_) ?_
    · simp only [inv14] at hs
      obtain rfl := hs
      (conv => whnf); repeat' (first | ((first | (refine And.intro ?_ ?_; focus exact Cl4) | refine Both.T (by exact rfl) ?_ | refine Both.F (by exact rfl) ?_ | refine Both.GT (by exact rfl) (by exact rfl) ?_ | refine Both.GF (by exact rfl) ?_ | refine Both.GN (by exact rfl) ?_); conv => whnf) | (refine is_spec _ _ _ ?_; conv => whnf) | (refine of_spec wTried 3 _ (Or.inl rfl) (by decide) (by unfold i64; decide) _ (fun zf lf tf zc lc tc hp => ?_); conv => whnf) | ((refine Both.mk ?_ ?_ <;> fail_if_success (intro _)) <;> conv => whnf))
      · exact ⟨[], _, rfl, by simp [meets, ghosts, St.le, St.get, look, keys, PV.labs, labsL, lookB, Blk.labs, INP, wTried]⟩
      · exact ⟨[], _, rfl, by simp [meets, ghosts, St.le, St.get, look, keys, PV.labs, labsL, lookB, Blk.labs, INP, wTried]⟩
      · exact ⟨[], _, rfl, by simp [meets, ghosts, St.le, St.get, look, keys, PV.labs, labsL, lookB, Blk.labs, INP, wTried]⟩
      · exact trivial
    conv => whnf
    refine And.intro (fun s hs => ?_) ?_
    · simp only [inv14] at hs
      obtain rfl := hs
      (conv => whnf); repeat' (first | ((first | (refine And.intro ?_ ?_; focus exact Cl4) | refine Both.T (by exact rfl) ?_ | refine Both.F (by exact rfl) ?_ | refine Both.GT (by exact rfl) (by exact rfl) ?_ | refine Both.GF (by exact rfl) ?_ | refine Both.GN (by exact rfl) ?_); conv => whnf) | (refine is_spec _ _ _ ?_; conv => whnf) | (refine of_spec wTried 3 _ (Or.inl rfl) (by decide) (by unfold i64; decide) _ (fun zf lf tf zc lc tc hp => ?_); conv => whnf) | ((refine Both.mk ?_ ?_ <;> fail_if_success (intro _)) <;> conv => whnf))
      · exact ⟨[], _, rfl, by simp [meets, ghosts, St.le, St.get, look, keys, PV.labs, labsL, lookB, Blk.labs, INP, wTried]⟩
      · exact ⟨[], _, rfl, by simp [meets, ghosts, St.le, St.get, look, keys, PV.labs, labsL, lookB, Blk.labs, INP, wTried]⟩
      · exact ⟨[], _, rfl, by simp [meets, ghosts, St.le, St.get, look, keys, PV.labs, labsL, lookB, Blk.labs, INP, wTried]⟩
      · exact trivial
    conv => whnf
    refine And.intro (fun s hs => ?_) ?_
    · simp only [inv14] at hs
      obtain rfl := hs
      (conv => whnf); repeat' (first | ((first | (refine And.intro ?_ ?_; focus exact Cl4) | refine Both.T (by exact rfl) ?_ | refine Both.F (by exact rfl) ?_ | refine Both.GT (by exact rfl) (by exact rfl) ?_ | refine Both.GF (by exact rfl) ?_ | refine Both.GN (by exact rfl) ?_); conv => whnf) | (refine is_spec _ _ _ ?_; conv => whnf) | (refine of_spec wTried 3 _ (Or.inl rfl) (by decide) (by unfold i64; decide) _ (fun zf lf tf zc lc tc hp => ?_); conv => whnf) | ((refine Both.mk ?_ ?_ <;> fail_if_success (intro _)) <;> conv => whnf))
      · exact ⟨[], _, rfl, by simp [meets, ghosts, St.le, St.get, look, keys, PV.labs, labsL, lookB, Blk.labs, INP, wTried]⟩
      · exact ⟨[], _, rfl, by simp [meets, ghosts, St.le, St.get, look, keys, PV.labs, labsL, lookB, Blk.labs, INP, wTried]⟩
      · exact ⟨[], _, rfl, by simp [meets, ghosts, St.le, St.get, look, keys, PV.labs, labsL, lookB, Blk.labs, INP, wTried]⟩
      · exact trivial
    conv => whnf
    refine And.intro (fun s hs => ?_) ?_
    · simp only [inv14] at hs
      obtain rfl := hs
      (conv => whnf); repeat' (first | ((first | (refine And.intro ?_ ?_; focus exact Cl4) | refine Both.T (by exact rfl) ?_ | refine Both.F (by exact rfl) ?_ | refine Both.GT (by exact rfl) (by exact rfl) ?_ | refine Both.GF (by exact rfl) ?_ | refine Both.GN (by exact rfl) ?_); conv => whnf) | (refine is_spec _ _ _ ?_; conv => whnf) | (refine of_spec wTried 3 _ (Or.inl rfl) (by decide) (by unfold i64; decide) _ (fun zf lf tf zc lc tc hp => ?_); conv => whnf) | ((refine Both.mk ?_ ?_ <;> fail_if_success (intro _)) <;> conv => whnf))
      · exact ⟨[], _, rfl, by simp [meets, ghosts, St.le, St.get, look, keys, PV.labs, labsL, lookB, Blk.labs, INP, wTried]⟩
      · exact ⟨[], _, rfl, by simp [meets, ghosts, St.le, St.get, look, keys, PV.labs, labsL, lookB, Blk.labs, INP, wTried]⟩
      · exact ⟨[], _, rfl, by simp [meets, ghosts, St.le, St.get, look, keys, PV.labs, labsL, lookB, Blk.labs, INP, wTried]⟩
      · exact trivial
    conv => whnf
    refine And.intro (fun s hs => ?_) ?_
    · simp only [inv14] at hs
      obtain rfl := hs
      (conv => whnf); repeat' (first | ((first | (refine And.intro ?_ ?_; focus exact Cl4) | refine Both.T (by exact rfl) ?_ | refine Both.F (by exact rfl) ?_ | refine Both.GT (by exact rfl) (by exact rfl) ?_ | refine Both.GF (by exact rfl) ?_ | refine Both.GN (by exact rfl) ?_); conv => whnf) | (refine is_spec _ _ _ ?_; conv => whnf) | (refine of_spec wTried 3 _ (Or.inl rfl) (by decide) (by unfold i64; decide) _ (fun zf lf tf zc lc tc hp => ?_); conv => whnf) | ((refine Both.mk ?_ ?_ <;> fail_if_success (intro _)) <;> conv => whnf))
      · exact ⟨[], _, rfl, by simp [meets, ghosts, St.le, St.get, look, keys, PV.labs, labsL, lookB, Blk.labs, INP, wTried]⟩
      · exact ⟨[], _, rfl, by simp [meets, ghosts, St.le, St.get, look, keys, PV.labs, labsL, lookB, Blk.labs, INP, wTried]⟩
      · exact ⟨[], _, rfl, by simp [meets, ghosts, St.le, St.get, look, keys, PV.labs, labsL, lookB, Blk.labs, INP, wTried]⟩
      · exact trivial
    conv => whnf
    refine And.intro (fun s hs => ?_) ?_
    · simp only [inv14] at hs
      obtain rfl := hs
      (conv => whnf); repeat' (first | ((first | (refine And.intro ?_ ?_; focus exact Cl4) | refine Both.T (by exact rfl) ?_ | refine Both.F (by exact rfl) ?_ | refine Both.GT (by exact rfl) (by exact rfl) ?_ | refine Both.GF (by exact rfl) ?_ | refine Both.GN (by exact rfl) ?_); conv => whnf) | (refine is_spec _ _ _ ?_; conv => whnf) | (refine of_spec wTried 3 _ (Or.inl rfl) (by decide) (by unfold i64; decide) _ (fun zf lf tf zc lc tc hp => ?_); conv => whnf) | ((refine Both.mk ?_ ?_ <;> fail_if_success (intro _)) <;> conv => whnf))
      · exact ⟨[], _, rfl, by simp [meets, ghosts, St.le, St.get, look, keys, PV.labs, labsL, lookB, Blk.labs, INP, wTried]⟩
      · exact ⟨[], _, rfl, by simp [meets, ghosts, St.le, St.get, look, keys, PV.labs, labsL, lookB, Blk.labs, INP, wTried]⟩
      · exact ⟨[], _, rfl, by simp [meets, ghosts, St.le, St.get, look, keys, PV.labs, labsL, lookB, Blk.labs, INP, wTried]⟩
      · exact trivial
    conv => whnf
    refine And.intro (fun s hs => ?_) ?_
    · simp only [inv14] at hs
      obtain rfl := hs
      (conv => whnf); repeat' (first | ((first | (refine And.intro ?_ ?_; focus exact Cl4) | refine Both.T (by exact rfl) ?_ | refine Both.F (by exact rfl) ?_ | refine Both.GT (by exact rfl) (by exact rfl) ?_ | refine Both.GF (by exact rfl) ?_ | refine Both.GN (by exact rfl) ?_); conv => whnf) | (refine is_spec _ _ _ ?_; conv => whnf) | (refine of_spec wTried 3 _ (Or.inl rfl) (by decide) (by unfold i64; decide) _ (fun zf lf tf zc lc tc hp => ?_); conv => whnf) | ((refine Both.mk ?_ ?_ <;> fail_if_success (intro _)) <;> conv => whnf))
      · exact ⟨[], _, rfl, by simp [meets, ghosts, St.le, St.get, look, keys, PV.labs, labsL, lookB, Blk.labs, INP, wTried]⟩
      · exact ⟨[], _, rfl, by simp [meets, ghosts, St.le, St.get, look, keys, PV.labs, labsL, lookB, Blk.labs, INP, wTried]⟩
      · exact ⟨[], _, rfl, by simp [meets, ghosts, St.le, St.get, look, keys, PV.labs, labsL, lookB, Blk.labs, INP, wTried]⟩
      · exact trivial
    conv => whnf
    refine And.intro (fun s hs => ?_) ?_
    · simp only [inv14] at hs
      obtain rfl := hs
      (conv => whnf); repeat' (first | ((first | (refine And.intro ?_ ?_; focus exact Cl4) | refine Both.T (by exact rfl) ?_ | refine Both.F (by exact rfl) ?_ | refine Both.GT (by exact rfl) (by exact rfl) ?_ | refine Both.GF (by exact rfl) ?_ | refine Both.GN (by exact rfl) ?_); conv => whnf) | (refine is_spec _ _ _ ?_; conv => whnf) | (refine of_spec wTried 3 _ (Or.inl rfl) (by decide) (by unfold i64; decide) _ (fun zf lf tf zc lc tc hp => ?_); conv => whnf) | ((refine Both.mk ?_ ?_ <;> fail_if_success (intro _)) <;> conv => whnf))
      · exact ⟨[], _, rfl, by simp [meets, ghosts, St.le, St.get, look, keys, PV.labs, labsL, lookB, Blk.labs, INP, wTried]⟩
      · exact ⟨[], _, rfl, by simp [meets, ghosts, St.le, St.get, look, keys, PV.labs, labsL, lookB, Blk.labs, INP, wTried]⟩
      · exact trivial
    conv => whnf
    refine And.intro (fun s hs => ?_) ?_
    · simp only [inv14] at hs
      obtain rfl := hs
      (conv => whnf); repeat' (first | ((first | (refine And.intro ?_ ?_; focus exact Cl4) | refine Both.T (by exact rfl) ?_ | refine Both.F (by exact rfl) ?_ | refine Both.GT (by exact rfl) (by exact rfl) ?_ | refine Both.GF (by exact rfl) ?_ | refine Both.GN (by exact rfl) ?_); conv => whnf) | (refine is_spec _ _ _ ?_; conv => whnf) | (refine of_spec wTried 3 _ (Or.inl rfl) (by decide) (by unfold i64; decide) _ (fun zf lf tf zc lc tc hp => ?_); conv => whnf) | ((refine Both.mk ?_ ?_ <;> fail_if_success (intro _)) <;> conv => whnf))
      · exact ⟨[], _, rfl, by simp [meets, ghosts, St.le, St.get, look, keys, PV.labs, labsL, lookB, Blk.labs, INP, wTried]⟩
      · exact ⟨[], _, rfl, by simp [meets, ghosts, St.le, St.get, look, keys, PV.labs, labsL, lookB, Blk.labs, INP, wTried]⟩
      · exact trivial
    conv => whnf
    refine And.intro (fun s hs => ?_) ?_
    · simp only [inv14] at hs
      obtain rfl := hs
      (conv => whnf); repeat' (first | ((first | (refine And.intro ?_ ?_; focus exact Cl4) | refine Both.T (by exact rfl) ?_ | refine Both.F (by exact rfl) ?_ | refine Both.GT (by exact rfl) (by exact rfl) ?_ | refine Both.GF (by exact rfl) ?_ | refine Both.GN (by exact rfl) ?_); conv => whnf) | (refine is_spec _ _ _ ?_; conv => whnf) | (refine of_spec wTried 3 _ (Or.inl rfl) (by decide) (by unfold i64; decide) _ (fun zf lf tf zc lc tc hp => ?_); conv => whnf) | ((refine Both.mk ?_ ?_ <;> fail_if_success (intro _)) <;> conv => whnf))
      · exact ⟨[], _, rfl, by simp [meets, ghosts, St.le, St.get, look, keys, PV.labs, labsL, lookB, Blk.labs, INP, wTried]⟩
      · exact ⟨[], _, rfl, by simp [meets, ghosts, St.le, St.get, look, keys, PV.labs, labsL, lookB, Blk.labs, INP, wTried]⟩
      · exact trivial
    conv => whnf
    refine And.intro (fun s hs => ?_) ?_
    · simp only [inv14] at hs
      obtain rfl := hs
      (conv => whnf); repeat' (first | ((first | (refine And.intro ?_ ?_; focus exact Cl4) | refine Both.T (by exact rfl) ?_ | refine Both.F (by exact rfl) ?_ | refine Both.GT (by exact rfl) (by exact rfl) ?_ | refine Both.GF (by exact rfl) ?_ | refine Both.GN (by exact rfl) ?_); conv => whnf) | (refine is_spec _ _ _ ?_; conv => whnf) | (refine of_spec wTried 3 _ (Or.inl rfl) (by decide) (by unfold i64; decide) _ (fun zf lf tf zc lc tc hp => ?_); conv => whnf) | ((refine Both.mk ?_ ?_ <;> fail_if_success (intro _)) <;> conv => whnf))
      · exact ⟨[], _, rfl, by simp [meets, ghosts, St.le, St.get, look, keys, PV.labs, labsL, lookB, Blk.labs, INP, wTried]⟩
      · exact ⟨[], _, rfl, by simp [meets, ghosts, St.le, St.get, look, keys, PV.labs, labsL, lookB, Blk.labs, INP, wTried]⟩
      · exact trivial
    conv => whnf
    refine And.intro (fun s hs => ?_) ?_
    · simp only [inv14] at hs
      obtain rfl := hs
      (conv => whnf); repeat' (first | ((first | (refine And.intro ?_ ?_; focus exact Cl4) | refine Both.T (by exact rfl) ?_ | refine Both.F (by exact rfl) ?_ | refine Both.GT (by exact rfl) (by exact rfl) ?_ | refine Both.GF (by exact rfl) ?_ | refine Both.GN (by exact rfl) ?_); conv => whnf) | (refine is_spec _ _ _ ?_; conv => whnf) | (refine of_spec wTried 3 _ (Or.inl rfl) (by decide) (by unfold i64; decide) _ (fun zf lf tf zc lc tc hp => ?_); conv => whnf) | ((refine Both.mk ?_ ?_ <;> fail_if_success (intro _)) <;> conv => whnf))
      · exact ⟨[], _, rfl, by simp [meets, ghosts, St.le, St.get, look, keys, PV.labs, labsL, lookB, Blk.labs, INP, wTried]⟩
      · exact ⟨[], _, rfl, by simp [meets, ghosts, St.le, St.get, look, keys, PV.labs, labsL, lookB, Blk.labs, INP, wTried]⟩
      · exact trivial
    conv => whnf
    refine And.intro (fun s hs => ?_) ?_
    · simp only [inv14] at hs
      obtain rfl := hs
      (conv => whnf); repeat' (first | ((first | (refine And.intro ?_ ?_; focus exact Cl4) | refine Both.T (by exact rfl) ?_ | refine Both.F (by exact rfl) ?_ | refine Both.GT (by exact rfl) (by exact rfl) ?_ | refine Both.GF (by exact rfl) ?_ | refine Both.GN (by exact rfl) ?_); conv => whnf) | (refine is_spec _ _ _ ?_; conv => whnf) | (refine of_spec wTried 3 _ (Or.inl rfl) (by decide) (by unfold i64; decide) _ (fun zf lf tf zc lc tc hp => ?_); conv => whnf) | ((refine Both.mk ?_ ?_ <;> fail_if_success (intro _)) <;> conv => whnf))
      · exact ⟨[], _, rfl, by simp [meets, ghosts, St.le, St.get, look, keys, PV.labs, labsL, lookB, Blk.labs, INP, wTried]⟩
      · exact ⟨[], _, rfl, by simp [meets, ghosts, St.le, St.get, look, keys, PV.labs, labsL, lookB, Blk.labs, INP, wTried]⟩
      · exact trivial
    conv => whnf
    refine And.intro (fun s hs => ?_) ?_
    · simp only [inv14] at hs
      obtain rfl := hs
      (conv => whnf); repeat' (first | ((first | (refine And.intro ?_ ?_; focus exact Cl4) | refine Both.T (by exact rfl) ?_ | refine Both.F (by exact rfl) ?_ | refine Both.GT (by exact rfl) (by exact rfl) ?_ | refine Both.GF (by exact rfl) ?_ | refine Both.GN (by exact rfl) ?_); conv => whnf) | (refine is_spec _ _ _ ?_; conv => whnf) | (refine of_spec wTried 3 _ (Or.inl rfl) (by decide) (by unfold i64; decide) _ (fun zf lf tf zc lc tc hp => ?_); conv => whnf) | ((refine Both.mk ?_ ?_ <;> fail_if_success (intro _)) <;> conv => whnf))
      · exact ⟨[], _, rfl, by simp [meets, ghosts, St.le, St.get, look, keys, PV.labs, labsL, lookB, Blk.labs, INP, wTried]⟩
      · exact ⟨[], _, rfl, by simp [meets, ghosts, St.le, St.get, look, keys, PV.labs, labsL, lookB, Blk.labs, INP, wTried]⟩
      · exact trivial
    conv => whnf
    refine And.intro (fun s hs => ?_) ?_
    · simp only [inv14] at hs
      obtain rfl := hs
      (conv => whnf); repeat' (first | ((first | (refine And.intro ?_ ?_; focus exact Cl4) | refine Both.T (by exact rfl) ?_ | refine Both.F (by exact rfl) ?_ | refine Both.GT (by exact rfl) (by exact rfl) ?_ | refine Both.GF (by exact rfl) ?_ | refine Both.GN (by exact rfl) ?_); conv => whnf) | (refine is_spec _ _ _ ?_; conv => whnf) | (refine of_spec wTried 3 _ (Or.inl rfl) (by decide) (by unfold i64; decide) _ (fun zf lf tf zc lc tc hp => ?_); conv => whnf) | ((refine Both.mk ?_ ?_ <;> fail_if_success (intro _)) <;> conv => whnf))
      · exact ⟨[], _, rfl, by simp [meets, ghosts, St.le, St.get, look, keys, PV.labs, labsL, lookB, Blk.labs, INP, wTried]⟩
      · exact ⟨[], _, rfl, by simp [meets, ghosts, St.le, St.get, look, keys, PV.labs, labsL, lookB, Blk.labs, INP, wTried]⟩
      · exact trivial
    conv => whnf
    refine And.intro (fun s hs => ?_) ?_
    · simp only [inv14] at hs
      obtain rfl := hs
      (conv => whnf); repeat' (first | ((first | (refine And.intro ?_ ?_; focus exact Cl4) | refine Both.T (by exact rfl) ?_ | refine Both.F (by exact rfl) ?_ | refine Both.GT (by exact rfl) (by exact rfl) ?_ | refine Both.GF (by exact rfl) ?_ | refine Both.GN (by exact rfl) ?_); conv => whnf) | (refine is_spec _ _ _ ?_; conv => whnf) | (refine of_spec wTried 3 _ (Or.inl rfl) (by decide) (by unfold i64; decide) _ (fun zf lf tf zc lc tc hp => ?_); conv => whnf) | ((refine Both.mk ?_ ?_ <;> fail_if_success (intro _)) <;> conv => whnf))
      · exact ⟨[], _, rfl, by simp [meets, ghosts, St.le, St.get, look, keys, PV.labs, labsL, lookB, Blk.labs, INP, wTried]⟩
      · exact ⟨[], _, rfl, by simp [meets, ghosts, St.le, St.get, look, keys, PV.labs, labsL, lookB, Blk.labs, INP, wTried]⟩
      · exact trivial
    conv => whnf
    refine And.intro (fun s hs => ?_) ?_
    · simp only [inv14] at hs
      obtain rfl := hs
      (conv => whnf); repeat' (first | ((first | (refine And.intro ?_ ?_; focus exact Cl4) | refine Both.T (by exact rfl) ?_ | refine Both.F (by exact rfl) ?_ | refine Both.GT (by exact rfl) (by exact rfl) ?_ | refine Both.GF (by exact rfl) ?_ | refine Both.GN (by exact rfl) ?_); conv => whnf) | (refine is_spec _ _ _ ?_; conv => whnf) | (refine of_spec wTried 3 _ (Or.inl rfl) (by decide) (by unfold i64; decide) _ (fun zf lf tf zc lc tc hp => ?_); conv => whnf) | ((refine Both.mk ?_ ?_ <;> fail_if_success (intro _)) <;> conv => whnf))
      · exact ⟨[], _, rfl, by simp [meets, ghosts, St.le, St.get, look, keys, PV.labs, labsL, lookB, Blk.labs, INP, wTried]⟩
      · exact ⟨[], _, rfl, by simp [meets, ghosts, St.le, St.get, look, keys, PV.labs, labsL, lookB, Blk.labs, INP, wTried]⟩
      · exact trivial
    conv => whnf
    refine And.intro (fun s hs => ?_) ?_
    · simp only [inv14] at hs
      obtain rfl := hs
      (conv => whnf); repeat' (first | ((first | (refine And.intro ?_ ?_; focus exact Cl4) | refine Both.T (by exact rfl) ?_ | refine Both.F (by exact rfl) ?_ | refine Both.GT (by exact rfl) (by exact rfl) ?_ | refine Both.GF (by exact rfl) ?_ | refine Both.GN (by exact rfl) ?_); conv => whnf) | (refine is_spec _ _ _ ?_; conv => whnf) | (refine of_spec wTried 3 _ (Or.inl rfl) (by decide) (by unfold i64; decide) _ (fun zf lf tf zc lc tc hp => ?_); conv => whnf) | ((refine Both.mk ?_ ?_ <;> fail_if_success (intro _)) <;> conv => whnf))
      · exact ⟨[], _, rfl, by simp [meets, ghosts, St.le, St.get, look, keys, PV.labs, labsL, lookB, Blk.labs, INP, wTried]⟩
      · exact ⟨[], _, rfl, by simp [meets, ghosts, St.le, St.get, look, keys, PV.labs, labsL, lookB, Blk.labs, INP, wTried]⟩
      · exact trivial
    conv => whnf
    refine And.intro (fun s hs => ?_) ?_
    · simp only [inv14] at hs
      obtain rfl := hs
      (conv => whnf); repeat' (first | ((first | (refine And.intro ?_ ?_; focus exact Cl4) | refine Both.T (by exact rfl) ?_ | refine Both.F (by exact rfl) ?_ | refine Both.GT (by exact rfl) (by exact rfl) ?_ | refine Both.GF (by exact rfl) ?_ | refine Both.GN (by exact rfl) ?_); conv => whnf) | (refine is_spec _ _ _ ?_; conv => whnf) | (refine of_spec wTried 3 _ (Or.inl rfl) (by decide) (by unfold i64; decide) _ (fun zf lf tf zc lc tc hp => ?_); conv => whnf) | ((refine Both.mk ?_ ?_ <;> fail_if_success (intro _)) <;> conv => whnf))
      · exact ⟨[], _, rfl, by simp [meets, ghosts, St.le, St.get, look, keys, PV.labs, labsL, lookB, Blk.labs, INP, wTried]⟩
      · exact ⟨[], _, rfl, by simp [meets, ghosts, St.le, St.get, look, keys, PV.labs, labsL, lookB, Blk.labs, INP, wTried]⟩
      · exact trivial
    conv => whnf
    refine And.intro (fun s hs => ?_) ?_
    · simp only [inv14] at hs
      obtain rfl := hs
      (conv => whnf); repeat' (first | ((first | (refine And.intro ?_ ?_; focus exact Cl4) | refine Both.T (by exact rfl) ?_ | refine Both.F (by exact rfl) ?_ | refine Both.GT (by exact rfl) (by exact rfl) ?_ | refine Both.GF (by exact rfl) ?_ | refine Both.GN (by exact rfl) ?_); conv => whnf) | (refine is_spec _ _ _ ?_; conv => whnf) | (refine of_spec wTried 3 _ (Or.inl rfl) (by decide) (by unfold i64; decide) _ (fun zf lf tf zc lc tc hp => ?_); conv => whnf) | ((refine Both.mk ?_ ?_ <;> fail_if_success (intro _)) <;> conv => whnf))
      · exact ⟨[], _, rfl, by simp [meets, ghosts, St.le, St.get, look, keys, PV.labs, labsL, lookB, Blk.labs, INP, wTried]⟩
      · exact ⟨[], _, rfl, by simp [meets, ghosts, St.le, St.get, look, keys, PV.labs, labsL, lookB, Blk.labs, INP, wTried]⟩
      · exact trivial
    conv => whnf
    refine And.intro (fun s hs => ?_) ?_
    · simp only [inv14] at hs
      obtain rfl := hs
      (conv => whnf); repeat' (first | ((first | (refine And.intro ?_ ?_; focus exact Cl4) | refine Both.T (by exact rfl) ?_ | refine Both.F (by exact rfl) ?_ | refine Both.GT (by exact rfl) (by exact rfl) ?_ | refine Both.GF (by exact rfl) ?_ | refine Both.GN (by exact rfl) ?_); conv => whnf) | (refine is_spec _ _ _ ?_; conv => whnf) | (refine of_spec wTried 3 _ (Or.inl rfl) (by decide) (by unfold i64; decide) _ (fun zf lf tf zc lc tc hp => ?_); conv => whnf) | ((refine Both.mk ?_ ?_ <;> fail_if_success (intro _)) <;> conv => whnf))
      · exact ⟨[], _, rfl, by simp [meets, ghosts, St.le, St.get, look, keys, PV.labs, labsL, lookB, Blk.labs, INP, wTried]⟩
      · exact ⟨[], _, rfl, by simp [meets, ghosts, St.le, St.get, look, keys, PV.labs, labsL, lookB, Blk.labs, INP, wTried]⟩
      · exact trivial
    conv => whnf
    refine And.intro (fun s hs => ?_) ?_
    · simp only [inv14] at hs
      obtain rfl := hs
      (conv => whnf); repeat' (first | ((first | (refine And.intro ?_ ?_; focus exact Cl4) | refine Both.T (by exact rfl) ?_ | refine Both.F (by exact rfl) ?_ | refine Both.GT (by exact rfl) (by exact rfl) ?_ | refine Both.GF (by exact rfl) ?_ | refine Both.GN (by exact rfl) ?_); conv => whnf) | (refine is_spec _ _ _ ?_; conv => whnf) | (refine of_spec wTried 3 _ (Or.inl rfl) (by decide) (by unfold i64; decide) _ (fun zf lf tf zc lc tc hp => ?_); conv => whnf) | ((refine Both.mk ?_ ?_ <;> fail_if_success (intro _)) <;> conv => whnf))
      · exact ⟨[], _, rfl, by simp [meets, ghosts, St.le, St.get, look, keys, PV.labs, labsL, lookB, Blk.labs, INP, wTried]⟩
      · exact trivial
    conv => whnf
    refine And.intro (fun s hs => ?_) ?_
    · simp only [inv14] at hs
      obtain rfl := hs
      (conv => whnf); repeat' (first | ((first | (refine And.intro ?_ ?_; focus exact Cl4) | refine Both.T (by exact rfl) ?_ | refine Both.F (by exact rfl) ?_ | refine Both.GT (by exact rfl) (by exact rfl) ?_ | refine Both.GF (by exact rfl) ?_ | refine Both.GN (by exact rfl) ?_); conv => whnf) | (refine is_spec _ _ _ ?_; conv => whnf) | (refine of_spec wTried 3 _ (Or.inl rfl) (by decide) (by unfold i64; decide) _ (fun zf lf tf zc lc tc hp => ?_); conv => whnf) | ((refine Both.mk ?_ ?_ <;> fail_if_success (intro _)) <;> conv => whnf))
      · exact ⟨[], _, rfl, by simp [meets, ghosts, St.le, St.get, look, keys, PV.labs, labsL, lookB, Blk.labs, INP, wTried]⟩
      · exact ⟨[], _, rfl, by simp [meets, ghosts, St.le, St.get, look, keys, PV.labs, labsL, lookB, Blk.labs, INP, wTried]⟩
      · exact trivial
    conv => whnf
    refine And.intro (fun s hs => ?_) ?_
    · simp only [inv14] at hs
      obtain rfl := hs
      (conv => whnf); repeat' (first | ((first | (refine And.intro ?_ ?_; focus exact Cl4) | refine Both.T (by exact rfl) ?_ | refine Both.F (by exact rfl) ?_ | refine Both.GT (by exact rfl) (by exact rfl) ?_ | refine Both.GF (by exact rfl) ?_ | refine Both.GN (by exact rfl) ?_); conv => whnf) | (refine is_spec _ _ _ ?_; conv => whnf) | (refine of_spec wTried 3 _ (Or.inl rfl) (by decide) (by unfold i64; decide) _ (fun zf lf tf zc lc tc hp => ?_); conv => whnf) | ((refine Both.mk ?_ ?_ <;> fail_if_success (intro _)) <;> conv => whnf))
      · exact ⟨[], _, rfl, by simp [meets, ghosts, St.le, St.get, look, keys, PV.labs, labsL, lookB, Blk.labs, INP, wTried]⟩
      · exact trivial
    conv => whnf
    refine And.intro (fun s hs => ?_) ?_
    · simp only [inv14] at hs
      obtain rfl := hs
      (conv => whnf); repeat' (first | ((first | (refine And.intro ?_ ?_; focus exact Cl4) | refine Both.T (by exact rfl) ?_ | refine Both.F (by exact rfl) ?_ | refine Both.GT (by exact rfl) (by exact rfl) ?_ | refine Both.GF (by exact rfl) ?_ | refine Both.GN (by exact rfl) ?_); conv => whnf) | (refine is_spec _ _ _ ?_; conv => whnf) | (refine of_spec wTried 3 _ (Or.inl rfl) (by decide) (by unfold i64; decide) _ (fun zf lf tf zc lc tc hp => ?_); conv => whnf) | ((refine Both.mk ?_ ?_ <;> fail_if_success (intro _)) <;> conv => whnf))
      · exact ⟨[], _, rfl, by simp [meets, ghosts, St.le, St.get, look, keys, PV.labs, labsL, lookB, Blk.labs, INP, wTried]⟩
      · exact trivial
    conv => whnf
    refine And.intro (fun s hs => ?_) ?_
    · simp only [inv14] at hs
      obtain rfl := hs
      (conv => whnf); repeat' (first | ((first | (refine And.intro ?_ ?_; focus exact Cl4) | refine Both.T (by exact rfl) ?_ | refine Both.F (by exact rfl) ?_ | refine Both.GT (by exact rfl) (by exact rfl) ?_ | refine Both.GF (by exact rfl) ?_ | refine Both.GN (by exact rfl) ?_); conv => whnf) | (refine is_spec _ _ _ ?_; conv => whnf) | (refine of_spec wTried 3 _ (Or.inl rfl) (by decide) (by unfold i64; decide) _ (fun zf lf tf zc lc tc hp => ?_); conv => whnf) | ((refine Both.mk ?_ ?_ <;> fail_if_success (intro _)) <;> conv => whnf))
      · exact ⟨[], _, rfl, by simp [meets, ghosts, St.le, St.get, look, keys, PV.labs, labsL, lookB, Blk.labs, INP, wTried]⟩
      · exact trivial
    conv => whnf
    refine And.intro (fun s hs => ?_) ?_
    · simp only [inv14] at hs
      obtain rfl := hs
      (conv => whnf); repeat' (first | ((first | (refine And.intro ?_ ?_; focus exact Cl4) | refine Both.T (by exact rfl) ?_ | refine Both.F (by exact rfl) ?_ | refine Both.GT (by exact rfl) (by exact rfl) ?_ | refine Both.GF (by exact rfl) ?_ | refine Both.GN (by exact rfl) ?_); conv => whnf) | (refine is_spec _ _ _ ?_; conv => whnf) | (refine of_spec wTried 3 _ (Or.inl rfl) (by decide) (by unfold i64; decide) _ (fun zf lf tf zc lc tc hp => ?_); conv => whnf) | ((refine Both.mk ?_ ?_ <;> fail_if_success (intro _)) <;> conv => whnf))
      · exact ⟨[], _, rfl, by simp [meets, ghosts, St.le, St.get, look, keys, PV.labs, labsL, lookB, Blk.labs, INP, wTried]⟩
      · exact trivial
    conv => whnf
    refine And.intro (fun s hs => ?_) ?_
    · simp only [inv14] at hs
      obtain rfl := hs
      (conv => whnf); repeat' (first | ((first | (refine And.intro ?_ ?_; focus exact Cl4) | refine Both.T (by exact rfl) ?_ | refine Both.F (by exact rfl) ?_ | refine Both.GT (by exact rfl) (by exact rfl) ?_ | refine Both.GF (by exact rfl) ?_ | refine Both.GN (by exact rfl) ?_); conv => whnf) | (refine is_spec _ _ _ ?_; conv => whnf) | (refine of_spec wTried 3 _ (Or.inl rfl) (by decide) (by unfold i64; decide) _ (fun zf lf tf zc lc tc hp => ?_); conv => whnf) | ((refine Both.mk ?_ ?_ <;> fail_if_success (intro _)) <;> conv => whnf))
      · exact ⟨[], _, ⟨zf, lf, tf, zc, lc, tc, hp, rfl⟩, by simp [meets, ghosts, St.le, St.get, look, keys, PV.labs, labsL, lookB, Blk.labs, INP, wTried]⟩
      · exact ⟨[], _, Or.inl rfl, by simp [meets, ghosts, St.le, St.get, look, keys, PV.labs, labsL, lookB, Blk.labs, INP, wTried]⟩
      · exact trivial
    conv => whnf
    refine And.intro (fun s hs => ?_) ?_
    · simp only [inv14] at hs
      obtain rfl := hs
      (conv => whnf); repeat' (first | ((first | (refine And.intro ?_ ?_; focus exact Cl4) | refine Both.T (by exact rfl) ?_ | refine Both.F (by exact rfl) ?_ | refine Both.GT (by exact rfl) (by exact rfl) ?_ | refine Both.GF (by exact rfl) ?_ | refine Both.GN (by exact rfl) ?_); conv => whnf) | (refine is_spec _ _ _ ?_; conv => whnf) | (refine of_spec wTried 3 _ (Or.inl rfl) (by decide) (by unfold i64; decide) _ (fun zf lf tf zc lc tc hp => ?_); conv => whnf) | ((refine Both.mk ?_ ?_ <;> fail_if_success (intro _)) <;> conv => whnf))
      · exact ⟨[], _, Or.inr rfl, by simp [meets, ghosts, St.le, St.get, look, keys, PV.labs, labsL, lookB, Blk.labs, INP, wTried]⟩
      · exact trivial
    conv => whnf
    refine And.intro (fun s hs => ?_) ?_
    · simp only [inv14] at hs
      obtain ⟨zf, lf, tf, zc, lc, tc, hp, rfl⟩ := hs
      (conv => whnf); repeat' (first | ((first | (refine And.intro ?_ ?_; focus exact Cl4) | refine Both.T (by exact rfl) ?_ | refine Both.F (by exact rfl) ?_ | refine Both.GT (by exact rfl) (by exact rfl) ?_ | refine Both.GF (by exact rfl) ?_ | refine Both.GN (by exact rfl) ?_); conv => whnf) | (refine is_spec _ _ _ ?_; conv => whnf) | (refine of_spec wTried 3 _ (Or.inl rfl) (by decide) (by unfold i64; decide) _ (fun zf lf tf zc lc tc hp => ?_); conv => whnf) | ((refine Both.mk ?_ ?_ <;> fail_if_success (intro _)) <;> conv => whnf))
      · exact ⟨[], _, ⟨zf, lf, tf, zc, lc, tc, hp, Or.inl rfl⟩, by simp [meets, ghosts, St.le, St.get, look, keys, PV.labs, labsL, lookB, Blk.labs, INP, wTried]⟩
      · exact trivial
    conv => whnf
    refine And.intro (fun s hs => ?_) ?_
    · simp only [inv14] at hs
      obtain (rfl | rfl) := hs
      · (conv => whnf); repeat' (first | ((first | (refine And.intro ?_ ?_; focus exact Cl4) | refine Both.T (by exact rfl) ?_ | refine Both.F (by exact rfl) ?_ | refine Both.GT (by exact rfl) (by exact rfl) ?_ | refine Both.GF (by exact rfl) ?_ | refine Both.GN (by exact rfl) ?_); conv => whnf) | (refine is_spec _ _ _ ?_; conv => whnf) | (refine of_spec wTried 3 _ (Or.inl rfl) (by decide) (by unfold i64; decide) _ (fun zf lf tf zc lc tc hp => ?_); conv => whnf) | ((refine Both.mk ?_ ?_ <;> fail_if_success (intro _)) <;> conv => whnf))
        · exact ⟨[], _, ⟨zf, lf, tf, zc, lc, tc, hp, Or.inr rfl⟩, by simp [meets, ghosts, St.le, St.get, look, keys, PV.labs, labsL, lookB, Blk.labs, INP, wTried]⟩
        · exact trivial
      · (conv => whnf); repeat' (first | ((first | (refine And.intro ?_ ?_; focus exact Cl4) | refine Both.T (by exact rfl) ?_ | refine Both.F (by exact rfl) ?_ | refine Both.GT (by exact rfl) (by exact rfl) ?_ | refine Both.GF (by exact rfl) ?_ | refine Both.GN (by exact rfl) ?_); conv => whnf) | (refine is_spec _ _ _ ?_; conv => whnf) | (refine of_spec wTried 3 _ (Or.inl rfl) (by decide) (by unfold i64; decide) _ (fun zf lf tf zc lc tc hp => ?_); conv => whnf) | ((refine Both.mk ?_ ?_ <;> fail_if_success (intro _)) <;> conv => whnf))
        · exact ⟨[], _, ⟨zf, lf, tf, zc, lc, tc, hp, Or.inl rfl⟩, by simp [meets, ghosts, St.le, St.get, look, keys, PV.labs, labsL, lookB, Blk.labs, INP, wTried]⟩
        · exact trivial
    conv => whnf
    refine And.intro (fun s hs => ?_) ?_
    · simp only [inv14] at hs
      obtain ⟨zf, lf, tf, zc, lc, tc, hp, (rfl | rfl)⟩ := hs
      · exact trivial
      · exact trivial
    conv => whnf
    exact trivial
  · simp only [inv14, List.length_cons, List.length_nil] at hs
    obtain ⟨zf, lf, tf, zc, lc, tc, hp, rfl | rfl⟩ := hs
    · (conv => whnf); repeat ((first | (refine And.intro ?_ ?_; focus exact Cl4) | refine Both.T (by exact rfl) ?_ | refine Both.F (by exact rfl) ?_ | refine Both.GT (by exact rfl) (by exact rfl) ?_ | refine Both.GF (by exact rfl) ?_ | refine Both.GN (by exact rfl) ?_); conv => whnf)
      refine verf_spec hF (ofP wTried) 0 zf lf tf zc lc tc hp _ (fun e he => ?_) (fun pl L he hWs => ?_)
      · rw [w1] at he; cases he
      rw [w1] at he
      cases he
      have hLl := hWs.len
      have hLl2 : (L.length : Int) = 5 := by rw [hLl]; rfl
      obtain ⟨y2, u2, o2, e2, g2⟩ := hWs.at_ 2 (by decide)
      obtain ⟨y3, u3, o3, e3, _⟩ := hWs.at_ 3 (by decide)
      obtain rfl : y2 = 2 := g2.resolve_right (by simp)
      have e2 : nth L (Int.toNat 2) = .agg [.bool true, .int .i64 1, .sl 2 (tps [(4, 0)]) u2 o2] := e2
      have e3 : nth L (Int.toNat 3) = .agg [.bool true, .int .i64 1, .sl y3 (tps []) u3 o3] := e3
      (conv => whnf); repeat' (first | ((first | (refine And.intro ?_ ?_; focus exact Cl4) | refine Both.T (by exact rfl) ?_ | refine Both.F (by exact rfl) ?_ | refine Both.GT (by exact rfl) (by exact rfl) ?_ | refine Both.GF (by exact rfl) ?_ | refine Both.GN (by exact rfl) ?_); conv => whnf) | (rw [hLl2]; conv => whnf) | (rw [e2]; conv => whnf) | (rw [e3]; conv => whnf) | ((refine Both.mk ?_ ?_ <;> fail_if_success (intro _)) <;> conv => whnf))
      refine ⟨Unit, fun _ => ⟨79, [(53, .ref 1 3 0 5), (52, .cond true (.agg (pgc zf lf tf zc lc tc))), (51, .bool true), (3, .ptr 2 0), (2, .ptr 1 0), (1, .ptr 0 0)], [(3, .row 3 1 (ints [0, 0, 1, 1, 1]) false), (2, .box (pgc zf lf tf zc lc tc)), (1, .box [.int .i64 30, .int .i64 0, .int .i64 0]), (0, .box [.int .i64 1, .int .i64 0, .int .i64 0])], []⟩, fun _ => True, ?_, fun _ _ => ?_⟩
      · (conv => whnf); repeat' (first | ((first | (refine And.intro ?_ ?_; focus exact Cl4) | refine Both.T (by exact rfl) ?_ | refine Both.F (by exact rfl) ?_ | refine Both.GT (by exact rfl) (by exact rfl) ?_ | refine Both.GF (by exact rfl) ?_ | refine Both.GN (by exact rfl) ?_); conv => whnf) | (fail; conv => whnf) | ((refine Both.mk ?_ ?_ <;> fail_if_success (intro _)) <;> conv => whnf))
        all_goals (
          refine ⟨[], (), trivial, ?_⟩
          refine ⟨rfl, ?_, ?_, ?_, ?_, rfl, ?_⟩ <;> simp [St.get, look, keys, PV.labs, labsL, lookB, Blk.labs, ints])
      conv => (arg 4; dsimp only)
      (conv => whnf); repeat ((first | (refine And.intro ?_ ?_; focus exact Cl4) | refine Both.T (by exact rfl) ?_ | refine Both.F (by exact rfl) ?_ | refine Both.GT (by exact rfl) (by exact rfl) ?_ | refine Both.GF (by exact rfl) ?_ | refine Both.GN (by exact rfl) ?_); conv => whnf)
      refine heights_spec hF (ofP wTried) [0, 0, 1, 1, 1] lTried 1 false (Or.inl rfl) (by decide) zf lf tf zc lc tc hp h1 _ ?_
      (conv => whnf); repeat ((first | (refine And.intro ?_ ?_; focus exact Cl4) | refine Both.T (by exact rfl) ?_ | refine Both.F (by exact rfl) ?_ | refine Both.GT (by exact rfl) (by exact rfl) ?_ | refine Both.GF (by exact rfl) ?_ | refine Both.GN (by exact rfl) ?_); conv => whnf)
      refine ⟨Unit, fun _ => ⟨79, [(64, .bool true), (3, .ptr 2 0), (2, .ptr 1 0), (1, .ptr 0 0)], [(2, .box (pgc zf lf tf zc lc tc)), (1, .box [.int .i64 30, .int .i64 0, .int .i64 0]), (0, .box [.int .i64 1, .int .i64 0, .int .i64 0])], []⟩, fun _ => True, ?_, fun _ _ => ?_⟩
      · (conv => whnf)
        refine ⟨inv14b2 zf lf tf zc lc tc, ⟨[], _, rfl, ?_⟩, ?_, fun s hs => ?_⟩
        · refine ⟨rfl, ?_, ?_, ?_, ?_, rfl, ?_⟩ <;> simp [St.get, look, keys, PV.labs, labsL, lookB, Blk.labs]
        · (conv => whnf)
          refine And.intro (fun s hs => ?_) ?_
          · simp only [inv14b2] at hs
            obtain rfl := hs
            (conv => whnf); repeat' (first | ((first | (refine And.intro ?_ ?_; focus exact Cl4) | refine Both.T (by exact rfl) ?_ | refine Both.F (by exact rfl) ?_ | refine Both.GT (by exact rfl) (by exact rfl) ?_ | refine Both.GF (by exact rfl) ?_ | refine Both.GN (by exact rfl) ?_); conv => whnf) | (refine of_spec wOne 3 _ (Or.inl rfl) (by decide) (by unfold i64; decide) _ (fun zf lf tf zc lc tc hp => ?_); conv => whnf) | ((refine Both.mk ?_ ?_ <;> fail_if_success (intro _)) <;> conv => whnf))
            · exact ⟨[], _, rfl, by simp [meets, ghosts, St.le, St.get, look, keys, PV.labs, labsL, lookB, Blk.labs, INP, wOne, ints]⟩
            · exact ⟨[], _, rfl, by simp [meets, ghosts, St.le, St.get, look, keys, PV.labs, labsL, lookB, Blk.labs, INP, wOne, ints]⟩
            · exact ⟨[], _, rfl, by simp [meets, ghosts, St.le, St.get, look, keys, PV.labs, labsL, lookB, Blk.labs, INP, wOne, ints]⟩
            · exact trivial
          conv => whnf
          refine And.intro (fun s hs => ?_) ?_
          · simp only [inv14b2] at hs
            obtain rfl := hs
            (conv => whnf); repeat' (first | ((first | (refine And.intro ?_ ?_; focus exact Cl4) | refine Both.T (by exact rfl) ?_ | refine Both.F (by exact rfl) ?_ | refine Both.GT (by exact rfl) (by exact rfl) ?_ | refine Both.GF (by exact rfl) ?_ | refine Both.GN (by exact rfl) ?_); conv => whnf) | (refine of_spec wOne 3 _ (Or.inl rfl) (by decide) (by unfold i64; decide) _ (fun zf lf tf zc lc tc hp => ?_); conv => whnf) | ((refine Both.mk ?_ ?_ <;> fail_if_success (intro _)) <;> conv => whnf))
            · exact ⟨[], _, rfl, by simp [meets, ghosts, St.le, St.get, look, keys, PV.labs, labsL, lookB, Blk.labs, INP, wOne, ints]⟩
            · exact ⟨[], _, rfl, by simp [meets, ghosts, St.le, St.get, look, keys, PV.labs, labsL, lookB, Blk.labs, INP, wOne, ints]⟩
            · exact trivial
          conv => whnf
          refine And.intro (fun s hs => ?_) ?_
          · simp only [inv14b2] at hs
            obtain rfl := hs
            (conv => whnf); repeat' (first | ((first | (refine And.intro ?_ ?_; focus exact Cl4) | refine Both.T (by exact rfl) ?_ | refine Both.F (by exact rfl) ?_ | refine Both.GT (by exact rfl) (by exact rfl) ?_ | refine Both.GF (by exact rfl) ?_ | refine Both.GN (by exact rfl) ?_); conv => whnf) | (refine of_spec wOne 3 _ (Or.inl rfl) (by decide) (by unfold i64; decide) _ (fun zf lf tf zc lc tc hp => ?_); conv => whnf) | ((refine Both.mk ?_ ?_ <;> fail_if_success (intro _)) <;> conv => whnf))
            · exact ⟨[], _, rfl, by simp [meets, ghosts, St.le, St.get, look, keys, PV.labs, labsL, lookB, Blk.labs, INP, wOne, ints]⟩
            · exact ⟨[], _, rfl, by simp [meets, ghosts, St.le, St.get, look, keys, PV.labs, labsL, lookB, Blk.labs, INP, wOne, ints]⟩
            · exact trivial
          conv => whnf
          refine And.intro (fun s hs => ?_) ?_
          · simp only [inv14b2] at hs
            obtain rfl := hs
            (conv => whnf); repeat' (first | ((first | (refine And.intro ?_ ?_; focus exact Cl4) | refine Both.T (by exact rfl) ?_ | refine Both.F (by exact rfl) ?_ | refine Both.GT (by exact rfl) (by exact rfl) ?_ | refine Both.GF (by exact rfl) ?_ | refine Both.GN (by exact rfl) ?_); conv => whnf) | (refine of_spec wOne 3 _ (Or.inl rfl) (by decide) (by unfold i64; decide) _ (fun zf lf tf zc lc tc hp => ?_); conv => whnf) | ((refine Both.mk ?_ ?_ <;> fail_if_success (intro _)) <;> conv => whnf))
            · exact ⟨[], _, rfl, by simp [meets, ghosts, St.le, St.get, look, keys, PV.labs, labsL, lookB, Blk.labs, INP, wOne, ints]⟩
            · exact ⟨[], _, rfl, by simp [meets, ghosts, St.le, St.get, look, keys, PV.labs, labsL, lookB, Blk.labs, INP, wOne, ints]⟩
            · exact trivial
          conv => whnf
          refine And.intro (fun s hs => ?_) ?_
          · simp only [inv14b2] at hs
            obtain rfl := hs
            (conv => whnf); repeat' (first | ((first | (refine And.intro ?_ ?_; focus exact Cl4) | refine Both.T (by exact rfl) ?_ | refine Both.F (by exact rfl) ?_ | refine Both.GT (by exact rfl) (by exact rfl) ?_ | refine Both.GF (by exact rfl) ?_ | refine Both.GN (by exact rfl) ?_); conv => whnf) | (refine of_spec wOne 3 _ (Or.inl rfl) (by decide) (by unfold i64; decide) _ (fun zf lf tf zc lc tc hp => ?_); conv => whnf) | ((refine Both.mk ?_ ?_ <;> fail_if_success (intro _)) <;> conv => whnf))
            · exact ⟨[], _, rfl, by simp [meets, ghosts, St.le, St.get, look, keys, PV.labs, labsL, lookB, Blk.labs, INP, wOne, ints]⟩
            · exact ⟨[], _, rfl, by simp [meets, ghosts, St.le, St.get, look, keys, PV.labs, labsL, lookB, Blk.labs, INP, wOne, ints]⟩
            · exact trivial
          conv => whnf
          refine And.intro (fun s hs => ?_) ?_
          · simp only [inv14b2] at hs
            obtain rfl := hs
            (conv => whnf); repeat' (first | ((first | (refine And.intro ?_ ?_; focus exact Cl4) | refine Both.T (by exact rfl) ?_ | refine Both.F (by exact rfl) ?_ | refine Both.GT (by exact rfl) (by exact rfl) ?_ | refine Both.GF (by exact rfl) ?_ | refine Both.GN (by exact rfl) ?_); conv => whnf) | (refine of_spec wOne 3 _ (Or.inl rfl) (by decide) (by unfold i64; decide) _ (fun zf lf tf zc lc tc hp => ?_); conv => whnf) | ((refine Both.mk ?_ ?_ <;> fail_if_success (intro _)) <;> conv => whnf))
            · exact ⟨[], _, rfl, by simp [meets, ghosts, St.le, St.get, look, keys, PV.labs, labsL, lookB, Blk.labs, INP, wOne, ints]⟩
            · exact trivial
          conv => whnf
          refine And.intro (fun s hs => ?_) ?_
          · simp only [inv14b2] at hs
            obtain rfl := hs
            (conv => whnf); repeat' (first | ((first | (refine And.intro ?_ ?_; focus exact Cl4) | refine Both.T (by exact rfl) ?_ | refine Both.F (by exact rfl) ?_ | refine Both.GT (by exact rfl) (by exact rfl) ?_ | refine Both.GF (by exact rfl) ?_ | refine Both.GN (by exact rfl) ?_); conv => whnf) | (refine of_spec wOne 3 _ (Or.inl rfl) (by decide) (by unfold i64; decide) _ (fun zf lf tf zc lc tc hp => ?_); conv => whnf) | ((refine Both.mk ?_ ?_ <;> fail_if_success (intro _)) <;> conv => whnf))
            · exact ⟨[], _, rfl, by simp [meets, ghosts, St.le, St.get, look, keys, PV.labs, labsL, lookB, Blk.labs, INP, wOne, ints]⟩
            · exact trivial
          conv => whnf
          refine And.intro (fun s hs => ?_) ?_
          · simp only [inv14b2] at hs
            obtain rfl := hs
            (conv => whnf); repeat' (first | ((first | (refine And.intro ?_ ?_; focus exact Cl4) | refine Both.T (by exact rfl) ?_ | refine Both.F (by exact rfl) ?_ | refine Both.GT (by exact rfl) (by exact rfl) ?_ | refine Both.GF (by exact rfl) ?_ | refine Both.GN (by exact rfl) ?_); conv => whnf) | (refine of_spec wOne 3 _ (Or.inl rfl) (by decide) (by unfold i64; decide) _ (fun zf lf tf zc lc tc hp => ?_); conv => whnf) | ((refine Both.mk ?_ ?_ <;> fail_if_success (intro _)) <;> conv => whnf))
            · exact ⟨[], _, ⟨zf, lf, tf, zc, lc, tc, hp, rfl⟩, by simp [meets, ghosts, St.le, St.get, look, keys, PV.labs, labsL, lookB, Blk.labs, INP, wOne, ints]⟩
            · exact ⟨[], _, Or.inl rfl, by simp [meets, ghosts, St.le, St.get, look, keys, PV.labs, labsL, lookB, Blk.labs, INP, wOne, ints]⟩
            · exact trivial
          conv => whnf
          refine And.intro (fun s hs => ?_) ?_
          · simp only [inv14b2] at hs
            obtain rfl := hs
            (conv => whnf); repeat' (first | ((first | (refine And.intro ?_ ?_; focus exact Cl4) | refine Both.T (by exact rfl) ?_ | refine Both.F (by exact rfl) ?_ | refine Both.GT (by exact rfl) (by exact rfl) ?_ | refine Both.GF (by exact rfl) ?_ | refine Both.GN (by exact rfl) ?_); conv => whnf) | (refine of_spec wOne 3 _ (Or.inl rfl) (by decide) (by unfold i64; decide) _ (fun zf lf tf zc lc tc hp => ?_); conv => whnf) | ((refine Both.mk ?_ ?_ <;> fail_if_success (intro _)) <;> conv => whnf))
            · exact ⟨[], _, Or.inr rfl, by simp [meets, ghosts, St.le, St.get, look, keys, PV.labs, labsL, lookB, Blk.labs, INP, wOne, ints]⟩
            · exact trivial
          conv => whnf
          refine And.intro (fun s hs => ?_) ?_
          · simp only [inv14b2] at hs
            obtain ⟨zf, lf, tf, zc, lc, tc, hp, rfl⟩ := hs
            (conv => whnf); repeat' (first | ((first | (refine And.intro ?_ ?_; focus exact Cl4) | refine Both.T (by exact rfl) ?_ | refine Both.F (by exact rfl) ?_ | refine Both.GT (by exact rfl) (by exact rfl) ?_ | refine Both.GF (by exact rfl) ?_ | refine Both.GN (by exact rfl) ?_); conv => whnf) | (refine of_spec wOne 3 _ (Or.inl rfl) (by decide) (by unfold i64; decide) _ (fun zf lf tf zc lc tc hp => ?_); conv => whnf) | ((refine Both.mk ?_ ?_ <;> fail_if_success (intro _)) <;> conv => whnf))
            · exact ⟨[], _, ⟨zf, lf, tf, zc, lc, tc, hp, Or.inl rfl⟩, by simp [meets, ghosts, St.le, St.get, look, keys, PV.labs, labsL, lookB, Blk.labs, INP, wOne, ints]⟩
            · exact trivial
          conv => whnf
          refine And.intro (fun s hs => ?_) ?_
          · simp only [inv14b2] at hs
            obtain (rfl | rfl) := hs
            · (conv => whnf); repeat' (first | ((first | (refine And.intro ?_ ?_; focus exact Cl4) | refine Both.T (by exact rfl) ?_ | refine Both.F (by exact rfl) ?_ | refine Both.GT (by exact rfl) (by exact rfl) ?_ | refine Both.GF (by exact rfl) ?_ | refine Both.GN (by exact rfl) ?_); conv => whnf) | (refine of_spec wOne 3 _ (Or.inl rfl) (by decide) (by unfold i64; decide) _ (fun zf lf tf zc lc tc hp => ?_); conv => whnf) | ((refine Both.mk ?_ ?_ <;> fail_if_success (intro _)) <;> conv => whnf))
              · exact ⟨[], _, ⟨zf, lf, tf, zc, lc, tc, hp, Or.inr rfl⟩, by simp [meets, ghosts, St.le, St.get, look, keys, PV.labs, labsL, lookB, Blk.labs, INP, wOne, ints]⟩
              · exact trivial
            · (conv => whnf); repeat' (first | ((first | (refine And.intro ?_ ?_; focus exact Cl4) | refine Both.T (by exact rfl) ?_ | refine Both.F (by exact rfl) ?_ | refine Both.GT (by exact rfl) (by exact rfl) ?_ | refine Both.GF (by exact rfl) ?_ | refine Both.GN (by exact rfl) ?_); conv => whnf) | (refine of_spec wOne 3 _ (Or.inl rfl) (by decide) (by unfold i64; decide) _ (fun zf lf tf zc lc tc hp => ?_); conv => whnf) | ((refine Both.mk ?_ ?_ <;> fail_if_success (intro _)) <;> conv => whnf))
              · exact ⟨[], _, ⟨zf, lf, tf, zc, lc, tc, hp, Or.inl rfl⟩, by simp [meets, ghosts, St.le, St.get, look, keys, PV.labs, labsL, lookB, Blk.labs, INP, wOne, ints]⟩
              · exact trivial
          conv => whnf
          refine And.intro (fun s hs => ?_) ?_
          · simp only [inv14b2] at hs
            obtain ⟨zf, lf, tf, zc, lc, tc, hp, (rfl | rfl)⟩ := hs
            · exact trivial
            · exact trivial
          conv => whnf
          exact trivial
        · simp only [inv14b2, List.length_cons, List.length_nil] at hs
          obtain ⟨zf1, lf1, tf1, zc1, lc1, tc1, hp1, rfl | rfl⟩ := hs
          all_goals (
            (conv => whnf); repeat ((first | (refine And.intro ?_ ?_; focus exact Cl4) | refine Both.T (by exact rfl) ?_ | refine Both.F (by exact rfl) ?_ | refine Both.GT (by exact rfl) (by exact rfl) ?_ | refine Both.GF (by exact rfl) ?_ | refine Both.GN (by exact rfl) ?_); conv => whnf)
            refine heights_spec hF (ofP wOne) [0, 1] _ 1 false (Or.inl rfl) (by decide) zf1 lf1 tf1 zc1 lc1 tc1 hp1 h2 _ ?_
            (conv => whnf); repeat ((first | (refine And.intro ?_ ?_; focus exact Cl4) | refine Both.T (by exact rfl) ?_ | refine Both.F (by exact rfl) ?_ | refine Both.GT (by exact rfl) (by exact rfl) ?_ | refine Both.GF (by exact rfl) ?_ | refine Both.GN (by exact rfl) ?_); conv => whnf)
            refine ⟨[], (), trivial, ?_⟩
            refine ⟨rfl, ?_, ?_, ?_, ?_, rfl, ?_⟩ <;> simp [St.get, look, keys, PV.labs, labsL, lookB, Blk.labs])
      conv => (arg 4; dsimp only)
      (conv => whnf); repeat ((first | (refine And.intro ?_ ?_; focus exact Cl4) | refine Both.T (by exact rfl) ?_ | refine Both.F (by exact rfl) ?_ | refine Both.GT (by exact rfl) (by exact rfl) ?_ | refine Both.GF (by exact rfl) ?_ | refine Both.GN (by exact rfl) ?_); conv => whnf)
      refine ⟨Unit, fun _ => ⟨79, [(66, .cond true (INP ⟨30, 0, 0⟩)), (65, INP ⟨4, 0, 0⟩), (64, .bool true), (3, .ptr 2 0), (2, .ptr 1 0), (1, .ptr 0 0)], [(2, .box (pgc zf lf tf zc lc tc)), (1, .box [.int .i64 30, .int .i64 0, .int .i64 0]), (0, .box [.int .i64 1, .int .i64 0, .int .i64 0])], []⟩, fun _ => True, ?_, fun _ _ => ?_⟩
      · (conv => whnf); repeat' (first | ((first | (refine And.intro ?_ ?_; focus exact Cl4) | refine Both.T (by exact rfl) ?_ | refine Both.F (by exact rfl) ?_ | refine Both.GT (by exact rfl) (by exact rfl) ?_ | refine Both.GF (by exact rfl) ?_ | refine Both.GN (by exact rfl) ?_); conv => whnf) | (refine is_spec _ _ _ ?_; conv => whnf) | ((refine Both.mk ?_ ?_ <;> fail_if_success (intro _)) <;> conv => whnf))
        all_goals (
          refine ⟨[], (), trivial, ?_⟩
          refine ⟨rfl, ?_, ?_, ?_, ?_, rfl, ?_⟩ <;> simp [St.get, look, keys, PV.labs, labsL, lookB, Blk.labs, INP])
      conv => (arg 4; dsimp only)
      (conv => whnf); repeat ((first | (refine And.intro ?_ ?_; focus exact Cl4) | refine Both.T (by exact rfl) ?_ | refine Both.F (by exact rfl) ?_ | refine Both.GT (by exact rfl) (by exact rfl) ?_ | refine Both.GF (by exact rfl) ?_ | refine Both.GN (by exact rfl) ?_); conv => whnf)
      refine refused_spec hF wPop 3 false (Or.inl rfl) (by decide) (by unfold i64; decide) w3 w3p _ ?_
      (conv => whnf); repeat ((first | (refine And.intro ?_ ?_; focus exact Cl4) | refine Both.T (by exact rfl) ?_ | refine Both.F (by exact rfl) ?_ | refine Both.GT (by exact rfl) (by exact rfl) ?_ | refine Both.GF (by exact rfl) ?_ | refine Both.GN (by exact rfl) ?_); conv => whnf)
      refine ⟨inv14c2 zf lf tf zc lc tc, ⟨[], _, rfl, ?_⟩, ?_, fun s hs => ?_⟩
      · refine ⟨rfl, ?_, ?_, ?_, ?_, rfl, ?_⟩ <;> simp [St.get, look, keys, PV.labs, labsL, lookB, Blk.labs]
      · (conv => whnf)
        refine And.intro (fun s hs => ?_) ?_
        · simp only [inv14c2] at hs
          obtain rfl := hs
          (conv => whnf); repeat' (first | ((first | (refine And.intro ?_ ?_; focus exact Cl4) | refine Both.T (by exact rfl) ?_ | refine Both.F (by exact rfl) ?_ | refine Both.GT (by exact rfl) (by exact rfl) ?_ | refine Both.GF (by exact rfl) ?_ | refine Both.GN (by exact rfl) ?_); conv => whnf) | (refine is_spec _ _ _ ?_; conv => whnf) | (refine of_spec wAll 3 _ (Or.inl rfl) (by decide) (by unfold i64; decide) _ (fun zf lf tf zc lc tc hp => ?_); conv => whnf) | ((refine Both.mk ?_ ?_ <;> fail_if_success (intro _)) <;> conv => whnf))
          · exact ⟨[], _, rfl, by simp [meets, ghosts, St.le, St.get, look, keys, PV.labs, labsL, lookB, Blk.labs, INP, wAll, ints]⟩
          · exact ⟨[], _, rfl, by simp [meets, ghosts, St.le, St.get, look, keys, PV.labs, labsL, lookB, Blk.labs, INP, wAll, ints]⟩
          · exact ⟨[], _, rfl, by simp [meets, ghosts, St.le, St.get, look, keys, PV.labs, labsL, lookB, Blk.labs, INP, wAll, ints]⟩
          · exact ⟨[], _, rfl, by simp [meets, ghosts, St.le, St.get, look, keys, PV.labs, labsL, lookB, Blk.labs, INP, wAll, ints]⟩
          · exact trivial
        conv => whnf
        refine And.intro (fun s hs => ?_) ?_
        · simp only [inv14c2] at hs
          obtain rfl := hs
          (conv => whnf); repeat' (first | ((first | (refine And.intro ?_ ?_; focus exact Cl4) | refine Both.T (by exact rfl) ?_ | refine Both.F (by exact rfl) ?_ | refine Both.GT (by exact rfl) (by exact rfl) ?_ | refine Both.GF (by exact rfl) ?_ | refine Both.GN (by exact rfl) ?_); conv => whnf) | (refine is_spec _ _ _ ?_; conv => whnf) | (refine of_spec wAll 3 _ (Or.inl rfl) (by decide) (by unfold i64; decide) _ (fun zf lf tf zc lc tc hp => ?_); conv => whnf) | ((refine Both.mk ?_ ?_ <;> fail_if_success (intro _)) <;> conv => whnf))
          · exact ⟨[], _, rfl, by simp [meets, ghosts, St.le, St.get, look, keys, PV.labs, labsL, lookB, Blk.labs, INP, wAll, ints]⟩
          · exact ⟨[], _, rfl, by simp [meets, ghosts, St.le, St.get, look, keys, PV.labs, labsL, lookB, Blk.labs, INP, wAll, ints]⟩
          · exact ⟨[], _, rfl, by simp [meets, ghosts, St.le, St.get, look, keys, PV.labs, labsL, lookB, Blk.labs, INP, wAll, ints]⟩
          · exact trivial
        conv => whnf
        refine And.intro (fun s hs => ?_) ?_
        · simp only [inv14c2] at hs
          obtain rfl := hs
          (conv => whnf); repeat' (first | ((first | (refine And.intro ?_ ?_; focus exact Cl4) | refine Both.T (by exact rfl) ?_ | refine Both.F (by exact rfl) ?_ | refine Both.GT (by exact rfl) (by exact rfl) ?_ | refine Both.GF (by exact rfl) ?_ | refine Both.GN (by exact rfl) ?_); conv => whnf) | (refine is_spec _ _ _ ?_; conv => whnf) | (refine of_spec wAll 3 _ (Or.inl rfl) (by decide) (by unfold i64; decide) _ (fun zf lf tf zc lc tc hp => ?_); conv => whnf) | ((refine Both.mk ?_ ?_ <;> fail_if_success (intro _)) <;> conv => whnf))
          · exact ⟨[], _, rfl, by simp [meets, ghosts, St.le, St.get, look, keys, PV.labs, labsL, lookB, Blk.labs, INP, wAll, ints]⟩
          · exact ⟨[], _, rfl, by simp [meets, ghosts, St.le, St.get, look, keys, PV.labs, labsL, lookB, Blk.labs, INP, wAll, ints]⟩
          · exact ⟨[], _, rfl, by simp [meets, ghosts, St.le, St.get, look, keys, PV.labs, labsL, lookB, Blk.labs, INP, wAll, ints]⟩
          · exact trivial
        conv => whnf
        refine And.intro (fun s hs => ?_) ?_
        · simp only [inv14c2] at hs
          obtain rfl := hs
          (conv => whnf); repeat' (first | ((first | (refine And.intro ?_ ?_; focus exact Cl4) | refine Both.T (by exact rfl) ?_ | refine Both.F (by exact rfl) ?_ | refine Both.GT (by exact rfl) (by exact rfl) ?_ | refine Both.GF (by exact rfl) ?_ | refine Both.GN (by exact rfl) ?_); conv => whnf) | (refine is_spec _ _ _ ?_; conv => whnf) | (refine of_spec wAll 3 _ (Or.inl rfl) (by decide) (by unfold i64; decide) _ (fun zf lf tf zc lc tc hp => ?_); conv => whnf) | ((refine Both.mk ?_ ?_ <;> fail_if_success (intro _)) <;> conv => whnf))
          · exact ⟨[], _, rfl, by simp [meets, ghosts, St.le, St.get, look, keys, PV.labs, labsL, lookB, Blk.labs, INP, wAll, ints]⟩
          · exact ⟨[], _, rfl, by simp [meets, ghosts, St.le, St.get, look, keys, PV.labs, labsL, lookB, Blk.labs, INP, wAll, ints]⟩
          · exact ⟨[], _, rfl, by simp [meets, ghosts, St.le, St.get, look, keys, PV.labs, labsL, lookB, Blk.labs, INP, wAll, ints]⟩
          · exact trivial
        conv => whnf
        refine And.intro (fun s hs => ?_) ?_
        · simp only [inv14c2] at hs
          obtain rfl := hs
          (conv => whnf); repeat' (first | ((first | (refine And.intro ?_ ?_; focus exact Cl4) | refine Both.T (by exact rfl) ?_ | refine Both.F (by exact rfl) ?_ | refine Both.GT (by exact rfl) (by exact rfl) ?_ | refine Both.GF (by exact rfl) ?_ | refine Both.GN (by exact rfl) ?_); conv => whnf) | (refine is_spec _ _ _ ?_; conv => whnf) | (refine of_spec wAll 3 _ (Or.inl rfl) (by decide) (by unfold i64; decide) _ (fun zf lf tf zc lc tc hp => ?_); conv => whnf) | ((refine Both.mk ?_ ?_ <;> fail_if_success (intro _)) <;> conv => whnf))
          · exact ⟨[], _, rfl, by simp [meets, ghosts, St.le, St.get, look, keys, PV.labs, labsL, lookB, Blk.labs, INP, wAll, ints]⟩
          · exact ⟨[], _, rfl, by simp [meets, ghosts, St.le, St.get, look, keys, PV.labs, labsL, lookB, Blk.labs, INP, wAll, ints]⟩
          · exact ⟨[], _, rfl, by simp [meets, ghosts, St.le, St.get, look, keys, PV.labs, labsL, lookB, Blk.labs, INP, wAll, ints]⟩
          · exact trivial
        conv => whnf
        refine And.intro (fun s hs => ?_) ?_
        · simp only [inv14c2] at hs
          obtain rfl := hs
          (conv => whnf); repeat' (first | ((first | (refine And.intro ?_ ?_; focus exact Cl4) | refine Both.T (by exact rfl) ?_ | refine Both.F (by exact rfl) ?_ | refine Both.GT (by exact rfl) (by exact rfl) ?_ | refine Both.GF (by exact rfl) ?_ | refine Both.GN (by exact rfl) ?_); conv => whnf) | (refine is_spec _ _ _ ?_; conv => whnf) | (refine of_spec wAll 3 _ (Or.inl rfl) (by decide) (by unfold i64; decide) _ (fun zf lf tf zc lc tc hp => ?_); conv => whnf) | ((refine Both.mk ?_ ?_ <;> fail_if_success (intro _)) <;> conv => whnf))
          · exact ⟨[], _, rfl, by simp [meets, ghosts, St.le, St.get, look, keys, PV.labs, labsL, lookB, Blk.labs, INP, wAll, ints]⟩
          · exact ⟨[], _, rfl, by simp [meets, ghosts, St.le, St.get, look, keys, PV.labs, labsL, lookB, Blk.labs, INP, wAll, ints]⟩
          · exact trivial
        conv => whnf
        refine And.intro (fun s hs => ?_) ?_
        · simp only [inv14c2] at hs
          obtain rfl := hs
          (conv => whnf); repeat' (first | ((first | (refine And.intro ?_ ?_; focus exact Cl4) | refine Both.T (by exact rfl) ?_ | refine Both.F (by exact rfl) ?_ | refine Both.GT (by exact rfl) (by exact rfl) ?_ | refine Both.GF (by exact rfl) ?_ | refine Both.GN (by exact rfl) ?_); conv => whnf) | (refine is_spec _ _ _ ?_; conv => whnf) | (refine of_spec wAll 3 _ (Or.inl rfl) (by decide) (by unfold i64; decide) _ (fun zf lf tf zc lc tc hp => ?_); conv => whnf) | ((refine Both.mk ?_ ?_ <;> fail_if_success (intro _)) <;> conv => whnf))
          · exact ⟨[], _, rfl, by simp [meets, ghosts, St.le, St.get, look, keys, PV.labs, labsL, lookB, Blk.labs, INP, wAll, ints]⟩
          · exact ⟨[], _, rfl, by simp [meets, ghosts, St.le, St.get, look, keys, PV.labs, labsL, lookB, Blk.labs, INP, wAll, ints]⟩
          · exact trivial
        conv => whnf
        refine And.intro (fun s hs => ?_) ?_
        · simp only [inv14c2] at hs
          obtain rfl := hs
          (conv => whnf); repeat' (first | ((first | (refine And.intro ?_ ?_; focus exact Cl4) | refine Both.T (by exact rfl) ?_ | refine Both.F (by exact rfl) ?_ | refine Both.GT (by exact rfl) (by exact rfl) ?_ | refine Both.GF (by exact rfl) ?_ | refine Both.GN (by exact rfl) ?_); conv => whnf) | (refine is_spec _ _ _ ?_; conv => whnf) | (refine of_spec wAll 3 _ (Or.inl rfl) (by decide) (by unfold i64; decide) _ (fun zf lf tf zc lc tc hp => ?_); conv => whnf) | ((refine Both.mk ?_ ?_ <;> fail_if_success (intro _)) <;> conv => whnf))
          · exact ⟨[], _, rfl, by simp [meets, ghosts, St.le, St.get, look, keys, PV.labs, labsL, lookB, Blk.labs, INP, wAll, ints]⟩
          · exact ⟨[], _, rfl, by simp [meets, ghosts, St.le, St.get, look, keys, PV.labs, labsL, lookB, Blk.labs, INP, wAll, ints]⟩
          · exact trivial
        conv => whnf
        refine And.intro (fun s hs => ?_) ?_
        · simp only [inv14c2] at hs
          obtain rfl := hs
          (conv => whnf); repeat' (first | ((first | (refine And.intro ?_ ?_; focus exact Cl4) | refine Both.T (by exact rfl) ?_ | refine Both.F (by exact rfl) ?_ | refine Both.GT (by exact rfl) (by exact rfl) ?_ | refine Both.GF (by exact rfl) ?_ | refine Both.GN (by exact rfl) ?_); conv => whnf) | (refine is_spec _ _ _ ?_; conv => whnf) | (refine of_spec wAll 3 _ (Or.inl rfl) (by decide) (by unfold i64; decide) _ (fun zf lf tf zc lc tc hp => ?_); conv => whnf) | ((refine Both.mk ?_ ?_ <;> fail_if_success (intro _)) <;> conv => whnf))
          · exact ⟨[], _, rfl, by simp [meets, ghosts, St.le, St.get, look, keys, PV.labs, labsL, lookB, Blk.labs, INP, wAll, ints]⟩
          · exact ⟨[], _, rfl, by simp [meets, ghosts, St.le, St.get, look, keys, PV.labs, labsL, lookB, Blk.labs, INP, wAll, ints]⟩
          · exact trivial
        conv => whnf
        refine And.intro (fun s hs => ?_) ?_
        · simp only [inv14c2] at hs
          obtain rfl := hs
          (conv => whnf); repeat' (first | ((first | (refine And.intro ?_ ?_; focus exact Cl4) | refine Both.T (by exact rfl) ?_ | refine Both.F (by exact rfl) ?_ | refine Both.GT (by exact rfl) (by exact rfl) ?_ | refine Both.GF (by exact rfl) ?_ | refine Both.GN (by exact rfl) ?_); conv => whnf) | (refine is_spec _ _ _ ?_; conv => whnf) | (refine of_spec wAll 3 _ (Or.inl rfl) (by decide) (by unfold i64; decide) _ (fun zf lf tf zc lc tc hp => ?_); conv => whnf) | ((refine Both.mk ?_ ?_ <;> fail_if_success (intro _)) <;> conv => whnf))
          · exact ⟨[], _, rfl, by simp [meets, ghosts, St.le, St.get, look, keys, PV.labs, labsL, lookB, Blk.labs, INP, wAll, ints]⟩
          · exact ⟨[], _, rfl, by simp [meets, ghosts, St.le, St.get, look, keys, PV.labs, labsL, lookB, Blk.labs, INP, wAll, ints]⟩
          · exact trivial
        conv => whnf
        refine And.intro (fun s hs => ?_) ?_
        · simp only [inv14c2] at hs
          obtain rfl := hs
          (conv => whnf); repeat' (first | ((first | (refine And.intro ?_ ?_; focus exact Cl4) | refine Both.T (by exact rfl) ?_ | refine Both.F (by exact rfl) ?_ | refine Both.GT (by exact rfl) (by exact rfl) ?_ | refine Both.GF (by exact rfl) ?_ | refine Both.GN (by exact rfl) ?_); conv => whnf) | (refine is_spec _ _ _ ?_; conv => whnf) | (refine of_spec wAll 3 _ (Or.inl rfl) (by decide) (by unfold i64; decide) _ (fun zf lf tf zc lc tc hp => ?_); conv => whnf) | ((refine Both.mk ?_ ?_ <;> fail_if_success (intro _)) <;> conv => whnf))
          · exact ⟨[], _, rfl, by simp [meets, ghosts, St.le, St.get, look, keys, PV.labs, labsL, lookB, Blk.labs, INP, wAll, ints]⟩
          · exact ⟨[], _, rfl, by simp [meets, ghosts, St.le, St.get, look, keys, PV.labs, labsL, lookB, Blk.labs, INP, wAll, ints]⟩
          · exact trivial
        conv => whnf
        refine And.intro (fun s hs => ?_) ?_
        · simp only [inv14c2] at hs
          obtain rfl := hs
          (conv => whnf); repeat' (first | ((first | (refine And.intro ?_ ?_; focus exact Cl4) | refine Both.T (by exact rfl) ?_ | refine Both.F (by exact rfl) ?_ | refine Both.GT (by exact rfl) (by exact rfl) ?_ | refine Both.GF (by exact rfl) ?_ | refine Both.GN (by exact rfl) ?_); conv => whnf) | (refine is_spec _ _ _ ?_; conv => whnf) | (refine of_spec wAll 3 _ (Or.inl rfl) (by decide) (by unfold i64; decide) _ (fun zf lf tf zc lc tc hp => ?_); conv => whnf) | ((refine Both.mk ?_ ?_ <;> fail_if_success (intro _)) <;> conv => whnf))
          · exact ⟨[], _, rfl, by simp [meets, ghosts, St.le, St.get, look, keys, PV.labs, labsL, lookB, Blk.labs, INP, wAll, ints]⟩
          · exact ⟨[], _, rfl, by simp [meets, ghosts, St.le, St.get, look, keys, PV.labs, labsL, lookB, Blk.labs, INP, wAll, ints]⟩
          · exact trivial
        conv => whnf
        refine And.intro (fun s hs => ?_) ?_
        · simp only [inv14c2] at hs
          obtain rfl := hs
          (conv => whnf); repeat' (first | ((first | (refine And.intro ?_ ?_; focus exact Cl4) | refine Both.T (by exact rfl) ?_ | refine Both.F (by exact rfl) ?_ | refine Both.GT (by exact rfl) (by exact rfl) ?_ | refine Both.GF (by exact rfl) ?_ | refine Both.GN (by exact rfl) ?_); conv => whnf) | (refine is_spec _ _ _ ?_; conv => whnf) | (refine of_spec wAll 3 _ (Or.inl rfl) (by decide) (by unfold i64; decide) _ (fun zf lf tf zc lc tc hp => ?_); conv => whnf) | ((refine Both.mk ?_ ?_ <;> fail_if_success (intro _)) <;> conv => whnf))
          · exact ⟨[], _, rfl, by simp [meets, ghosts, St.le, St.get, look, keys, PV.labs, labsL, lookB, Blk.labs, INP, wAll, ints]⟩
          · exact trivial
        conv => whnf
        refine And.intro (fun s hs => ?_) ?_
        · simp only [inv14c2] at hs
          obtain rfl := hs
          (conv => whnf); repeat' (first | ((first | (refine And.intro ?_ ?_; focus exact Cl4) | refine Both.T (by exact rfl) ?_ | refine Both.F (by exact rfl) ?_ | refine Both.GT (by exact rfl) (by exact rfl) ?_ | refine Both.GF (by exact rfl) ?_ | refine Both.GN (by exact rfl) ?_); conv => whnf) | (refine is_spec _ _ _ ?_; conv => whnf) | (refine of_spec wAll 3 _ (Or.inl rfl) (by decide) (by unfold i64; decide) _ (fun zf lf tf zc lc tc hp => ?_); conv => whnf) | ((refine Both.mk ?_ ?_ <;> fail_if_success (intro _)) <;> conv => whnf))
          · exact ⟨[], _, rfl, by simp [meets, ghosts, St.le, St.get, look, keys, PV.labs, labsL, lookB, Blk.labs, INP, wAll, ints]⟩
          · exact trivial
        conv => whnf
        refine And.intro (fun s hs => ?_) ?_
        · simp only [inv14c2] at hs
          obtain rfl := hs
          (conv => whnf); repeat' (first | ((first | (refine And.intro ?_ ?_; focus exact Cl4) | refine Both.T (by exact rfl) ?_ | refine Both.F (by exact rfl) ?_ | refine Both.GT (by exact rfl) (by exact rfl) ?_ | refine Both.GF (by exact rfl) ?_ | refine Both.GN (by exact rfl) ?_); conv => whnf) | (refine is_spec _ _ _ ?_; conv => whnf) | (refine of_spec wAll 3 _ (Or.inl rfl) (by decide) (by unfold i64; decide) _ (fun zf lf tf zc lc tc hp => ?_); conv => whnf) | ((refine Both.mk ?_ ?_ <;> fail_if_success (intro _)) <;> conv => whnf))
          · exact ⟨[], _, rfl, by simp [meets, ghosts, St.le, St.get, look, keys, PV.labs, labsL, lookB, Blk.labs, INP, wAll, ints]⟩
          · exact trivial
        conv => whnf
        refine And.intro (fun s hs => ?_) ?_
        · simp only [inv14c2] at hs
          obtain rfl := hs
          (conv => whnf); repeat' (first | ((first | (refine And.intro ?_ ?_; focus exact Cl4) | refine Both.T (by exact rfl) ?_ | refine Both.F (by exact rfl) ?_ | refine Both.GT (by exact rfl) (by exact rfl) ?_ | refine Both.GF (by exact rfl) ?_ | refine Both.GN (by exact rfl) ?_); conv => whnf) | (refine is_spec _ _ _ ?_; conv => whnf) | (refine of_spec wAll 3 _ (Or.inl rfl) (by decide) (by unfold i64; decide) _ (fun zf lf tf zc lc tc hp => ?_); conv => whnf) | ((refine Both.mk ?_ ?_ <;> fail_if_success (intro _)) <;> conv => whnf))
          · exact ⟨[], _, ⟨zf, lf, tf, zc, lc, tc, hp, rfl⟩, by simp [meets, ghosts, St.le, St.get, look, keys, PV.labs, labsL, lookB, Blk.labs, INP, wAll, ints]⟩
          · exact ⟨[], _, Or.inl rfl, by simp [meets, ghosts, St.le, St.get, look, keys, PV.labs, labsL, lookB, Blk.labs, INP, wAll, ints]⟩
          · exact trivial
        conv => whnf
        refine And.intro (fun s hs => ?_) ?_
        · simp only [inv14c2] at hs
          obtain rfl := hs
          (conv => whnf); repeat' (first | ((first | (refine And.intro ?_ ?_; focus exact Cl4) | refine Both.T (by exact rfl) ?_ | refine Both.F (by exact rfl) ?_ | refine Both.GT (by exact rfl) (by exact rfl) ?_ | refine Both.GF (by exact rfl) ?_ | refine Both.GN (by exact rfl) ?_); conv => whnf) | (refine is_spec _ _ _ ?_; conv => whnf) | (refine of_spec wAll 3 _ (Or.inl rfl) (by decide) (by unfold i64; decide) _ (fun zf lf tf zc lc tc hp => ?_); conv => whnf) | ((refine Both.mk ?_ ?_ <;> fail_if_success (intro _)) <;> conv => whnf))
          · exact ⟨[], _, Or.inr rfl, by simp [meets, ghosts, St.le, St.get, look, keys, PV.labs, labsL, lookB, Blk.labs, INP, wAll, ints]⟩
          · exact trivial
        conv => whnf
        refine And.intro (fun s hs => ?_) ?_
        · simp only [inv14c2] at hs
          obtain ⟨zf, lf, tf, zc, lc, tc, hp, rfl⟩ := hs
          (conv => whnf); repeat' (first | ((first | (refine And.intro ?_ ?_; focus exact Cl4) | refine Both.T (by exact rfl) ?_ | refine Both.F (by exact rfl) ?_ | refine Both.GT (by exact rfl) (by exact rfl) ?_ | refine Both.GF (by exact rfl) ?_ | refine Both.GN (by exact rfl) ?_); conv => whnf) | (refine is_spec _ _ _ ?_; conv => whnf) | (refine of_spec wAll 3 _ (Or.inl rfl) (by decide) (by unfold i64; decide) _ (fun zf lf tf zc lc tc hp => ?_); conv => whnf) | ((refine Both.mk ?_ ?_ <;> fail_if_success (intro _)) <;> conv => whnf))
          · exact ⟨[], _, ⟨zf, lf, tf, zc, lc, tc, hp, Or.inl rfl⟩, by simp [meets, ghosts, St.le, St.get, look, keys, PV.labs, labsL, lookB, Blk.labs, INP, wAll, ints]⟩
          · exact trivial
        conv => whnf
        refine And.intro (fun s hs => ?_) ?_
        · simp only [inv14c2] at hs
          obtain (rfl | rfl) := hs
          · (conv => whnf); repeat' (first | ((first | (refine And.intro ?_ ?_; focus exact Cl4) | refine Both.T (by exact rfl) ?_ | refine Both.F (by exact rfl) ?_ | refine Both.GT (by exact rfl) (by exact rfl) ?_ | refine Both.GF (by exact rfl) ?_ | refine Both.GN (by exact rfl) ?_); conv => whnf) | (refine is_spec _ _ _ ?_; conv => whnf) | (refine of_spec wAll 3 _ (Or.inl rfl) (by decide) (by unfold i64; decide) _ (fun zf lf tf zc lc tc hp => ?_); conv => whnf) | ((refine Both.mk ?_ ?_ <;> fail_if_success (intro _)) <;> conv => whnf))
            · exact ⟨[], _, ⟨zf, lf, tf, zc, lc, tc, hp, Or.inr rfl⟩, by simp [meets, ghosts, St.le, St.get, look, keys, PV.labs, labsL, lookB, Blk.labs, INP, wAll, ints]⟩
            · exact trivial
          · (conv => whnf); repeat' (first | ((first | (refine And.intro ?_ ?_; focus exact Cl4) | refine Both.T (by exact rfl) ?_ | refine Both.F (by exact rfl) ?_ | refine Both.GT (by exact rfl) (by exact rfl) ?_ | refine Both.GF (by exact rfl) ?_ | refine Both.GN (by exact rfl) ?_); conv => whnf) | (refine is_spec _ _ _ ?_; conv => whnf) | (refine of_spec wAll 3 _ (Or.inl rfl) (by decide) (by unfold i64; decide) _ (fun zf lf tf zc lc tc hp => ?_); conv => whnf) | ((refine Both.mk ?_ ?_ <;> fail_if_success (intro _)) <;> conv => whnf))
            · exact ⟨[], _, ⟨zf, lf, tf, zc, lc, tc, hp, Or.inl rfl⟩, by simp [meets, ghosts, St.le, St.get, look, keys, PV.labs, labsL, lookB, Blk.labs, INP, wAll, ints]⟩
            · exact trivial
        conv => whnf
        refine And.intro (fun s hs => ?_) ?_
        · simp only [inv14c2] at hs
          obtain ⟨zf, lf, tf, zc, lc, tc, hp, (rfl | rfl)⟩ := hs
          · exact trivial
          · exact trivial
        conv => whnf
        exact trivial
      · simp only [inv14c2, List.length_cons, List.length_nil] at hs
        obtain ⟨zf2, lf2, tf2, zc2, lc2, tc2, hp2, rfl | rfl⟩ := hs
        all_goals (
          (conv => whnf); repeat ((first | (refine And.intro ?_ ?_; focus exact Cl4) | refine Both.T (by exact rfl) ?_ | refine Both.F (by exact rfl) ?_ | refine Both.GT (by exact rfl) (by exact rfl) ?_ | refine Both.GF (by exact rfl) ?_ | refine Both.GN (by exact rfl) ?_); conv => whnf)
          refine heights_spec hF (ofP wAll) [0, 1, -1] _ 1 false (Or.inl rfl) (by decide) zf2 lf2 tf2 zc2 lc2 tc2 hp2 h4 _ ?_
          (conv => whnf); repeat ((first | (refine And.intro ?_ ?_; focus exact Cl4) | refine Both.T (by exact rfl) ?_ | refine Both.F (by exact rfl) ?_ | refine Both.GT (by exact rfl) (by exact rfl) ?_ | refine Both.GF (by exact rfl) ?_ | refine Both.GN (by exact rfl) ?_); conv => whnf)
          exact h)
    · (conv => whnf); repeat ((first | (refine And.intro ?_ ?_; focus exact Cl4) | refine Both.T (by exact rfl) ?_ | refine Both.F (by exact rfl) ?_ | refine Both.GT (by exact rfl) (by exact rfl) ?_ | refine Both.GF (by exact rfl) ?_ | refine Both.GN (by exact rfl) ?_); conv => whnf)
      refine verf_spec hF (ofP wTried) 0 zf lf tf zc lc tc hp _ (fun e he => ?_) (fun pl L he hWs => ?_)
      · rw [w1] at he; cases he
      rw [w1] at he
      cases he
      have hLl := hWs.len
      have hLl2 : (L.length : Int) = 5 := by rw [hLl]; rfl
      obtain ⟨y2, u2, o2, e2, g2⟩ := hWs.at_ 2 (by decide)
      obtain ⟨y3, u3, o3, e3, _⟩ := hWs.at_ 3 (by decide)
      obtain rfl : y2 = 2 := g2.resolve_right (by simp)
      have e2 : nth L (Int.toNat 2) = .agg [.bool true, .int .i64 1, .sl 2 (tps [(4, 0)]) u2 o2] := e2
      have e3 : nth L (Int.toNat 3) = .agg [.bool true, .int .i64 1, .sl y3 (tps []) u3 o3] := e3
      (conv => whnf); repeat' (first | ((first | (refine And.intro ?_ ?_; focus exact Cl4) | refine Both.T (by exact rfl) ?_ | refine Both.F (by exact rfl) ?_ | refine Both.GT (by exact rfl) (by exact rfl) ?_ | refine Both.GF (by exact rfl) ?_ | refine Both.GN (by exact rfl) ?_); conv => whnf) | (rw [hLl2]; conv => whnf) | (rw [e2]; conv => whnf) | (rw [e3]; conv => whnf) | ((refine Both.mk ?_ ?_ <;> fail_if_success (intro _)) <;> conv => whnf))
      refine ⟨Unit, fun _ => ⟨79, [(53, .ref 1 4 0 5), (52, .cond true (.agg (pgc zf lf tf zc lc tc))), (51, .bool true), (3, .ptr 3 0), (2, .ptr 1 0), (1, .ptr 0 0)], [(4, .row 3 1 (ints [0, 0, 1, 1, 1]) false), (3, .box (pgc zf lf tf zc lc tc)), (1, .box [.int .i64 30, .int .i64 0, .int .i64 0]), (0, .box [.int .i64 1, .int .i64 0, .int .i64 0])], []⟩, fun _ => True, ?_, fun _ _ => ?_⟩
      · (conv => whnf); repeat' (first | ((first | (refine And.intro ?_ ?_; focus exact Cl4) | refine Both.T (by exact rfl) ?_ | refine Both.F (by exact rfl) ?_ | refine Both.GT (by exact rfl) (by exact rfl) ?_ | refine Both.GF (by exact rfl) ?_ | refine Both.GN (by exact rfl) ?_); conv => whnf) | (fail; conv => whnf) | ((refine Both.mk ?_ ?_ <;> fail_if_success (intro _)) <;> conv => whnf))
        all_goals (
          refine ⟨[], (), trivial, ?_⟩
          refine ⟨rfl, ?_, ?_, ?_, ?_, rfl, ?_⟩ <;> simp [St.get, look, keys, PV.labs, labsL, lookB, Blk.labs, ints])
      conv => (arg 4; dsimp only)
      (conv => whnf); repeat ((first | (refine And.intro ?_ ?_; focus exact Cl4) | refine Both.T (by exact rfl) ?_ | refine Both.F (by exact rfl) ?_ | refine Both.GT (by exact rfl) (by exact rfl) ?_ | refine Both.GF (by exact rfl) ?_ | refine Both.GN (by exact rfl) ?_); conv => whnf)
      refine heights_spec hF (ofP wTried) [0, 0, 1, 1, 1] lTried 1 false (Or.inl rfl) (by decide) zf lf tf zc lc tc hp h1 _ ?_
      (conv => whnf); repeat ((first | (refine And.intro ?_ ?_; focus exact Cl4) | refine Both.T (by exact rfl) ?_ | refine Both.F (by exact rfl) ?_ | refine Both.GT (by exact rfl) (by exact rfl) ?_ | refine Both.GF (by exact rfl) ?_ | refine Both.GN (by exact rfl) ?_); conv => whnf)
      refine ⟨Unit, fun _ => ⟨79, [(64, .bool true), (3, .ptr 3 0), (2, .ptr 1 0), (1, .ptr 0 0)], [(3, .box (pgc zf lf tf zc lc tc)), (1, .box [.int .i64 30, .int .i64 0, .int .i64 0]), (0, .box [.int .i64 1, .int .i64 0, .int .i64 0])], []⟩, fun _ => True, ?_, fun _ _ => ?_⟩
      · (conv => whnf)
        refine ⟨inv14b3 zf lf tf zc lc tc, ⟨[], _, rfl, ?_⟩, ?_, fun s hs => ?_⟩
        · refine ⟨rfl, ?_, ?_, ?_, ?_, rfl, ?_⟩ <;> simp [St.get, look, keys, PV.labs, labsL, lookB, Blk.labs]
        · (conv => whnf)
          refine And.intro (fun s hs => ?_) ?_
          · simp only [inv14b3] at hs
            obtain rfl := hs
            (conv => whnf); repeat' (first | ((first | (refine And.intro ?_ ?_; focus exact Cl4) | refine Both.T (by exact rfl) ?_ | refine Both.F (by exact rfl) ?_ | refine Both.GT (by exact rfl) (by exact rfl) ?_ | refine Both.GF (by exact rfl) ?_ | refine Both.GN (by exact rfl) ?_); conv => whnf) | (refine of_spec wOne 3 _ (Or.inl rfl) (by decide) (by unfold i64; decide) _ (fun zf lf tf zc lc tc hp => ?_); conv => whnf) | ((refine Both.mk ?_ ?_ <;> fail_if_success (intro _)) <;> conv => whnf))
            · exact ⟨[], _, rfl, by simp [meets, ghosts, St.le, St.get, look, keys, PV.labs, labsL, lookB, Blk.labs, INP, wOne, ints]⟩
            · exact ⟨[], _, rfl, by simp [meets, ghosts, St.le, St.get, look, keys, PV.labs, labsL, lookB, Blk.labs, INP, wOne, ints]⟩
            · exact ⟨[], _, rfl, by simp [meets, ghosts, St.le, St.get, look, keys, PV.labs, labsL, lookB, Blk.labs, INP, wOne, ints]⟩
            · exact trivial
          conv => whnf
          refine And.intro (fun s hs => ?_) ?_
          · simp only [inv14b3] at hs
            obtain rfl := hs
            (conv => whnf); repeat' (first | ((first | (refine And.intro ?_ ?_; focus exact Cl4) | refine Both.T (by exact rfl) ?_ | refine Both.F (by exact rfl) ?_ | refine Both.GT (by exact rfl) (by exact rfl) ?_ | refine Both.GF (by exact rfl) ?_ | refine Both.GN (by exact rfl) ?_); conv => whnf) | (refine of_spec wOne 3 _ (Or.inl rfl) (by decide) (by unfold i64; decide) _ (fun zf lf tf zc lc tc hp => ?_); conv => whnf) | ((refine Both.mk ?_ ?_ <;> fail_if_success (intro _)) <;> conv => whnf))
            · exact ⟨[], _, rfl, by simp [meets, ghosts, St.le, St.get, look, keys, PV.labs, labsL, lookB, Blk.labs, INP, wOne, ints]⟩
            · exact ⟨[], _, rfl, by simp [meets, ghosts, St.le, St.get, look, keys, PV.labs, labsL, lookB, Blk.labs, INP, wOne, ints]⟩
            · exact trivial
          conv => whnf
          refine And.intro (fun s hs => ?_) ?_
          · simp only [inv14b3] at hs
            obtain rfl := hs
            (conv => whnf); repeat' (first | ((first | (refine And.intro ?_ ?_; focus exact Cl4) | refine Both.T (by exact rfl) ?_ | refine Both.F (by exact rfl) ?_ | refine Both.GT (by exact rfl) (by exact rfl) ?_ | refine Both.GF (by exact rfl) ?_ | refine Both.GN (by exact rfl) ?_); conv => whnf) | (refine of_spec wOne 3 _ (Or.inl rfl) (by decide) (by unfold i64; decide) _ (fun zf lf tf zc lc tc hp => ?_); conv => whnf) | ((refine Both.mk ?_ ?_ <;> fail_if_success (intro _)) <;> conv => whnf))
            · exact ⟨[], _, rfl, by simp [meets, ghosts, St.le, St.get, look, keys, PV.labs, labsL, lookB, Blk.labs, INP, wOne, ints]⟩
            · exact ⟨[], _, rfl, by simp [meets, ghosts, St.le, St.get, look, keys, PV.labs, labsL, lookB, Blk.labs, INP, wOne, ints]⟩
            · exact trivial
          conv => whnf
          refine And.intro (fun s hs => ?_) ?_
          · simp only [inv14b3] at hs
            obtain rfl := hs
            (conv => whnf); repeat' (first | ((first | (refine And.intro ?_ ?_; focus exact Cl4) | refine Both.T (by exact rfl) ?_ | refine Both.F (by exact rfl) ?_ | refine Both.GT (by exact rfl) (by exact rfl) ?_ | refine Both.GF (by exact rfl) ?_ | refine Both.GN (by exact rfl) ?_); conv => whnf) | (refine of_spec wOne 3 _ (Or.inl rfl) (by decide) (by unfold i64; decide) _ (fun zf lf tf zc lc tc hp => ?_); conv => whnf) | ((refine Both.mk ?_ ?_ <;> fail_if_success (intro _)) <;> conv => whnf))
            · exact ⟨[], _, rfl, by simp [meets, ghosts, St.le, St.get, look, keys, PV.labs, labsL, lookB, Blk.labs, INP, wOne, ints]⟩
            · exact ⟨[], _, rfl, by simp [meets, ghosts, St.le, St.get, look, keys, PV.labs, labsL, lookB, Blk.labs, INP, wOne, ints]⟩
            · exact trivial
          conv => whnf
          refine And.intro (fun s hs => ?_) ?_
          · simp only [inv14b3] at hs
            obtain rfl := hs
            (conv => whnf); repeat' (first | ((first | (refine And.intro ?_ ?_; focus exact Cl4) | refine Both.T (by exact rfl) ?_ | refine Both.F (by exact rfl) ?_ | refine Both.GT (by exact rfl) (by exact rfl) ?_ | refine Both.GF (by exact rfl) ?_ | refine Both.GN (by exact rfl) ?_); conv => whnf) | (refine of_spec wOne 3 _ (Or.inl rfl) (by decide) (by unfold i64; decide) _ (fun zf lf tf zc lc tc hp => ?_); conv => whnf) | ((refine Both.mk ?_ ?_ <;> fail_if_success (intro _)) <;> conv => whnf))
            · exact ⟨[], _, rfl, by simp [meets, ghosts, St.le, St.get, look, keys, PV.labs, labsL, lookB, Blk.labs, INP, wOne, ints]⟩
            · exact ⟨[], _, rfl, by simp [meets, ghosts, St.le, St.get, look, keys, PV.labs, labsL, lookB, Blk.labs, INP, wOne, ints]⟩
            · exact trivial
          conv => whnf
          refine And.intro (fun s hs => ?_) ?_
          · simp only [inv14b3] at hs
            obtain rfl := hs
            (conv => whnf); repeat' (first | ((first | (refine And.intro ?_ ?_; focus exact Cl4) | refine Both.T (by exact rfl) ?_ | refine Both.F (by exact rfl) ?_ | refine Both.GT (by exact rfl) (by exact rfl) ?_ | refine Both.GF (by exact rfl) ?_ | refine Both.GN (by exact rfl) ?_); conv => whnf) | (refine of_spec wOne 3 _ (Or.inl rfl) (by decide) (by unfold i64; decide) _ (fun zf lf tf zc lc tc hp => ?_); conv => whnf) | ((refine Both.mk ?_ ?_ <;> fail_if_success (intro _)) <;> conv => whnf))
            · exact ⟨[], _, rfl, by simp [meets, ghosts, St.le, St.get, look, keys, PV.labs, labsL, lookB, Blk.labs, INP, wOne, ints]⟩
            · exact trivial
          conv => whnf
          refine And.intro (fun s hs => ?_) ?_
          · simp only [inv14b3] at hs
            obtain rfl := hs
            (conv => whnf); repeat' (first | ((first | (refine And.intro ?_ ?_; focus exact Cl4) | refine Both.T (by exact rfl) ?_ | refine Both.F (by exact rfl) ?_ | refine Both.GT (by exact rfl) (by exact rfl) ?_ | refine Both.GF (by exact rfl) ?_ | refine Both.GN (by exact rfl) ?_); conv => whnf) | (refine of_spec wOne 3 _ (Or.inl rfl) (by decide) (by unfold i64; decide) _ (fun zf lf tf zc lc tc hp => ?_); conv => whnf) | ((refine Both.mk ?_ ?_ <;> fail_if_success (intro _)) <;> conv => whnf))
            · exact ⟨[], _, rfl, by simp [meets, ghosts, St.le, St.get, look, keys, PV.labs, labsL, lookB, Blk.labs, INP, wOne, ints]⟩
            · exact trivial
          conv => whnf
          refine And.intro (fun s hs => ?_) ?_
          · simp only [inv14b3] at hs
            obtain rfl := hs
            (conv => whnf); repeat' (first | ((first | (refine And.intro ?_ ?_; focus exact Cl4) | refine Both.T (by exact rfl) ?_ | refine Both.F (by exact rfl) ?_ | refine Both.GT (by exact rfl) (by exact rfl) ?_ | refine Both.GF (by exact rfl) ?_ | refine Both.GN (by exact rfl) ?_); conv => whnf) | (refine of_spec wOne 3 _ (Or.inl rfl) (by decide) (by unfold i64; decide) _ (fun zf lf tf zc lc tc hp => ?_); conv => whnf) | ((refine Both.mk ?_ ?_ <;> fail_if_success (intro _)) <;> conv => whnf))
            · exact ⟨[], _, ⟨zf, lf, tf, zc, lc, tc, hp, rfl⟩, by simp [meets, ghosts, St.le, St.get, look, keys, PV.labs, labsL, lookB, Blk.labs, INP, wOne, ints]⟩
            · exact ⟨[], _, Or.inl rfl, by simp [meets, ghosts, St.le, St.get, look, keys, PV.labs, labsL, lookB, Blk.labs, INP, wOne, ints]⟩
            · exact trivial
          conv => whnf
          refine And.intro (fun s hs => ?_) ?_
          · simp only [inv14b3] at hs
            obtain rfl := hs
            (conv => whnf); repeat' (first | ((first | (refine And.intro ?_ ?_; focus exact Cl4) | refine Both.T (by exact rfl) ?_ | refine Both.F (by exact rfl) ?_ | refine Both.GT (by exact rfl) (by exact rfl) ?_ | refine Both.GF (by exact rfl) ?_ | refine Both.GN (by exact rfl) ?_); conv => whnf) | (refine of_spec wOne 3 _ (Or.inl rfl) (by decide) (by unfold i64; decide) _ (fun zf lf tf zc lc tc hp => ?_); conv => whnf) | ((refine Both.mk ?_ ?_ <;> fail_if_success (intro _)) <;> conv => whnf))
            · exact ⟨[], _, Or.inr rfl, by simp [meets, ghosts, St.le, St.get, look, keys, PV.labs, labsL, lookB, Blk.labs, INP, wOne, ints]⟩
            · exact trivial
          conv => whnf
          refine And.intro (fun s hs => ?_) ?_
          · simp only [inv14b3] at hs
            obtain ⟨zf, lf, tf, zc, lc, tc, hp, rfl⟩ := hs
            (conv => whnf); repeat' (first | ((first | (refine And.intro ?_ ?_; focus exact Cl4) | refine Both.T (by exact rfl) ?_ | refine Both.F (by exact rfl) ?_ | refine Both.GT (by exact rfl) (by exact rfl) ?_ | refine Both.GF (by exact rfl) ?_ | refine Both.GN (by exact rfl) ?_); conv => whnf) | (refine of_spec wOne 3 _ (Or.inl rfl) (by decide) (by unfold i64; decide) _ (fun zf lf tf zc lc tc hp => ?_); conv => whnf) | ((refine Both.mk ?_ ?_ <;> fail_if_success (intro _)) <;> conv => whnf))
            · exact ⟨[], _, ⟨zf, lf, tf, zc, lc, tc, hp, Or.inl rfl⟩, by simp [meets, ghosts, St.le, St.get, look, keys, PV.labs, labsL, lookB, Blk.labs, INP, wOne, ints]⟩
            · exact trivial
          conv => whnf
          refine And.intro (fun s hs => ?_) ?_
          · simp only [inv14b3] at hs
            obtain (rfl | rfl) := hs
            · (conv => whnf); repeat' (first | ((first | (refine And.intro ?_ ?_; focus exact Cl4) | refine Both.T (by exact rfl) ?_ | refine Both.F (by exact rfl) ?_ | refine Both.GT (by exact rfl) (by exact rfl) ?_ | refine Both.GF (by exact rfl) ?_ | refine Both.GN (by exact rfl) ?_); conv => whnf) | (refine of_spec wOne 3 _ (Or.inl rfl) (by decide) (by unfold i64; decide) _ (fun zf lf tf zc lc tc hp => ?_); conv => whnf) | ((refine Both.mk ?_ ?_ <;> fail_if_success (intro _)) <;> conv => whnf))
              · exact ⟨[], _, ⟨zf, lf, tf, zc, lc, tc, hp, Or.inr rfl⟩, by simp [meets, ghosts, St.le, St.get, look, keys, PV.labs, labsL, lookB, Blk.labs, INP, wOne, ints]⟩
              · exact trivial
            · (conv => whnf); repeat' (first | ((first | (refine And.intro ?_ ?_; focus exact Cl4) | refine Both.T (by exact rfl) ?_ | refine Both.F (by exact rfl) ?_ | refine Both.GT (by exact rfl) (by exact rfl) ?_ | refine Both.GF (by exact rfl) ?_ | refine Both.GN (by exact rfl) ?_); conv => whnf) | (refine of_spec wOne 3 _ (Or.inl rfl) (by decide) (by unfold i64; decide) _ (fun zf lf tf zc lc tc hp => ?_); conv => whnf) | ((refine Both.mk ?_ ?_ <;> fail_if_success (intro _)) <;> conv => whnf))
              · exact ⟨[], _, ⟨zf, lf, tf, zc, lc, tc, hp, Or.inl rfl⟩, by simp [meets, ghosts, St.le, St.get, look, keys, PV.labs, labsL, lookB, Blk.labs, INP, wOne, ints]⟩
              · exact trivial
          conv => whnf
          refine And.intro (fun s hs => ?_) ?_
          · simp only [inv14b3] at hs
            obtain ⟨zf, lf, tf, zc, lc, tc, hp, (rfl | rfl)⟩ := hs
            · exact trivial
            · exact trivial
          conv => whnf
          exact trivial
        · simp only [inv14b3, List.length_cons, List.length_nil] at hs
          obtain ⟨zf1, lf1, tf1, zc1, lc1, tc1, hp1, rfl | rfl⟩ := hs
          all_goals (
            (conv => whnf); repeat ((first | (refine And.intro ?_ ?_; focus exact Cl4) | refine Both.T (by exact rfl) ?_ | refine Both.F (by exact rfl) ?_ | refine Both.GT (by exact rfl) (by exact rfl) ?_ | refine Both.GF (by exact rfl) ?_ | refine Both.GN (by exact rfl) ?_); conv => whnf)
            refine heights_spec hF (ofP wOne) [0, 1] _ 1 false (Or.inl rfl) (by decide) zf1 lf1 tf1 zc1 lc1 tc1 hp1 h2 _ ?_
            (conv => whnf); repeat ((first | (refine And.intro ?_ ?_; focus exact Cl4) | refine Both.T (by exact rfl) ?_ | refine Both.F (by exact rfl) ?_ | refine Both.GT (by exact rfl) (by exact rfl) ?_ | refine Both.GF (by exact rfl) ?_ | refine Both.GN (by exact rfl) ?_); conv => whnf)
            refine ⟨[], (), trivial, ?_⟩
            refine ⟨rfl, ?_, ?_, ?_, ?_, rfl, ?_⟩ <;> simp [St.get, look, keys, PV.labs, labsL, lookB, Blk.labs])
      conv => (arg 4; dsimp only)
      (conv => whnf); repeat ((first | (refine And.intro ?_ ?_; focus exact Cl4) | refine Both.T (by exact rfl) ?_ | refine Both.F (by exact rfl) ?_ | refine Both.GT (by exact rfl) (by exact rfl) ?_ | refine Both.GF (by exact rfl) ?_ | refine Both.GN (by exact rfl) ?_); conv => whnf)
      refine ⟨Unit, fun _ => ⟨79, [(66, .cond true (INP ⟨30, 0, 0⟩)), (65, INP ⟨4, 0, 0⟩), (64, .bool true), (3, .ptr 3 0), (2, .ptr 1 0), (1, .ptr 0 0)], [(3, .box (pgc zf lf tf zc lc tc)), (1, .box [.int .i64 30, .int .i64 0, .int .i64 0]), (0, .box [.int .i64 1, .int .i64 0, .int .i64 0])], []⟩, fun _ => True, ?_, fun _ _ => ?_⟩
      · (conv => whnf); repeat' (first | ((first | (refine And.intro ?_ ?_; focus exact Cl4) | refine Both.T (by exact rfl) ?_ | refine Both.F (by exact rfl) ?_ | refine Both.GT (by exact rfl) (by exact rfl) ?_ | refine Both.GF (by exact rfl) ?_ | refine Both.GN (by exact rfl) ?_); conv => whnf) | (refine is_spec _ _ _ ?_; conv => whnf) | ((refine Both.mk ?_ ?_ <;> fail_if_success (intro _)) <;> conv => whnf))
        all_goals (
          refine ⟨[], (), trivial, ?_⟩
          refine ⟨rfl, ?_, ?_, ?_, ?_, rfl, ?_⟩ <;> simp [St.get, look, keys, PV.labs, labsL, lookB, Blk.labs, INP])
      conv => (arg 4; dsimp only)
      (conv => whnf); repeat ((first | (refine And.intro ?_ ?_; focus exact Cl4) | refine Both.T (by exact rfl) ?_ | refine Both.F (by exact rfl) ?_ | refine Both.GT (by exact rfl) (by exact rfl) ?_ | refine Both.GF (by exact rfl) ?_ | refine Both.GN (by exact rfl) ?_); conv => whnf)
      refine refused_spec hF wPop 3 false (Or.inl rfl) (by decide) (by unfold i64; decide) w3 w3p _ ?_
      (conv => whnf); repeat ((first | (refine And.intro ?_ ?_; focus exact Cl4) | refine Both.T (by exact rfl) ?_ | refine Both.F (by exact rfl) ?_ | refine Both.GT (by exact rfl) (by exact rfl) ?_ | refine Both.GF (by exact rfl) ?_ | refine Both.GN (by exact rfl) ?_); conv => whnf)
      refine ⟨inv14c3 zf lf tf zc lc tc, ⟨[], _, rfl, ?_⟩, ?_, fun s hs => ?_⟩
      · refine ⟨rfl, ?_, ?_, ?_, ?_, rfl, ?_⟩ <;> simp [St.get, look, keys, PV.labs, labsL, lookB, Blk.labs]
      · (conv => whnf)
        refine And.intro (fun s hs => ?_) ?_
        · simp only [inv14c3] at hs
          obtain rfl := hs
          (conv => whnf); repeat' (first | ((first | (refine And.intro ?_ ?_; focus exact Cl4) | refine Both.T (by exact rfl) ?_ | refine Both.F (by exact rfl) ?_ | refine Both.GT (by exact rfl) (by exact rfl) ?_ | refine Both.GF (by exact rfl) ?_ | refine Both.GN (by exact rfl) ?_); conv => whnf) | (refine is_spec _ _ _ ?_; conv => whnf) | (refine of_spec wAll 3 _ (Or.inl rfl) (by decide) (by unfold i64; decide) _ (fun zf lf tf zc lc tc hp => ?_); conv => whnf) | ((refine Both.mk ?_ ?_ <;> fail_if_success (intro _)) <;> conv => whnf))
          · exact ⟨[], _, rfl, by simp [meets, ghosts, St.le, St.get, look, keys, PV.labs, labsL, lookB, Blk.labs, INP, wAll, ints]⟩
          · exact ⟨[], _, rfl, by simp [meets, ghosts, St.le, St.get, look, keys, PV.labs, labsL, lookB, Blk.labs, INP, wAll, ints]⟩
          · exact ⟨[], _, rfl, by simp [meets, ghosts, St.le, St.get, look, keys, PV.labs, labsL, lookB, Blk.labs, INP, wAll, ints]⟩
          · exact ⟨[], _, rfl, by simp [meets, ghosts, St.le, St.get, look, keys, PV.labs, labsL, lookB, Blk.labs, INP, wAll, ints]⟩
          · exact trivial
        conv => whnf
        refine And.intro (fun s hs => ?_) ?_
        · simp only [inv14c3] at hs
          obtain rfl := hs
          (conv => whnf); repeat' (first | ((first | (refine And.intro ?_ ?_; focus exact Cl4) | refine Both.T (by exact rfl) ?_ | refine Both.F (by exact rfl) ?_ | refine Both.GT (by exact rfl) (by exact rfl) ?_ | refine Both.GF (by exact rfl) ?_ | refine Both.GN (by exact rfl) ?_); conv => whnf) | (refine is_spec _ _ _ ?_; conv => whnf) | (refine of_spec wAll 3 _ (Or.inl rfl) (by decide) (by unfold i64; decide) _ (fun zf lf tf zc lc tc hp => ?_); conv => whnf) | ((refine Both.mk ?_ ?_ <;> fail_if_success (intro _)) <;> conv => whnf))
          · exact ⟨[], _, rfl, by simp [meets, ghosts, St.le, St.get, look, keys, PV.labs, labsL, lookB, Blk.labs, INP, wAll, ints]⟩
          · exact ⟨[], _, rfl, by simp [meets, ghosts, St.le, St.get, look, keys, PV.labs, labsL, lookB, Blk.labs, INP, wAll, ints]⟩
          · exact ⟨[], _, rfl, by simp [meets, ghosts, St.le, St.get, look, keys, PV.labs, labsL, lookB, Blk.labs, INP, wAll, ints]⟩
          · exact trivial
        conv => whnf
        refine And.intro (fun s hs => ?_) ?_
        · simp only [inv14c3] at hs
          obtain rfl := hs
          (conv => whnf); repeat' (first | ((first | (refine And.intro ?_ ?_; focus exact Cl4) | refine Both.T (by exact rfl) ?_ | refine Both.F (by exact rfl) ?_ | refine Both.GT (by exact rfl) (by exact rfl) ?_ | refine Both.GF (by exact rfl) ?_ | refine Both.GN (by exact rfl) ?_); conv => whnf) | (refine is_spec _ _ _ ?_; conv => whnf) | (refine of_spec wAll 3 _ (Or.inl rfl) (by decide) (by unfold i64; decide) _ (fun zf lf tf zc lc tc hp => ?_); conv => whnf) | ((refine Both.mk ?_ ?_ <;> fail_if_success (intro _)) <;> conv => whnf))
          · exact ⟨[], _, rfl, by simp [meets, ghosts, St.le, St.get, look, keys, PV.labs, labsL, lookB, Blk.labs, INP, wAll, ints]⟩
          · exact ⟨[], _, rfl, by simp [meets, ghosts, St.le, St.get, look, keys, PV.labs, labsL, lookB, Blk.labs, INP, wAll, ints]⟩
          · exact ⟨[], _, rfl, by simp [meets, ghosts, St.le, St.get, look, keys, PV.labs, labsL, lookB, Blk.labs, INP, wAll, ints]⟩
          · exact trivial
        conv => whnf
        refine And.intro (fun s hs => ?_) ?_
        · simp only [inv14c3] at hs
          obtain rfl := hs
          (conv => whnf); repeat' (first | ((first | (refine And.intro ?_ ?_; focus exact Cl4) | refine Both.T (by exact rfl) ?_ | refine Both.F (by exact rfl) ?_ | refine Both.GT (by exact rfl) (by exact rfl) ?_ | refine Both.GF (by exact rfl) ?_ | refine Both.GN (by exact rfl) ?_); conv => whnf) | (refine is_spec _ _ _ ?_; conv => whnf) | (refine of_spec wAll 3 _ (Or.inl rfl) (by decide) (by unfold i64; decide) _ (fun zf lf tf zc lc tc hp => ?_); conv => whnf) | ((refine Both.mk ?_ ?_ <;> fail_if_success (intro _)) <;> conv => whnf))
          · exact ⟨[], _, rfl, by simp [meets, ghosts, St.le, St.get, look, keys, PV.labs, labsL, lookB, Blk.labs, INP, wAll, ints]⟩
          · exact ⟨[], _, rfl, by simp [meets, ghosts, St.le, St.get, look, keys, PV.labs, labsL, lookB, Blk.labs, INP, wAll, ints]⟩
          · exact ⟨[], _, rfl, by simp [meets, ghosts, St.le, St.get, look, keys, PV.labs, labsL, lookB, Blk.labs, INP, wAll, ints]⟩
          · exact trivial
        conv => whnf
        refine And.intro (fun s hs => ?_) ?_
        · simp only [inv14c3] at hs
          obtain rfl := hs
          (conv => whnf); repeat' (first | ((first | (refine And.intro ?_ ?_; focus exact Cl4) | refine Both.T (by exact rfl) ?_ | refine Both.F (by exact rfl) ?_ | refine Both.GT (by exact rfl) (by exact rfl) ?_ | refine Both.GF (by exact rfl) ?_ | refine Both.GN (by exact rfl) ?_); conv => whnf) | (refine is_spec _ _ _ ?_; conv => whnf) | (refine of_spec wAll 3 _ (Or.inl rfl) (by decide) (by unfold i64; decide) _ (fun zf lf tf zc lc tc hp => ?_); conv => whnf) | ((refine Both.mk ?_ ?_ <;> fail_if_success (intro _)) <;> conv => whnf))
          · exact ⟨[], _, rfl, by simp [meets, ghosts, St.le, St.get, look, keys, PV.labs, labsL, lookB, Blk.labs, INP, wAll, ints]⟩
          · exact ⟨[], _, rfl, by simp [meets, ghosts, St.le, St.get, look, keys, PV.labs, labsL, lookB, Blk.labs, INP, wAll, ints]⟩
          · exact ⟨[], _, rfl, by simp [meets, ghosts, St.le, St.get, look, keys, PV.labs, labsL, lookB, Blk.labs, INP, wAll, ints]⟩
          · exact trivial
        conv => whnf
        refine And.intro (fun s hs => ?_) ?_
        · simp only [inv14c3] at hs
          obtain rfl := hs
          (conv => whnf); repeat' (first | ((first | (refine And.intro ?_ ?_; focus exact Cl4) | refine Both.T (by exact rfl) ?_ | refine Both.F (by exact rfl) ?_ | refine Both.GT (by exact rfl) (by exact rfl) ?_ | refine Both.GF (by exact rfl) ?_ | refine Both.GN (by exact rfl) ?_); conv => whnf) | (refine is_spec _ _ _ ?_; conv => whnf) | (refine of_spec wAll 3 _ (Or.inl rfl) (by decide) (by unfold i64; decide) _ (fun zf lf tf zc lc tc hp => ?_); conv => whnf) | ((refine Both.mk ?_ ?_ <;> fail_if_success (intro _)) <;> conv => whnf))
          · exact ⟨[], _, rfl, by simp [meets, ghosts, St.le, St.get, look, keys, PV.labs, labsL, lookB, Blk.labs, INP, wAll, ints]⟩
          · exact ⟨[], _, rfl, by simp [meets, ghosts, St.le, St.get, look, keys, PV.labs, labsL, lookB, Blk.labs, INP, wAll, ints]⟩
          · exact trivial
        conv => whnf
        refine And.intro (fun s hs => ?_) ?_
        · simp only [inv14c3] at hs
          obtain rfl := hs
          (conv => whnf); repeat' (first | ((first | (refine And.intro ?_ ?_; focus exact Cl4) | refine Both.T (by exact rfl) ?_ | refine Both.F (by exact rfl) ?_ | refine Both.GT (by exact rfl) (by exact rfl) ?_ | refine Both.GF (by exact rfl) ?_ | refine Both.GN (by exact rfl) ?_); conv => whnf) | (refine is_spec _ _ _ ?_; conv => whnf) | (refine of_spec wAll 3 _ (Or.inl rfl) (by decide) (by unfold i64; decide) _ (fun zf lf tf zc lc tc hp => ?_); conv => whnf) | ((refine Both.mk ?_ ?_ <;> fail_if_success (intro _)) <;> conv => whnf))
          · exact ⟨[], _, rfl, by simp [meets, ghosts, St.le, St.get, look, keys, PV.labs, labsL, lookB, Blk.labs, INP, wAll, ints]⟩
          · exact ⟨[], _, rfl, by simp [meets, ghosts, St.le, St.get, look, keys, PV.labs, labsL, lookB, Blk.labs, INP, wAll, ints]⟩
          · exact trivial
        conv => whnf
        refine And.intro (fun s hs => ?_) ?_
        · simp only [inv14c3] at hs
          obtain rfl := hs
          (conv => whnf); repeat' (first | ((first | (refine And.intro ?_ ?_; focus exact Cl4) | refine Both.T (by exact rfl) ?_ | refine Both.F (by exact rfl) ?_ | refine Both.GT (by exact rfl) (by exact rfl) ?_ | refine Both.GF (by exact rfl) ?_ | refine Both.GN (by exact rfl) ?_); conv => whnf) | (refine is_spec _ _ _ ?_; conv => whnf) | (refine of_spec wAll 3 _ (Or.inl rfl) (by decide) (by unfold i64; decide) _ (fun zf lf tf zc lc tc hp => ?_); conv => whnf) | ((refine Both.mk ?_ ?_ <;> fail_if_success (intro _)) <;> conv => whnf))
          · exact ⟨[], _, rfl, by simp [meets, ghosts, St.le, St.get, look, keys, PV.labs, labsL, lookB, Blk.labs, INP, wAll, ints]⟩
          · exact ⟨[], _, rfl, by simp [meets, ghosts, St.le, St.get, look, keys, PV.labs, labsL, lookB, Blk.labs, INP, wAll, ints]⟩
          · exact trivial
        conv => whnf
        refine And.intro (fun s hs => ?_) ?_
        · simp only [inv14c3] at hs
          obtain rfl := hs
          (conv => whnf); repeat' (first | ((first | (refine And.intro ?_ ?_; focus exact Cl4) | refine Both.T (by exact rfl) ?_ | refine Both.F (by exact rfl) ?_ | refine Both.GT (by exact rfl) (by exact rfl) ?_ | refine Both.GF (by exact rfl) ?_ | refine Both.GN (by exact rfl) ?_); conv => whnf) | (refine is_spec _ _ _ ?_; conv => whnf) | (refine of_spec wAll 3 _ (Or.inl rfl) (by decide) (by unfold i64; decide) _ (fun zf lf tf zc lc tc hp => ?_); conv => whnf) | ((refine Both.mk ?_ ?_ <;> fail_if_success (intro _)) <;> conv => whnf))
          · exact ⟨[], _, rfl, by simp [meets, ghosts, St.le, St.get, look, keys, PV.labs, labsL, lookB, Blk.labs, INP, wAll, ints]⟩
          · exact ⟨[], _, rfl, by simp [meets, ghosts, St.le, St.get, look, keys, PV.labs, labsL, lookB, Blk.labs, INP, wAll, ints]⟩
          · exact trivial
        conv => whnf
        refine And.intro (fun s hs => ?_) ?_
        · simp only [inv14c3] at hs
          obtain rfl := hs
          (conv => whnf); repeat' (first | ((first | (refine And.intro ?_ ?_; focus exact Cl4) | refine Both.T (by exact rfl) ?_ | refine Both.F (by exact rfl) ?_ | refine Both.GT (by exact rfl) (by exact rfl) ?_ | refine Both.GF (by exact rfl) ?_ | refine Both.GN (by exact rfl) ?_); conv => whnf) | (refine is_spec _ _ _ ?_; conv => whnf) | (refine of_spec wAll 3 _ (Or.inl rfl) (by decide) (by unfold i64; decide) _ (fun zf lf tf zc lc tc hp => ?_); conv => whnf) | ((refine Both.mk ?_ ?_ <;> fail_if_success (intro _)) <;> conv => whnf))
          · exact ⟨[], _, rfl, by simp [meets, ghosts, St.le, St.get, look, keys, PV.labs, labsL, lookB, Blk.labs, INP, wAll, ints]⟩
          · exact ⟨[], _, rfl, by simp [meets, ghosts, St.le, St.get, look, keys, PV.labs, labsL, lookB, Blk.labs, INP, wAll, ints]⟩
          · exact trivial
        conv => whnf
        refine And.intro (fun s hs => ?_) ?_
        · simp only [inv14c3] at hs
          obtain rfl := hs
          (conv => whnf); repeat' (first | ((first | (refine And.intro ?_ ?_; focus exact Cl4) | refine Both.T (by exact rfl) ?_ | refine Both.F (by exact rfl) ?_ | refine Both.GT (by exact rfl) (by exact rfl) ?_ | refine Both.GF (by exact rfl) ?_ | refine Both.GN (by exact rfl) ?_); conv => whnf) | (refine is_spec _ _ _ ?_; conv => whnf) | (refine of_spec wAll 3 _ (Or.inl rfl) (by decide) (by unfold i64; decide) _ (fun zf lf tf zc lc tc hp => ?_); conv => whnf) | ((refine Both.mk ?_ ?_ <;> fail_if_success (intro _)) <;> conv => whnf))
          · exact ⟨[], _, rfl, by simp [meets, ghosts, St.le, St.get, look, keys, PV.labs, labsL, lookB, Blk.labs, INP, wAll, ints]⟩
          · exact ⟨[], _, rfl, by simp [meets, ghosts, St.le, St.get, look, keys, PV.labs, labsL, lookB, Blk.labs, INP, wAll, ints]⟩
          · exact trivial
        conv => whnf
        refine And.intro (fun s hs => ?_) ?_
        · simp only [inv14c3] at hs
          obtain rfl := hs
          (conv => whnf); repeat' (first | ((first | (refine And.intro ?_ ?_; focus exact Cl4) | refine Both.T (by exact rfl) ?_ | refine Both.F (by exact rfl) ?_ | refine Both.GT (by exact rfl) (by exact rfl) ?_ | refine Both.GF (by exact rfl) ?_ | refine Both.GN (by exact rfl) ?_); conv => whnf) | (refine is_spec _ _ _ ?_; conv => whnf) | (refine of_spec wAll 3 _ (Or.inl rfl) (by decide) (by unfold i64; decide) _ (fun zf lf tf zc lc tc hp => ?_); conv => whnf) | ((refine Both.mk ?_ ?_ <;> fail_if_success (intro _)) <;> conv => whnf))
          · exact ⟨[], _, rfl, by simp [meets, ghosts, St.le, St.get, look, keys, PV.labs, labsL, lookB, Blk.labs, INP, wAll, ints]⟩
          · exact ⟨[], _, rfl, by simp [meets, ghosts, St.le, St.get, look, keys, PV.labs, labsL, lookB, Blk.labs, INP, wAll, ints]⟩
          · exact trivial
        conv => whnf
        refine And.intro (fun s hs => ?_) ?_
        · simp only [inv14c3] at hs
          obtain rfl := hs
          (conv => whnf); repeat' (first | ((first | (refine And.intro ?_ ?_; focus exact Cl4) | refine Both.T (by exact rfl) ?_ | refine Both.F (by exact rfl) ?_ | refine Both.GT (by exact rfl) (by exact rfl) ?_ | refine Both.GF (by exact rfl) ?_ | refine Both.GN (by exact rfl) ?_); conv => whnf) | (refine is_spec _ _ _ ?_; conv => whnf) | (refine of_spec wAll 3 _ (Or.inl rfl) (by decide) (by unfold i64; decide) _ (fun zf lf tf zc lc tc hp => ?_); conv => whnf) | ((refine Both.mk ?_ ?_ <;> fail_if_success (intro _)) <;> conv => whnf))
          · exact ⟨[], _, rfl, by simp [meets, ghosts, St.le, St.get, look, keys, PV.labs, labsL, lookB, Blk.labs, INP, wAll, ints]⟩
          · exact trivial
        conv => whnf
        refine And.intro (fun s hs => ?_) ?_
        · simp only [inv14c3] at hs
          obtain rfl := hs
          (conv => whnf); repeat' (first | ((first | (refine And.intro ?_ ?_; focus exact Cl4) | refine Both.T (by exact rfl) ?_ | refine Both.F (by exact rfl) ?_ | refine Both.GT (by exact rfl) (by exact rfl) ?_ | refine Both.GF (by exact rfl) ?_ | refine Both.GN (by exact rfl) ?_); conv => whnf) | (refine is_spec _ _ _ ?_; conv => whnf) | (refine of_spec wAll 3 _ (Or.inl rfl) (by decide) (by unfold i64; decide) _ (fun zf lf tf zc lc tc hp => ?_); conv => whnf) | ((refine Both.mk ?_ ?_ <;> fail_if_success (intro _)) <;> conv => whnf))
          · exact ⟨[], _, rfl, by simp [meets, ghosts, St.le, St.get, look, keys, PV.labs, labsL, lookB, Blk.labs, INP, wAll, ints]⟩
          · exact trivial
        conv => whnf
        refine And.intro (fun s hs => ?_) ?_
        · simp only [inv14c3] at hs
          obtain rfl := hs
          (conv => whnf); repeat' (first | ((first | (refine And.intro ?_ ?_; focus exact Cl4) | refine Both.T (by exact rfl) ?_ | refine Both.F (by exact rfl) ?_ | refine Both.GT (by exact rfl) (by exact rfl) ?_ | refine Both.GF (by exact rfl) ?_ | refine Both.GN (by exact rfl) ?_); conv => whnf) | (refine is_spec _ _ _ ?_; conv => whnf) | (refine of_spec wAll 3 _ (Or.inl rfl) (by decide) (by unfold i64; decide) _ (fun zf lf tf zc lc tc hp => ?_); conv => whnf) | ((refine Both.mk ?_ ?_ <;> fail_if_success (intro _)) <;> conv => whnf))
          · exact ⟨[], _, rfl, by simp [meets, ghosts, St.le, St.get, look, keys, PV.labs, labsL, lookB, Blk.labs, INP, wAll, ints]⟩
          · exact trivial
        conv => whnf
        refine And.intro (fun s hs => ?_) ?_
        · simp only [inv14c3] at hs
          obtain rfl := hs
          (conv => whnf); repeat' (first | ((first | (refine And.intro ?_ ?_; focus exact Cl4) | refine Both.T (by exact rfl) ?_ | refine Both.F (by exact rfl) ?_ | refine Both.GT (by exact rfl) (by exact rfl) ?_ | refine Both.GF (by exact rfl) ?_ | refine Both.GN (by exact rfl) ?_); conv => whnf) | (refine is_spec _ _ _ ?_; conv => whnf) | (refine of_spec wAll 3 _ (Or.inl rfl) (by decide) (by unfold i64; decide) _ (fun zf lf tf zc lc tc hp => ?_); conv => whnf) | ((refine Both.mk ?_ ?_ <;> fail_if_success (intro _)) <;> conv => whnf))
          · exact ⟨[], _, ⟨zf, lf, tf, zc, lc, tc, hp, rfl⟩, by simp [meets, ghosts, St.le, St.get, look, keys, PV.labs, labsL, lookB, Blk.labs, INP, wAll, ints]⟩
          · exact ⟨[], _, Or.inl rfl, by simp [meets, ghosts, St.le, St.get, look, keys, PV.labs, labsL, lookB, Blk.labs, INP, wAll, ints]⟩
          · exact trivial
        conv => whnf
        refine And.intro (fun s hs => ?_) ?_
        · simp only [inv14c3] at hs
          obtain rfl := hs
          (conv => whnf); repeat' (first | ((first | (refine And.intro ?_ ?_; focus exact Cl4) | refine Both.T (by exact rfl) ?_ | refine Both.F (by exact rfl) ?_ | refine Both.GT (by exact rfl) (by exact rfl) ?_ | refine Both.GF (by exact rfl) ?_ | refine Both.GN (by exact rfl) ?_); conv => whnf) | (refine is_spec _ _ _ ?_; conv => whnf) | (refine of_spec wAll 3 _ (Or.inl rfl) (by decide) (by unfold i64; decide) _ (fun zf lf tf zc lc tc hp => ?_); conv => whnf) | ((refine Both.mk ?_ ?_ <;> fail_if_success (intro _)) <;> conv => whnf))
          · exact ⟨[], _, Or.inr rfl, by simp [meets, ghosts, St.le, St.get, look, keys, PV.labs, labsL, lookB, Blk.labs, INP, wAll, ints]⟩
          · exact trivial
        conv => whnf
        refine And.intro (fun s hs => ?_) ?_
        · simp only [inv14c3] at hs
          obtain ⟨zf, lf, tf, zc, lc, tc, hp, rfl⟩ := hs
          (conv => whnf); repeat' (first | ((first | (refine And.intro ?_ ?_; focus exact Cl4) | refine Both.T (by exact rfl) ?_ | refine Both.F (by exact rfl) ?_ | refine Both.GT (by exact rfl) (by exact rfl) ?_ | refine Both.GF (by exact rfl) ?_ | refine Both.GN (by exact rfl) ?_); conv => whnf) | (refine is_spec _ _ _ ?_; conv => whnf) | (refine of_spec wAll 3 _ (Or.inl rfl) (by decide) (by unfold i64; decide) _ (fun zf lf tf zc lc tc hp => ?_); conv => whnf) | ((refine Both.mk ?_ ?_ <;> fail_if_success (intro _)) <;> conv => whnf))
          · exact ⟨[], _, ⟨zf, lf, tf, zc, lc, tc, hp, Or.inl rfl⟩, by simp [meets, ghosts, St.le, St.get, look, keys, PV.labs, labsL, lookB, Blk.labs, INP, wAll, ints]⟩
          · exact trivial
        conv => whnf
        refine And.intro (fun s hs => ?_) ?_
        · simp only [inv14c3] at hs
          obtain (rfl | rfl) := hs
          · (conv => whnf); repeat' (first | ((first | (refine And.intro ?_ ?_; focus exact Cl4) | refine Both.T (by exact rfl) ?_ | refine Both.F (by exact rfl) ?_ | refine Both.GT (by exact rfl) (by exact rfl) ?_ | refine Both.GF (by exact rfl) ?_ | refine Both.GN (by exact rfl) ?_); conv => whnf) | (refine is_spec _ _ _ ?_; conv => whnf) | (refine of_spec wAll 3 _ (Or.inl rfl) (by decide) (by unfold i64; decide) _ (fun zf lf tf zc lc tc hp => ?_); conv => whnf) | ((refine Both.mk ?_ ?_ <;> fail_if_success (intro _)) <;> conv => whnf))
            · exact ⟨[], _, ⟨zf, lf, tf, zc, lc, tc, hp, Or.inr rfl⟩, by simp [meets, ghosts, St.le, St.get, look, keys, PV.labs, labsL, lookB, Blk.labs, INP, wAll, ints]⟩
            · exact trivial
          · (conv => whnf); repeat' (first | ((first | (refine And.intro ?_ ?_; focus exact Cl4) | refine Both.T (by exact rfl) ?_ | refine Both.F (by exact rfl) ?_ | refine Both.GT (by exact rfl) (by exact rfl) ?_ | refine Both.GF (by exact rfl) ?_ | refine Both.GN (by exact rfl) ?_); conv => whnf) | (refine is_spec _ _ _ ?_; conv => whnf) | (refine of_spec wAll 3 _ (Or.inl rfl) (by decide) (by unfold i64; decide) _ (fun zf lf tf zc lc tc hp => ?_); conv => whnf) | ((refine Both.mk ?_ ?_ <;> fail_if_success (intro _)) <;> conv => whnf))
            · exact ⟨[], _, ⟨zf, lf, tf, zc, lc, tc, hp, Or.inl rfl⟩, by simp [meets, ghosts, St.le, St.get, look, keys, PV.labs, labsL, lookB, Blk.labs, INP, wAll, ints]⟩
            · exact trivial
        conv => whnf
        refine And.intro (fun s hs => ?_) ?_
        · simp only [inv14c3] at hs
          obtain ⟨zf, lf, tf, zc, lc, tc, hp, (rfl | rfl)⟩ := hs
          · exact trivial
          · exact trivial
        conv => whnf
        exact trivial
      · simp only [inv14c3, List.length_cons, List.length_nil] at hs
        obtain ⟨zf2, lf2, tf2, zc2, lc2, tc2, hp2, rfl | rfl⟩ := hs
        all_goals (
          (conv => whnf); repeat ((first | (refine And.intro ?_ ?_; focus exact Cl4) | refine Both.T (by exact rfl) ?_ | refine Both.F (by exact rfl) ?_ | refine Both.GT (by exact rfl) (by exact rfl) ?_ | refine Both.GF (by exact rfl) ?_ | refine Both.GN (by exact rfl) ?_); conv => whnf)
          refine heights_spec hF (ofP wAll) [0, 1, -1] _ 1 false (Or.inl rfl) (by decide) zf2 lf2 tf2 zc2 lc2 tc2 hp2 h4 _ ?_
          (conv => whnf); repeat ((first | (refine And.intro ?_ ?_; focus exact Cl4) | refine Both.T (by exact rfl) ?_ | refine Both.F (by exact rfl) ?_ | refine Both.GT (by exact rfl) (by exact rfl) ?_ | refine Both.GF (by exact rfl) ?_ | refine Both.GN (by exact rfl) ?_); conv => whnf)
          exact h)
end Go.Vc
