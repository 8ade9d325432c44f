/- What is proved here: contracts of functions of the program: of each function what it hands back and what it leaves in memory. Conditions: those that each theorem names. -/
import Derived.Test.YthhokabbanhllaaGreatDoorTAi
import Derived.Test.YthhokabbanhllaaGreatDoorTAj
set_option linter.unusedVariables false
set_option linter.unusedSimpArgs false
set_option linter.unusedSectionVars false
namespace Go.Vc
open Go
set_option maxRecDepth 100000
def cd4 : Cd := .seq (.ops [.h (some 1) (.box 25 (.tmp 0)), .p (some 2) (.assign (.const (.bool false)))]) (.seq (.ops [l_ 8 25 1, .h (some 9) (ca_ 8 #[.tmp 8] #[25]), .h (some 3) (.alloc 25), s_ 25 3 9]) (.seq (.ops [l_ 11 25 3, .h (some 12) (ca_ 17 #[.tmp 11] #[25]), m_ 10 12, e_ 13 10 0, e_ 14 10 1, a_ 4 13, a_ 5 14]) (.seq (.ops [l_ 16 25 1, .h (some 17) (ca_ 18 #[.tmp 16] #[25]), m_ 15 17, e_ 18 15 0, e_ 19 15 1, a_ 6 18, a_ 7 19]) (.seq (.ops [m_ 20 4, m_ 21 6, .h (some 22) (ca_ 19 #[.tmp 20, .tmp 21] #[33, 33]), m_ 23 22, gm_ 24 23 true 5, gm_ 25 23 true 7, .gp (some 26) 23 true (.binOp .eql 27 (.tmp 24) (.tmp 25) 27), .p (some 27) (.pick (.tmp 23) (.tmp 26) (.const (.bool false))), m_ 28 27, gl_ 29 28 true 25 3, gl_ 30 28 true 25 1, .gh (some 31) 28 true (ca_ 15 #[.tmp 29, .tmp 30] #[25, 25]), .p (some 32) (.pick (.tmp 28) (.tmp 31) (.const (.bool false))), m_ 33 32, .gh (some 34) 33 true (ca_ 16 #[] #[]), .p (some 35) (.pick (.tmp 33) (.tmp 34) (.const (.bool false))), a_ 2 35]) (.ret)))))
theorem is4 : FnIs K 4 36 [.tmp 2] cd4 := ⟨Go.Proofs.Tryz.f4, _, noPl, Go.Proofs.Tryz.func4, by kernel_rfl, rfl, by kernel_rfl, rfl, rfl⟩
end Go.Vc
