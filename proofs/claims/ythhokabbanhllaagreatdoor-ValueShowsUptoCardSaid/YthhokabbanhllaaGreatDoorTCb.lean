/- What is proved here: contracts of functions of the program: of each function what it hands back and what it leaves in memory. Conditions: those that each theorem names. -/
import Derived.Test.YthhokabbanhllaaGreatDoorTAi
import Derived.Test.YthhokabbanhllaaGreatDoorTAj
set_option linter.unusedVariables false
set_option linter.unusedSimpArgs false
set_option linter.unusedSectionVars false
namespace Go.Vc
open Go
set_option maxRecDepth 100000
def cd7 : Cd := .seq (.ops [.h (some 1) (.box 25 (.tmp 0)), .p (some 2) (.assign (.const (.bool false)))]) (.seq (.tree (.alt (l_ 3 25 1) (.alt (.h (some 4) (ca_ 28 #[.tmp 3] #[25])) (.q (l_ 5 25 1) (.q (.h (some 6) (ca_ 29 #[.tmp 5] #[25])) (.q (.p (some 7) (.binOp .eql 9 (.tmp 4) (.tmp 6) 9)) (.q (m_ 8 7) (.q (.gh (some 9) 8 true (ca_ 16 #[] #[])) (.q (.p (some 10) (.pick (.tmp 8) (.tmp 9) (.const (.bool false)))) (.q (a_ 2 10) (.done)))))))) (.q (l_ 5 25 1) (.q (.h (some 4) (ca_ 28 #[.tmp 3] #[25])) (.q (.h (some 6) (ca_ 29 #[.tmp 5] #[25])) (.q (.p (some 7) (.binOp .eql 9 (.tmp 4) (.tmp 6) 9)) (.q (m_ 8 7) (.q (.gh (some 9) 8 true (ca_ 16 #[] #[])) (.q (.p (some 10) (.pick (.tmp 8) (.tmp 9) (.const (.bool false)))) (.q (a_ 2 10) (.done)))))))))) (.q (l_ 5 25 1) (.q (l_ 3 25 1) (.q (.h (some 4) (ca_ 28 #[.tmp 3] #[25])) (.q (.h (some 6) (ca_ 29 #[.tmp 5] #[25])) (.q (.p (some 7) (.binOp .eql 9 (.tmp 4) (.tmp 6) 9)) (.q (m_ 8 7) (.q (.gh (some 9) 8 true (ca_ 16 #[] #[])) (.q (.p (some 10) (.pick (.tmp 8) (.tmp 9) (.const (.bool false)))) (.q (a_ 2 10) (.done)))))))))))) (.ret))
theorem is7 : FnIs K 7 11 [.tmp 2] cd7 := ⟨Go.Proofs.Tryz.f7, _, noPl, Go.Proofs.Tryz.func7, by kernel_rfl, rfl, by kernel_rfl, rfl, rfl⟩
end Go.Vc
