/- What is proved here: contracts of functions of the program: of each function what it hands back and what it leaves in memory. Conditions: those that each theorem names. -/
import Derived.Test.YthhokabbanhllaaGreatDoorTAh
import Derived.Test.YthhokabbanhllaaGreatDoorTAi
set_option linter.unusedVariables false
set_option linter.unusedSimpArgs false
set_option linter.unusedSectionVars false
namespace Go.Vc
open Go
set_option maxRecDepth 100000
def cd6 : Cd := .seq (.ops [.h (some 2) (.box 25 (.tmp 0)), .p (some 4) (.assign (.const (.bool false)))]) (.seq (.tree (.q (m_ 5 1) (.q (m_ 7 1) (.q (.h (some 6) (ca_ 24 #[.tmp 5] #[9])) (.q (.h (some 8) (ca_ 25 #[.tmp 7] #[9])) (.q (.p (some 9) (.binOp .eql 4 (.tmp 6) (.tmp 8) 4)) (.q (m_ 10 9) (.q (gm_ 12 10 true 1) (.q (gm_ 15 10 true 1) (.alt (gl_ 11 10 true 25 2) (.alt (.gh (some 13) 10 true (ca_ 26 #[.tmp 11, .tmp 12] #[25, 9])) (.q (gl_ 14 10 true 25 2) (.q (.gh (some 16) 10 true (ca_ 27 #[.tmp 14, .tmp 15] #[25, 9])) (.q (.gp (some 17) 10 true (.binOp .eql 4 (.tmp 13) (.tmp 16) 4)) (.q (.p (some 18) (.pick (.tmp 10) (.tmp 17) (.const (.bool false)))) (.q (m_ 19 18) (.q (.gh (some 20) 19 true (ca_ 16 #[] #[])) (.q (.p (some 21) (.pick (.tmp 19) (.tmp 20) (.const (.bool false)))) (.q (a_ 4 21) (.done))))))))) (.q (gl_ 14 10 true 25 2) (.q (.gh (some 13) 10 true (ca_ 26 #[.tmp 11, .tmp 12] #[25, 9])) (.q (.gh (some 16) 10 true (ca_ 27 #[.tmp 14, .tmp 15] #[25, 9])) (.q (.gp (some 17) 10 true (.binOp .eql 4 (.tmp 13) (.tmp 16) 4)) (.q (.p (some 18) (.pick (.tmp 10) (.tmp 17) (.const (.bool false)))) (.q (m_ 19 18) (.q (.gh (some 20) 19 true (ca_ 16 #[] #[])) (.q (.p (some 21) (.pick (.tmp 19) (.tmp 20) (.const (.bool false)))) (.q (a_ 4 21) (.done))))))))))) (.q (gl_ 14 10 true 25 2) (.q (gl_ 11 10 true 25 2) (.q (.gh (some 13) 10 true (ca_ 26 #[.tmp 11, .tmp 12] #[25, 9])) (.q (.gh (some 16) 10 true (ca_ 27 #[.tmp 14, .tmp 15] #[25, 9])) (.q (.gp (some 17) 10 true (.binOp .eql 4 (.tmp 13) (.tmp 16) 4)) (.q (.p (some 18) (.pick (.tmp 10) (.tmp 17) (.const (.bool false)))) (.q (m_ 19 18) (.q (.gh (some 20) 19 true (ca_ 16 #[] #[])) (.q (.p (some 21) (.pick (.tmp 19) (.tmp 20) (.const (.bool false)))) (.q (a_ 4 21) (.done))))))))))))))))))))) (.ret))
theorem is6 : FnIs K 6 22 [.tmp 4] cd6 := ⟨Go.Proofs.Tryz.f6, _, noPl, Go.Proofs.Tryz.func6, by kernel_rfl, rfl, by kernel_rfl, rfl, rfl⟩
end Go.Vc
