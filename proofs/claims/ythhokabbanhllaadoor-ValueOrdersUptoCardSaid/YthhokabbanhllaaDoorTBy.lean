/- What is proved here: contracts of functions of the program: of each function what it hands back and what it leaves in memory. Conditions: those that each theorem names. -/
import Derived.Test.YthhokabbanhllaaDoorTAi
import Derived.Test.YthhokabbanhllaaDoorTAj
import Derived.Test.YthhokabbanhllaaDoorTBx
set_option linter.unusedVariables false
set_option linter.unusedSimpArgs false
set_option linter.unusedSectionVars false
namespace Go.Vc
open Go
set_option maxRecDepth 100000
def r6_3_0 : Fop := .p (some 13) (.load 25 (.tmp 3))
def r6_3_1 : Fop := .p (some 14) (.load 25 (.tmp 4))
def r6_3_2 : Fop := .h (some 15) (.call { callee := .value (.func 10), args := #[.tmp 13, .tmp 14], argTypes := #[25, 25] })
def r6_3_3 : Fop := .p (some 16) (.load 25 (.tmp 4))
def r6_3_4 : Fop := .p (some 17) (.load 25 (.tmp 5))
def r6_3_5 : Fop := .h (some 18) (.call { callee := .value (.func 10), args := #[.tmp 16, .tmp 17], argTypes := #[25, 25] })
def r6_3_6 : Fop := .p (some 19) (.load 25 (.tmp 3))
def r6_3_7 : Fop := .p (some 20) (.load 25 (.tmp 5))
def r6_3_8 : Fop := .h (some 21) (.call { callee := .value (.func 10), args := #[.tmp 19, .tmp 20], argTypes := #[25, 25] })
def r6_3_9 : Fop := .p (some 7) (.assign (.tmp 15))
def r6_3_10 : Fop := .p (some 8) (.assign (.tmp 18))
def r6_3_11 : Fop := .p (some 9) (.assign (.tmp 21))
def x6A : Cd := .ops [.h (some 3) (.box 25 (.tmp 0)), .h (some 4) (.box 25 (.tmp 1)), .h (some 5) (.box 25 (.tmp 2)), .p (some 6) (.assign (.const (.bool false)))]
def x6B : Cd := .seq (.ops [.h (some 11) (.call { callee := .value (.func 14), args := #[], argTypes := #[] }), .p (some 12) (.unOp .not 4 (.tmp 11))]) (.cond (.tmp 12) (.seq (.ops [.p (some 6) (.assign (.const (.bool false)))]) (.ret)) (.skip))
def x6C : Cd := .seq (.ops [.p (some 22) (.load 25 (.tmp 4)), .p (some 23) (.load 25 (.tmp 3)), .h (some 24) (.call { callee := .value (.func 10), args := #[.tmp 22, .tmp 23], argTypes := #[25, 25] }), .p (some 25) (.move (.tmp 7)), .p (some 26) (.unOp .neg 3 (.tmp 25)), .p (some 27) (.binOp .eql 3 (.tmp 24) (.tmp 26) 3), .p (some 28) (.move (.tmp 27)), .gp (some 29) 28 true (.move (.tmp 7)), .gp (some 30) 28 true (.binOp .eql 3 (.tmp 29) (.const (.int .i64 0)) 3), .gp (some 31) 28 true (.load 25 (.tmp 3)), .gp (some 32) 28 true (.load 25 (.tmp 4)), .gh (some 33) 28 true (.call { callee := .value (.func 12), args := #[.tmp 31, .tmp 32], argTypes := #[25, 25] }), .gp (some 34) 28 true (.binOp .eql 4 (.tmp 30) (.tmp 33) 4), .p (some 35) (.pick (.tmp 28) (.tmp 34) (.const (.bool false))), .p (some 36) (.move (.tmp 35)), .gp (some 37) 36 true (.load 25 (.tmp 3)), .gp (some 38) 36 true (.load 25 (.tmp 3)), .gh (some 39) 36 true (.call { callee := .value (.func 10), args := #[.tmp 37, .tmp 38], argTypes := #[25, 25] }), .gp (some 40) 36 true (.binOp .eql 3 (.tmp 39) (.const (.int .i64 0)) 3), .p (some 41) (.pick (.tmp 36) (.tmp 40) (.const (.bool false))), .p (some 10) (.assign (.tmp 41))]) (.seq (.ops [.p (some 42) (.move (.tmp 10)), .p (some 43) (.move (.tmp 42)), .gp (some 44) 43 true (.move (.tmp 7)), .gp (some 45) 43 true (.binOp .gtr 3 (.tmp 44) (.const (.int .i64 0)) 3), .gp (some 46) 43 true (.move (.tmp 45)), .gp (some 47) 46 false (.move (.tmp 8)), .gp (some 48) 46 false (.binOp .gtr 3 (.tmp 47) (.const (.int .i64 0)) 3), .gp (some 49) 43 true (.pick (.tmp 46) (.const (.bool true)) (.tmp 48)), .gp (some 50) 43 true (.move (.tmp 49)), .gp (some 51) 50 false (.move (.tmp 9)), .gp (some 52) 50 false (.binOp .leq 3 (.tmp 51) (.const (.int .i64 0)) 3), .gp (some 53) 43 true (.pick (.tmp 50) (.const (.bool true)) (.tmp 52)), .p (some 54) (.pick (.tmp 43) (.tmp 53) (.const (.bool false))), .p (some 55) (.move (.tmp 54)), .gp (some 56) 55 true (.move (.tmp 7)), .gp (some 57) 55 true (.binOp .geq 3 (.tmp 56) (.const (.int .i64 0)) 3), .gp (some 58) 55 true (.move (.tmp 57)), .gp (some 59) 58 false (.move (.tmp 8)), .gp (some 60) 58 false (.binOp .gtr 3 (.tmp 59) (.const (.int .i64 0)) 3), .gp (some 61) 55 true (.pick (.tmp 58) (.const (.bool true)) (.tmp 60)), .gp (some 62) 55 true (.move (.tmp 61)), .gp (some 63) 62 false (.move (.tmp 9)), .gp (some 64) 62 false (.binOp .lss 3 (.tmp 63) (.const (.int .i64 0)) 3), .gp (some 65) 55 true (.pick (.tmp 62) (.const (.bool true)) (.tmp 64)), .p (some 66) (.pick (.tmp 55) (.tmp 65) (.const (.bool false))), .p (some 6) (.assign (.tmp 66))]) (.ret))
def x6t : List Fop := [r6_3_0, r6_3_1, r6_3_3, r6_3_4, r6_3_6, r6_3_7]
def x6l : List Fop := [r6_3_2, r6_3_5, r6_3_8, r6_3_9, r6_3_10, r6_3_11]
-- n 67 rs [.tmp 6] region 3
end Go.Vc
