/- What is proved here: contracts of functions of the program: of each function what it hands back and what it leaves in memory. Conditions: those that each theorem names. -/
import Derived.Test.YthhokabbanhllaaGreatDoorTAh
import Derived.Test.YthhokabbanhllaaGreatDoorTAi
import Derived.Test.YthhokabbanhllaaGreatDoorTAu
set_option linter.unusedVariables false
set_option linter.unusedSimpArgs false
set_option linter.unusedSectionVars false
namespace Go.Vc
open Go
set_option maxRecDepth 100000
def r39_1_0 : Fop := .p (some 5) (.fieldAddr 25 (.tmp 2) 0)
def r39_1_1 : Fop := .p (some 6) (.load 3 (.tmp 5))
def r39_1_2 : Fop := .p (some 7) (.fieldAddr 25 (.tmp 3) 0)
def r39_1_3 : Fop := .p (some 8) (.load 3 (.tmp 7))
def r39_1_4 : Fop := .h (some 9) (.call { callee := .value (.func 58), args := #[.tmp 6, .tmp 8], argTypes := #[3, 3] })
def r39_1_5 : Fop := .p (some 10) (.fieldAddr 25 (.tmp 2) 1)
def r39_1_6 : Fop := .p (some 11) (.load 3 (.tmp 10))
def r39_1_7 : Fop := .p (some 12) (.fieldAddr 25 (.tmp 3) 1)
def r39_1_8 : Fop := .p (some 13) (.load 3 (.tmp 12))
def r39_1_9 : Fop := .h (some 14) (.call { callee := .value (.func 58), args := #[.tmp 11, .tmp 13], argTypes := #[3, 3] })
def r39_1_10 : Fop := .p (some 15) (.fieldAddr 25 (.tmp 2) 2)
def r39_1_11 : Fop := .p (some 16) (.load 9 (.tmp 15))
def r39_1_12 : Fop := .p (some 17) (.fieldAddr 25 (.tmp 3) 2)
def r39_1_13 : Fop := .p (some 18) (.load 9 (.tmp 17))
def r39_1_14 : Fop := .h (some 19) (.call { callee := .value (.func 59), args := #[.tmp 16, .tmp 18], argTypes := #[9, 9] })
def r39_1_15 : Fop := .p (some 20) (.fieldAddr 25 (.tmp 2) 4)
def r39_1_16 : Fop := .p (some 21) (.load 23 (.tmp 20))
def r39_1_17 : Fop := .p (some 22) (.fieldAddr 25 (.tmp 3) 4)
def r39_1_18 : Fop := .p (some 23) (.load 23 (.tmp 22))
def r39_1_19 : Fop := .h (some 24) (.call { callee := .value (.func 60), args := #[.tmp 21, .tmp 23], argTypes := #[23, 23] })
def r39_1_20 : Fop := .p (some 25) (.fieldAddr 25 (.tmp 2) 3)
def r39_1_21 : Fop := .p (some 26) (.load 22 (.tmp 25))
def r39_1_22 : Fop := .p (some 27) (.fieldAddr 25 (.tmp 3) 3)
def r39_1_23 : Fop := .p (some 28) (.load 22 (.tmp 27))
def r39_1_24 : Fop := .h (some 29) (.call { callee := .value (.func 61), args := #[.tmp 26, .tmp 28, .func 39], argTypes := #[22, 22, 48] })
def r39_1_25 : Fop := .h (some 30) (.buildSlice 91 5 #[(0, .tmp 9), (1, .tmp 14), (2, .tmp 19), (3, .tmp 24), (4, .tmp 29)])
def r39_1_26 : Fop := .h (some 31) (.call { callee := .value (.func 57), args := #[.tmp 30], argTypes := #[91] })
def r39_1_27 : Fop := .p (some 4) (.assign (.tmp 31))
def x10a : List Fop := [.h (some 2) (.box 25 (.tmp 0)), .h (some 3) (.box 25 (.tmp 1)), .p (some 4) (.assign (.const (.int .i64 0)))]
def x10t : List Fop := [r39_1_0, r39_1_2, r39_1_5, r39_1_7, r39_1_10, r39_1_12, r39_1_15, r39_1_17, r39_1_20, r39_1_22, r39_1_1, r39_1_3, r39_1_6, r39_1_8, r39_1_11, r39_1_13, r39_1_16, r39_1_18, r39_1_21, r39_1_23]
def x10l : List Fop := [r39_1_4, r39_1_9, r39_1_14, r39_1_19, r39_1_24, r39_1_25, r39_1_26, r39_1_27]
end Go.Vc
