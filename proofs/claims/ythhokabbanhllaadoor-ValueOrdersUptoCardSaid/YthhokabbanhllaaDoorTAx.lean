/- What is proved here: contracts of functions of the program: of each function what it hands back and what it leaves in memory. Conditions: those that each theorem names. -/
import Derived.Test.YthhokabbanhllaaDoorTAi
import Derived.Test.YthhokabbanhllaaDoorTAj
import Derived.Test.YthhokabbanhllaaDoorTAu
set_option linter.unusedVariables false
set_option linter.unusedSimpArgs false
set_option linter.unusedSectionVars false
namespace Go.Vc
open Go
set_option maxRecDepth 100000
def r10_1_0 : Fop := .p (some 5) (.fieldAddr 25 (.tmp 2) 0)
def r10_1_1 : Fop := .p (some 6) (.load 3 (.tmp 5))
def r10_1_2 : Fop := .p (some 7) (.fieldAddr 25 (.tmp 3) 0)
def r10_1_3 : Fop := .p (some 8) (.load 3 (.tmp 7))
def r10_1_4 : Fop := .h (some 9) (.call { callee := .value (.func 30), args := #[.tmp 6, .tmp 8], argTypes := #[3, 3] })
def r10_1_5 : Fop := .p (some 10) (.fieldAddr 25 (.tmp 2) 1)
def r10_1_6 : Fop := .p (some 11) (.load 3 (.tmp 10))
def r10_1_7 : Fop := .p (some 12) (.fieldAddr 25 (.tmp 3) 1)
def r10_1_8 : Fop := .p (some 13) (.load 3 (.tmp 12))
def r10_1_9 : Fop := .h (some 14) (.call { callee := .value (.func 30), args := #[.tmp 11, .tmp 13], argTypes := #[3, 3] })
def r10_1_10 : Fop := .p (some 15) (.fieldAddr 25 (.tmp 2) 2)
def r10_1_11 : Fop := .p (some 16) (.load 9 (.tmp 15))
def r10_1_12 : Fop := .p (some 17) (.fieldAddr 25 (.tmp 3) 2)
def r10_1_13 : Fop := .p (some 18) (.load 9 (.tmp 17))
def r10_1_14 : Fop := .h (some 19) (.call { callee := .value (.func 31), args := #[.tmp 16, .tmp 18], argTypes := #[9, 9] })
def r10_1_15 : Fop := .p (some 20) (.fieldAddr 25 (.tmp 2) 4)
def r10_1_16 : Fop := .p (some 21) (.load 23 (.tmp 20))
def r10_1_17 : Fop := .p (some 22) (.fieldAddr 25 (.tmp 3) 4)
def r10_1_18 : Fop := .p (some 23) (.load 23 (.tmp 22))
def r10_1_19 : Fop := .h (some 24) (.call { callee := .value (.func 32), args := #[.tmp 21, .tmp 23], argTypes := #[23, 23] })
def r10_1_20 : Fop := .p (some 25) (.fieldAddr 25 (.tmp 2) 3)
def r10_1_21 : Fop := .p (some 26) (.load 22 (.tmp 25))
def r10_1_22 : Fop := .p (some 27) (.fieldAddr 25 (.tmp 3) 3)
def r10_1_23 : Fop := .p (some 28) (.load 22 (.tmp 27))
def r10_1_24 : Fop := .h (some 29) (.call { callee := .value (.func 33), args := #[.tmp 26, .tmp 28, .func 10], argTypes := #[22, 22, 26] })
def r10_1_25 : Fop := .h (some 30) (.buildSlice 70 5 #[(0, .tmp 9), (1, .tmp 14), (2, .tmp 19), (3, .tmp 24), (4, .tmp 29)])
def r10_1_26 : Fop := .h (some 31) (.call { callee := .value (.func 29), args := #[.tmp 30], argTypes := #[70] })
def r10_1_27 : Fop := .p (some 4) (.assign (.tmp 31))
def x10a : List Fop := [.h (some 2) (.box 25 (.tmp 0)), .h (some 3) (.box 25 (.tmp 1)), .p (some 4) (.assign (.const (.int .i64 0)))]
def x10t : List Fop := [r10_1_0, r10_1_2, r10_1_5, r10_1_7, r10_1_10, r10_1_12, r10_1_15, r10_1_17, r10_1_20, r10_1_22, r10_1_1, r10_1_3, r10_1_6, r10_1_8, r10_1_11, r10_1_13, r10_1_16, r10_1_18, r10_1_21, r10_1_23]
def x10l : List Fop := [r10_1_4, r10_1_9, r10_1_14, r10_1_19, r10_1_24, r10_1_25, r10_1_26, r10_1_27]
end Go.Vc
