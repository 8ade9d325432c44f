/- What is proved here: contracts of functions of the program: of each function what it hands back and what it leaves in memory. Conditions: those that each theorem names. -/
import Derived.Test.YthhokabbanhllaaGreatDoorTAi
import Derived.Test.YthhokabbanhllaaGreatDoorTAj
set_option linter.unusedVariables false
set_option linter.unusedSimpArgs false
set_option linter.unusedSectionVars false
namespace Go.Vc
open Go
set_option maxRecDepth 100000
def r3_2_0 : Fop := l_ 6 25 3
def r3_2_1 : Fop := .h (some 7) (ca_ 9 #[.tmp 6] #[25])
def r3_2_2 : Fop := l_ 8 25 1
def r3_2_3 : Fop := .h (some 9) (ca_ 10 #[.tmp 8] #[25])
def r3_2_4 : Fop := .p (some 10) (.binOp .eql 27 (.tmp 7) (.tmp 9) 27)
def r3_2_5 : Fop := m_ 11 10
def r3_2_6 : Fop := gl_ 12 11 true 25 3
def r3_2_7 : Fop := .gh (some 13) 11 true (ca_ 11 #[.tmp 12] #[25])
def r3_2_8 : Fop := gl_ 14 11 true 25 1
def r3_2_9 : Fop := .gh (some 15) 11 true (ca_ 12 #[.tmp 14] #[25])
def r3_2_10 : Fop := .gp (some 16) 11 true (.binOp .eql 3 (.tmp 13) (.tmp 15) 3)
def r3_2_11 : Fop := .p (some 17) (.pick (.tmp 11) (.tmp 16) (.const (.bool false)))
def r3_2_12 : Fop := m_ 18 17
def r3_2_13 : Fop := gl_ 19 18 true 25 3
def r3_2_14 : Fop := .gh (some 20) 18 true (ca_ 13 #[.tmp 19] #[25])
def r3_2_15 : Fop := gl_ 21 18 true 25 1
def r3_2_16 : Fop := .gh (some 22) 18 true (ca_ 14 #[.tmp 21] #[25])
def r3_2_17 : Fop := .gp (some 23) 18 true (.binOp .eql 3 (.tmp 20) (.tmp 22) 3)
def r3_2_18 : Fop := .p (some 24) (.pick (.tmp 18) (.tmp 23) (.const (.bool false)))
def r3_2_19 : Fop := m_ 25 24
def r3_2_20 : Fop := gl_ 26 25 true 25 3
def r3_2_21 : Fop := gl_ 27 25 true 25 1
def r3_2_22 : Fop := .gh (some 28) 25 true (ca_ 15 #[.tmp 26, .tmp 27] #[25, 25])
def r3_2_23 : Fop := .p (some 29) (.pick (.tmp 25) (.tmp 28) (.const (.bool false)))
def r3_2_24 : Fop := m_ 30 29
def r3_2_25 : Fop := .gh (some 31) 30 true (ca_ 16 #[] #[])
def r3_2_26 : Fop := .p (some 32) (.pick (.tmp 30) (.tmp 31) (.const (.bool false)))
def r3_2_27 : Fop := a_ 2 32
def pl3 : Nat → Option PT := fun i => if i = 2 then some (.cut 25 #[true, true, true, false, false, false, false, false, false, false, false, false, false, false, false, false, false, false, false, false, false, false, false, false, false, false, false, false] (.alt 0 (.alt 1 (.alt 2 (.done) (.stop)) (.alt 2 (.alt 1 (.done) (.stop)) (.stop))) (.alt 2 (.alt 0 (.alt 1 (.done) (.stop)) (.stop)) (.stop))) (.alt 3 (.q 4 (.q 5 (.cut 19 #[true, true, true, true, true, true, true, true, true, false, false, false, false, false, false, false, false, false, false, false, false, false, false, false, false, false, false, false] (.alt 6 (.alt 7 (.alt 8 (.done) (.stop)) (.alt 8 (.alt 7 (.done) (.stop)) (.stop))) (.alt 8 (.alt 6 (.alt 7 (.done) (.stop)) (.stop)) (.stop))) (.alt 9 (.q 10 (.q 11 (.q 12 (.cut 12 #[true, true, true, true, true, true, true, true, true, true, true, true, true, true, true, true, false, false, false, false, false, false, false, false, false, false, false, false] (.alt 13 (.alt 14 (.alt 15 (.done) (.stop)) (.alt 15 (.alt 14 (.done) (.stop)) (.stop))) (.alt 15 (.alt 13 (.alt 14 (.done) (.stop)) (.stop)) (.stop))) (.alt 16 (.q 17 (.q 18 (.q 19 (.cut 6 #[true, true, true, true, true, true, true, true, true, true, true, true, true, true, true, true, true, true, true, true, true, true, false, false, false, false, false, false] (.alt 20 (.alt 21 (.done) (.stop)) (.alt 21 (.alt 20 (.done) (.stop)) (.stop))) (.alt 22 (.q 23 (.q 24 (.alt 25 (.q 26 (.q 27 (.done))) (.stop)))) (.stop)))))) (.stop)))))) (.stop))))) (.stop))) else none
def cd3 : Cd := .seq (.ops [.h (some 1) (.box 25 (.tmp 0)), .p (some 2) (.assign (.const (.bool false)))]) (.seq (.ops [l_ 4 25 1, .h (some 5) (ca_ 8 #[.tmp 4] #[25]), .h (some 3) (.alloc 25), s_ 25 3 5]) (.seq (.tree (.cut (.alt (r3_2_0) (.alt (r3_2_1) (.q (r3_2_2) (.done)) (.q (r3_2_2) (.q (r3_2_1) (.done)))) (.q (r3_2_2) (.q (r3_2_0) (.q (r3_2_1) (.done))))) (.q (r3_2_3) (.q (r3_2_4) (.q (r3_2_5) (.cut (.alt (r3_2_6) (.alt (r3_2_7) (.q (r3_2_8) (.done)) (.q (r3_2_8) (.q (r3_2_7) (.done)))) (.q (r3_2_8) (.q (r3_2_6) (.q (r3_2_7) (.done))))) (.q (r3_2_9) (.q (r3_2_10) (.q (r3_2_11) (.q (r3_2_12) (.cut (.alt (r3_2_13) (.alt (r3_2_14) (.q (r3_2_15) (.done)) (.q (r3_2_15) (.q (r3_2_14) (.done)))) (.q (r3_2_15) (.q (r3_2_13) (.q (r3_2_14) (.done))))) (.q (r3_2_16) (.q (r3_2_17) (.q (r3_2_18) (.q (r3_2_19) (.cut (.alt (r3_2_20) (.q (r3_2_21) (.done)) (.q (r3_2_21) (.q (r3_2_20) (.done)))) (.q (r3_2_22) (.q (r3_2_23) (.q (r3_2_24) (.q (r3_2_25) (.q (r3_2_26) (.q (r3_2_27) (.done))))))))))))))))))))))) (.ret)))
theorem is3 : FnIs K 3 33 [.tmp 2] cd3 := ⟨Go.Proofs.Tryz.f3, _, pl3, Go.Proofs.Tryz.func3, by kernel_rfl, rfl, by kernel_rfl, rfl, rfl⟩
end Go.Vc
