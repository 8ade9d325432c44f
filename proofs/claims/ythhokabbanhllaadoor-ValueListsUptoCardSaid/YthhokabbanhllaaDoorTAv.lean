/- What is proved here: contracts of functions of the program: of each function what it hands back and what it leaves in memory. Conditions: those that each theorem names. -/
import Derived.Test.YthhokabbanhllaaDoorTAi
import Derived.Test.YthhokabbanhllaaDoorTAj
import Derived.Test.YthhokabbanhllaaDoorTAh
set_option linter.unusedVariables false
set_option linter.unusedSimpArgs false
set_option linter.unusedSectionVars false
namespace Go.Vc
open Go
set_option maxRecDepth 100000
def cd58 : Cd := .seq (.ops [.p (some 2) (.assign (.const (.string { data := #[] })))]) (.seq (.ops [.p (some 3) (.move (.tmp 0)), .h (some 4) (.call { callee := .value (.func 67), args := #[.tmp 3], argTypes := #[4] }), .p (some 2) (.assign (.tmp 4))]) (.ret))
theorem is58 : FnIs K 58 5 [.tmp 2] cd58 := ⟨Go.Proofs.Tryd.f58, _, noPl, Go.Proofs.Tryd.func58, by kernel_rfl, rfl, by kernel_rfl, rfl, rfl⟩
def cd67 : Cd := .seq (.ops [.p (some 2) (.assign (.const (.string { data := #[] })))]) (.seq (.seq (.ops [.p (some 3) (.move (.tmp 0))]) (.cond (.tmp 3) (.seq (.ops [.p (some 2) (.assign (.const (.string { data := #[116, 114, 117, 101] })))]) (.ret)) (.skip))) (.seq (.ops [.p (some 2) (.assign (.const (.string { data := #[102, 97, 108, 115, 101] })))]) (.ret)))
theorem is67 : FnIs K 67 4 [.tmp 2] cd67 := ⟨Go.Proofs.Tryd.f67, _, noPl, Go.Proofs.Tryd.func67, by kernel_rfl, rfl, by kernel_rfl, rfl, rfl⟩
def cd63 : Cd := .seq (.ops [.p (some 2) (.assign (.const (.bool false)))]) (.seq (.ops [.p (some 3) (.move (.tmp 0)), .p (some 4) (.move (.tmp 0)), .p (some 5) (.binOp .neq 9 (.tmp 3) (.tmp 4) 9), .p (some 2) (.assign (.tmp 5))]) (.ret))
theorem is63 : FnIs K 63 6 [.tmp 2] cd63 := ⟨Go.Proofs.Tryd.f63, _, noPl, Go.Proofs.Tryd.func63, by kernel_rfl, rfl, by kernel_rfl, rfl, rfl⟩
end Go.Vc
