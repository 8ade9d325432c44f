/- What is proved here: contracts of functions of the program: of each function what it hands back and what it leaves in memory. Conditions: those that each theorem names. -/
import Derived.Test.YthhokabbanhllaaGreatDoorTBh
set_option linter.unusedVariables false
set_option linter.unusedSimpArgs false
set_option linter.unusedSectionVars false
namespace Go.Vc
open Go Go.Proofs
set_option maxRecDepth 100000
theorem sizeVs_in : ∀ {l : List V} {v : V}, v ∈ l → sizeV v ≤ sizeVs l
 | _ :: _, _, .head _ => by simp only [sizeVs]; omega
 | _ :: _, _, .tail _ h => by have := sizeVs_in h; simp only [sizeVs]; omega
end Go.Vc
