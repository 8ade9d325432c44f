/- What is proved here: contracts of functions of the program: of each function what it hands back and what it leaves in memory. Conditions: those that each theorem names. -/
import Derived.Test.YtmbopgmllnijjaaCf
import Derived.Test.YtmbopgmllnijjaaCe
import Derived.Test.YtmbopgmllnijjaaQh
set_option linter.unusedVariables false
set_option linter.unusedSimpArgs false
set_option linter.unusedSectionVars false
namespace Go.Vc
open Go Go.Proofs
theorem works15_law : WorksD := works15_spec fits_all fun p zf lf tf zc lc tc yf mf uf yc mc uc hp hq Post h => same_refl p zf lf tf zc lc tc yf mf uf yc mc uc hp hq Post h
end Go.Vc
