/- HolesOf in the program and in the reference. Conditions: as each states. -/
import Derived.Test.YtefampjmbjbhcaaHoles
namespace Go.Proofs.Ytefampjmbjbhcaa
open Go.ChangeShapes Go.WideShapes Go.ChangeAt Go.RowKit Go.Deep
set_option linter.unusedVariables false
set_option linter.unusedSimpArgs false
set_option maxRecDepth 100000

end Go.Proofs.Ytefampjmbjbhcaa
