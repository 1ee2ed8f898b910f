/- Whether a cell burns, in the program. Conditions: as each states. -/
import Derived.Test.YtefampjmbjbhcaaSel
namespace Go.Proofs.Ytefampjmbjbhcaa
open Go.ChangeShapes Go.WideShapes Go.ChangeAt Go.RowKit Go.Deep
set_option linter.unusedVariables false
set_option linter.unusedSimpArgs false
set_option maxRecDepth 100000

end Go.Proofs.Ytefampjmbjbhcaa
