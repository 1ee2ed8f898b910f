/- Whether a list rises within bounds, in the reference. Conditions: none. -/
import Derived.Test.YtabedcpibnnnhaaDoorSet
namespace Go.Proofs.YtabedcpibnnnhaaDoor
open Go.ChangeShapes Go.WideShapes Go.ChangeAt Go.RowKit
set_option linter.unusedVariables false
set_option linter.unusedSimpArgs false
set_option maxRecDepth 100000

end Go.Proofs.YtabedcpibnnnhaaDoor
