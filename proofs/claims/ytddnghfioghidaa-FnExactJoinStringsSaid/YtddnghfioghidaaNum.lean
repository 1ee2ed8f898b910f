/- Contracts of the small functions on numbers. Conditions: as each states. -/
import Derived.Test.YtddnghfioghidaaBase
import Derived.Test.YtddnghfioghidaaPure
namespace Go.Proofs.Ytddnghfioghidaa
open Go.ChangeShapes Go.WideShapes Go.ChangeAt Go.RowKit
set_option linter.unusedVariables false
set_option linter.unusedSimpArgs false
set_option maxRecDepth 100000

end Go.Proofs.Ytddnghfioghidaa
