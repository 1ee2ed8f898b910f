/- Contracts of the functions on breezes. Conditions: directions from 0 to 7 where a turn or a push is asked. -/
import Derived.Test.YtnadeddkogapoaaNum
import Derived.Deep.RegionWith
namespace Go.Proofs.Ytnadeddkogapoaa
open Go.ChangeShapes Go.WideShapes Go.ChangeAt Go.RowKit
set_option linter.unusedVariables false
set_option linter.unusedSimpArgs false
set_option maxRecDepth 100000

end Go.Proofs.Ytnadeddkogapoaa
