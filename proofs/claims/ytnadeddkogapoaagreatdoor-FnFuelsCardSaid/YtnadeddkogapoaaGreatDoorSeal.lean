/- A text with its checksum, in the program and in the reference. Conditions: as each states. -/
import Derived.Test.YtnadeddkogapoaaGreatDoorFmt
import Derived.Test.YtnadeddkogapoaaGreatDoorLow
import Derived.Lib.IndexAny
namespace Go.Proofs.YtnadeddkogapoaaGreatDoor
open Go.ChangeShapes Go.WideShapes Go.ChangeAt Go.RowKit Go.Deep
set_option linter.unusedVariables false
set_option linter.unusedSimpArgs false
set_option maxRecDepth 100000

/-- A text with its checksum behind it. -/
def sealS (s : ByteArray) : ByteArray := s ++ ⟨#[35]⟩ ++ numS (sumL s.data.toList)
def apB (s : ByteArray) : Bool := decide (s.size ≤ 4000) && !(hasC s 35) && decide ((sealS s).size ≤ 4000)
end Go.Proofs.YtnadeddkogapoaaGreatDoor
