/- Contracts of the functions on a terrain's value: sizes, copies, comparison, marks, validity. Conditions: as each states. -/
import Derived.Test.YtnadeddkogapoaaInts
import Derived.Test.YtnadeddkogapoaaLater
import Derived.Test.YtnadeddkogapoaaNum
import Derived.Test.YtnadeddkogapoaaAll
namespace Go.Proofs.Ytnadeddkogapoaa
open Go.ChangeShapes Go.WideShapes Go.ChangeAt Go.RowKit
set_option linter.unusedVariables false
set_option linter.unusedSimpArgs false
set_option maxRecDepth 100000

/-- A terrain's value. -/
abbrev terrV (x y : Int) (u : Value) : Value := .agg #[.int .i64 x, .int .i64 y, u]
/-- A terrain is valid. -/
def terrB (x y : Int) (zs : List Int) : Bool := inB x 1 5 && inB y 1 5 && decide ((zs.length : Int) = x * y) && zs.all (fun z => inB z 0 20)
/-- A call hands back a terrain whose row is its own. -/
def RetTerr (w : World) (x y : Int) (zs : List Int) (e : Ending) (w' : World) : Prop :=
  ∃ u, e = .returned (terrV x y u) ∧ w'.ownsRow w.heap.size 3 1 u zs.length (ints zs) ∧ Below w.heap.size w w'

end Go.Proofs.Ytnadeddkogapoaa
