/- Contracts of HeatOf, SpeedIn and DampestFor, the program's and the reference's. Conditions: none but a text's length. -/
import Derived.Test.YtddnghfioghidaaDoorFuel
namespace Go.Proofs.YtddnghfioghidaaDoor
open Go.ChangeShapes Go.WideShapes Go.ChangeAt Go.RowKit
set_option linter.unusedVariables false
set_option linter.unusedSimpArgs false
set_option maxRecDepth 100000

theorem below_box {w w1 : World} {o : Obj} (hb : Below (w.alloc o).heap.size (w.alloc o) w1) : Below w.heap.size w w1 := ((Below.refl _ _).alloc (Nat.le_refl _) _).trans (hb.mono (by simp))

end Go.Proofs.YtddnghfioghidaaDoor
