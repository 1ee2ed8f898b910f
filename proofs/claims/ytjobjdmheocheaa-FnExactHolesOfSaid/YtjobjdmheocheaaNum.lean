/- Contracts of the small functions on numbers. Conditions: as each states. -/
import Derived.Test.YtjobjdmheocheaaBase
import Derived.Test.YtjobjdmheocheaaPure
namespace Go.Proofs.Ytjobjdmheocheaa
open Go.ChangeShapes Go.WideShapes Go.ChangeAt Go.RowKit
set_option linter.unusedVariables false
set_option linter.unusedSimpArgs false
set_option maxRecDepth 100000

theorem l1In_any (x a b : Int) (w : World) :
    Calls Try.prog 101 #[.int .i64 x, .int .i64 a, .int .i64 b] w fun e w' => e = .returned (.bool (inB x a b)) ∧ w = w' := by
  unfold inB
  by_cases h : a ≤ x
  · go_enter Try.func101, Try.ntmps101
    go_wp2
    go_ret
    simp [h]
  · go_enter Try.func101, Try.ntmps101
    go_wp2
    go_ret
    simp; omega
theorem in_any (x a b : Int) (w : World) :
    Calls Try.prog 102 #[.int .i64 x, .int .i64 a, .int .i64 b] w fun e w' => e = .returned (.bool (inB x a b)) ∧ w = w' := by
  unfold inB
  by_cases h : a ≤ x
  · go_enter Try.func102, Try.ntmps102
    go_wp2
    go_ret
    simp [h]
  · go_enter Try.func102, Try.ntmps102
    go_wp2
    go_ret
    simp; omega
end Go.Proofs.Ytjobjdmheocheaa
