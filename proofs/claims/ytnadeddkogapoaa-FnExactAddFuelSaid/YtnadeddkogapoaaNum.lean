/- Contracts of the small functions on numbers. Conditions: as each states. -/
import Derived.Test.YtnadeddkogapoaaBase
import Derived.Test.YtnadeddkogapoaaPure
namespace Go.Proofs.Ytnadeddkogapoaa
open Go.ChangeShapes Go.WideShapes Go.ChangeAt Go.RowKit
set_option linter.unusedVariables false
set_option linter.unusedSimpArgs false
set_option maxRecDepth 100000

theorem l1In_any (x a b : Int) (w : World) :
    Calls Try.prog 29 #[.int .i64 x, .int .i64 a, .int .i64 b] w fun e w' => e = .returned (.bool (inB x a b)) ∧ w = w' := by
  unfold inB
  by_cases h : a ≤ x
  · go_enter Try.func29, Try.ntmps29
    go_wp2
    go_ret
    simp [h]
  · go_enter Try.func29, Try.ntmps29
    go_wp2
    go_ret
    simp; omega
theorem in_any (x a b : Int) (w : World) :
    Calls Try.prog 33 #[.int .i64 x, .int .i64 a, .int .i64 b] w fun e w' => e = .returned (.bool (inB x a b)) ∧ w = w' := by
  unfold inB
  by_cases h : a ≤ x
  · go_enter Try.func33, Try.ntmps33
    go_wp2
    go_ret
    simp [h]
  · go_enter Try.func33, Try.ntmps33
    go_wp2
    go_ret
    simp; omega
end Go.Proofs.Ytnadeddkogapoaa
