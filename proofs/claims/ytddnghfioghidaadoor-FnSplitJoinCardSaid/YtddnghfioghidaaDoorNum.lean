/- Contracts of the small functions on numbers. Conditions: as each states. -/
import Derived.Test.YtddnghfioghidaaDoorBase
import Derived.Test.YtddnghfioghidaaDoorPure
namespace Go.Proofs.YtddnghfioghidaaDoor
open Go.ChangeShapes Go.WideShapes Go.ChangeAt Go.RowKit
set_option linter.unusedVariables false
set_option linter.unusedSimpArgs false
set_option maxRecDepth 100000

theorem l1In_any (x a b : Int) (w : World) :
    Calls Tryd.prog 85 #[.int .i64 x, .int .i64 a, .int .i64 b] w fun e w' => e = .returned (.bool (inB x a b)) ∧ w = w' := by
  unfold inB
  by_cases h : a ≤ x
  · go_enter Tryd.func85, Tryd.ntmps85
    go_wp2
    go_ret
    simp [h]
  · go_enter Tryd.func85, Tryd.ntmps85
    go_wp2
    go_ret
    simp; omega
theorem in_any (x a b : Int) (w : World) :
    Calls Tryd.prog 83 #[.int .i64 x, .int .i64 a, .int .i64 b] w fun e w' => e = .returned (.bool (inB x a b)) ∧ w = w' := by
  unfold inB
  by_cases h : a ≤ x
  · go_enter Tryd.func83, Tryd.ntmps83
    go_wp2
    go_ret
    simp [h]
  · go_enter Tryd.func83, Tryd.ntmps83
    go_wp2
    go_ret
    simp; omega
theorem l5Way_any (x : Int) (w : World) :
    Calls Tryd.prog 103 #[.int .i64 x] w fun e w' => e = .returned (.bool (inB x 0 7)) ∧ w = w' := by
  go_enter Tryd.func103, Tryd.ntmps103
  go_wp2_with (go_at_call 85; refine (l1In_any _ _ _ _).mono ?_; rintro e w' ⟨rfl, rfl⟩)
  go_ret
  exact ⟨rfl, rfl⟩
theorem isDirection_any (x : Int) (w : World) :
    Calls Tryd.prog 98 #[.int .i64 x] w fun e w' => e = .returned (.bool (inB x 0 7)) ∧ w = w' := by
  go_enter Tryd.func98, Tryd.ntmps98
  go_wp2_with (go_at_call 83; refine (in_any _ _ _ _).mono ?_; rintro e w' ⟨rfl, rfl⟩)
  go_ret
  exact ⟨rfl, rfl⟩
end Go.Proofs.YtddnghfioghidaaDoor
