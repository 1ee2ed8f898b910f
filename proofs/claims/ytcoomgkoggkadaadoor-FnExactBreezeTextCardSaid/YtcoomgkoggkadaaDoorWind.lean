/- Contracts of the functions on breezes. Conditions: directions from 0 to 7 where a turn or a push is asked. -/
import Derived.Test.YtcoomgkoggkadaaDoorNum
import Derived.Deep.RegionWith
namespace Go.Proofs.YtcoomgkoggkadaaDoor
open Go.ChangeShapes Go.WideShapes Go.ChangeAt Go.RowKit
set_option linter.unusedVariables false
set_option linter.unusedSimpArgs false
set_option maxRecDepth 100000

theorem l5Wind_any (f s : Int) (w : World) :
    Calls Tryd.prog 66 #[.agg #[.int .i64 f, .int .i64 s]] w fun e w' => e = .returned (.bool (windB f s)) ∧ Below w.heap.size w w' := by
  go_enter Tryd.func66, Tryd.ntmps66
  go_wp2_with (first | (go_at_call 52; refine (l1In_any _ _ _ _).mono ?_; rintro e w' ⟨rfl, rfl⟩) | (go_at_call 89; refine (l5Way_any _ _).mono ?_; rintro e w' ⟨rfl, rfl⟩))
  all_goals (go_ret; exact ⟨by simp_all [windB]; try omega, (Below.refl _ _).alloc (Nat.le_refl _) _⟩)
theorem IsBreeze_any (f s : Int) (w : World) :
    Calls Tryd.prog 68 #[.agg #[.int .i64 f, .int .i64 s]] w fun e w' => e = .returned (.bool (windB f s)) ∧ Below w.heap.size w w' := by
  go_enter Tryd.func68, Tryd.ntmps68
  go_wp2_with (first | (go_at_call 54; refine (in_any _ _ _ _).mono ?_; rintro e w' ⟨rfl, rfl⟩) | (go_at_call 91; refine (isDirection_any _ _).mono ?_; rintro e w' ⟨rfl, rfl⟩))
  all_goals (go_ret; exact ⟨by simp_all [windB]; try omega, (Below.refl _ _).alloc (Nat.le_refl _) _⟩)
theorem toBreeze_any (f s : Int) (w : World) :
    Calls Tryd.prog 28 #[.agg #[.int .i64 f, .int .i64 s]] w fun e w' => e = .returned (.agg #[.int .i64 f, .int .i64 s]) ∧ Below w.heap.size w w' := by
  go_enter Tryd.func28, Tryd.ntmps28
  go_wp2
  exact bodyPost_ret (v := .agg #[.int .i64 f, .int .i64 s]) (by simp [results, Tryd.results28, go_sem]) rfl ⟨rfl, (((Below.refl _ _).alloc (Nat.le_refl _) _).alloc (by simp) _).alloc (by simp; omega) _⟩
end Go.Proofs.YtcoomgkoggkadaaDoor
