/- Contracts of the functions on breezes. Conditions: directions from 0 to 7 where a turn or a push is asked. -/
import Derived.Test.YtdopgagehhdknaaNum
import Derived.Deep.RegionWith
namespace Go.Proofs.Ytdopgagehhdknaa
open Go.ChangeShapes Go.WideShapes Go.ChangeAt Go.RowKit
set_option linter.unusedVariables false
set_option linter.unusedSimpArgs false
set_option maxRecDepth 100000

theorem l5Wind_any (f s : Int) (w : World) :
    Calls Try.prog 98 #[.agg #[.int .i64 f, .int .i64 s]] w fun e w' => e = .returned (.bool (windB f s)) ∧ Below w.heap.size w w' := by
  go_enter Try.func98, Try.ntmps98
  go_wp2_with (first | (go_at_call 68; refine (l1In_any _ _ _ _).mono ?_; rintro e w' ⟨rfl, rfl⟩) | (go_at_call 109; refine (l5Way_any _ _).mono ?_; rintro e w' ⟨rfl, rfl⟩))
  all_goals (go_ret; exact ⟨by simp_all [windB]; try omega, (Below.refl _ _).alloc (Nat.le_refl _) _⟩)
theorem IsBreeze_any (f s : Int) (w : World) :
    Calls Try.prog 102 #[.agg #[.int .i64 f, .int .i64 s]] w fun e w' => e = .returned (.bool (windB f s)) ∧ Below w.heap.size w w' := by
  go_enter Try.func102, Try.ntmps102
  go_wp2_with (first | (go_at_call 58; refine (in_any _ _ _ _).mono ?_; rintro e w' ⟨rfl, rfl⟩) | (go_at_call 111; refine (isDirection_any _ _).mono ?_; rintro e w' ⟨rfl, rfl⟩))
  all_goals (go_ret; exact ⟨by simp_all [windB]; try omega, (Below.refl _ _).alloc (Nat.le_refl _) _⟩)
theorem toBreeze_any (f s : Int) (w : World) :
    Calls Try.prog 99 #[.agg #[.int .i64 f, .int .i64 s]] w fun e w' => e = .returned (.agg #[.int .i64 f, .int .i64 s]) ∧ Below w.heap.size w w' := by
  go_enter Try.func99, Try.ntmps99
  go_wp2
  exact bodyPost_ret (v := .agg #[.int .i64 f, .int .i64 s]) (by simp [results, Try.results99, go_sem]) rfl ⟨rfl, (((Below.refl _ _).alloc (Nat.le_refl _) _).alloc (by simp) _).alloc (by simp; omega) _⟩
theorem distance_any (a b : Int) (w : World) (h1 : -1000000 ≤ a) (h2 : a ≤ 1000000) (h3 : -1000000 ≤ b) (h4 : b ≤ 1000000) :
    Calls Try.prog 105 #[.int .i64 a, .int .i64 b] w fun e w' => e = .returned (.int .i64 (max (a - b) (b - a))) ∧ w = w' := by
  go_enter Try.func105, Try.ntmps105
  go_wp2
  all_goals (go_ret; exact ⟨ret_int (by omega), rfl⟩)
end Go.Proofs.Ytdopgagehhdknaa
