/- Contracts of the functions on breezes. Conditions: directions from 0 to 7 where a turn or a push is asked. -/
import Derived.Test.YtddnghfioghidaaDoorNum
import Derived.Deep.RegionWith
namespace Go.Proofs.YtddnghfioghidaaDoor
open Go.ChangeShapes Go.WideShapes Go.ChangeAt Go.RowKit
set_option linter.unusedVariables false
set_option linter.unusedSimpArgs false
set_option maxRecDepth 100000

theorem l5Wind_any (f s : Int) (w : World) :
    Calls Tryd.prog 66 #[.agg #[.int .i64 f, .int .i64 s]] w fun e w' => e = .returned (.bool (windB f s)) ∧ Below w.heap.size w w' := by
  go_enter Tryd.func66, Tryd.ntmps66
  go_wp2_with (first | (go_at_call 85; refine (l1In_any _ _ _ _).mono ?_; rintro e w' ⟨rfl, rfl⟩) | (go_at_call 103; refine (l5Way_any _ _).mono ?_; rintro e w' ⟨rfl, rfl⟩))
  all_goals (go_ret; exact ⟨by simp_all [windB]; try omega, (Below.refl _ _).alloc (Nat.le_refl _) _⟩)
theorem IsBreeze_any (f s : Int) (w : World) :
    Calls Tryd.prog 54 #[.agg #[.int .i64 f, .int .i64 s]] w fun e w' => e = .returned (.bool (windB f s)) ∧ Below w.heap.size w w' := by
  go_enter Tryd.func54, Tryd.ntmps54
  go_wp2_with (first | (go_at_call 83; refine (in_any _ _ _ _).mono ?_; rintro e w' ⟨rfl, rfl⟩) | (go_at_call 98; refine (isDirection_any _ _).mono ?_; rintro e w' ⟨rfl, rfl⟩))
  all_goals (go_ret; exact ⟨by simp_all [windB]; try omega, (Below.refl _ _).alloc (Nat.le_refl _) _⟩)
theorem l1Least_any (a b : Int) (w : World) :
    Calls Tryd.prog 125 #[.int .i64 a, .int .i64 b] w fun e w' => e = .returned (.int .i64 (min a b)) ∧ w = w' := by
  go_enter Tryd.func125, Tryd.ntmps125
  go_wp2
  all_goals (go_ret; exact ⟨ret_int (by omega), rfl⟩)
theorem l5Turn_any (a b : Int) (w : World) (h1 : 0 ≤ a) (h2 : a ≤ 7) (h3 : 0 ≤ b) (h4 : b ≤ 7) :
    Calls Tryd.prog 104 #[.int .i64 a, .int .i64 b] w fun e w' => e = .returned (.int .i64 (turnN a b)) ∧ w = w' := by
  go_enter Tryd.func104, Tryd.ntmps104
  go_wp2_with (go_at_call 125; refine (l1Least_any _ _ _).mono ?_; rintro e w' ⟨rfl, rfl⟩)
  go_ret
  exact ⟨ret_int (by unfold turnN; omega), rfl⟩
theorem distance_any (a b : Int) (w : World) (h1 : -1000000 ≤ a) (h2 : a ≤ 1000000) (h3 : -1000000 ≤ b) (h4 : b ≤ 1000000) :
    Calls Tryd.prog 124 #[.int .i64 a, .int .i64 b] w fun e w' => e = .returned (.int .i64 (max (a - b) (b - a))) ∧ w = w' := by
  go_enter Tryd.func124, Tryd.ntmps124
  go_wp2
  all_goals (go_ret; exact ⟨ret_int (by omega), rfl⟩)
theorem turnBetween_any (a b : Int) (w : World) (h1 : 0 ≤ a) (h2 : a ≤ 7) (h3 : 0 ≤ b) (h4 : b ≤ 7) :
    Calls Tryd.prog 102 #[.int .i64 a, .int .i64 b] w fun e w' => e = .returned (.int .i64 (turnN a b)) ∧ w = w' := by
  go_enter Tryd.func102, Tryd.ntmps102
  go_wp2_with (go_at_call 124; refine (distance_any _ _ _ (by omega) (by omega) (by omega) (by omega)).mono ?_; rintro e w' ⟨rfl, rfl⟩)
  all_goals (go_ret; exact ⟨ret_int (by unfold turnN; omega), rfl⟩)
def turnR (a b : Int) : Value := if inB a 0 7 && inB b 0 7 then .tuple #[.int .i64 (turnN a b), .bool true] else .tuple #[.int .i64 0, .bool false]
theorem turnR_yes {a b : Int} (h1 : inB a 0 7 = true) (h2 : inB b 0 7 = true) : turnR a b = .tuple #[.int .i64 (turnN a b), .bool true] := by simp [turnR, h1, h2]
theorem turnR_no1 {a b : Int} (h1 : inB a 0 7 = false) : turnR a b = .tuple #[.int .i64 0, .bool false] := by simp [turnR, h1]
theorem turnR_no2 {a b : Int} (h1 : inB b 0 7 = false) : turnR a b = .tuple #[.int .i64 0, .bool false] := by simp [turnR, h1]
theorem sTurnBetween_any (a b : Int) (w : World) :
    Calls Tryd.prog 58 #[.int .i64 a, .int .i64 b] w fun e w' => e = .returned (turnR a b) ∧ w = w' := by
  cases h1 : inB a 0 7
  · rw [turnR_no1 h1]
    go_enter Tryd.func58, Tryd.ntmps58
    go_wp2_with (go_at_call 103; refine (l5Way_any _ _).mono ?_; rintro e w' ⟨rfl, rfl⟩)
    go_ret2
    exact ⟨rfl, rfl⟩
  · cases h2 : inB b 0 7
    · rw [turnR_no2 h2]
      go_enter Tryd.func58, Tryd.ntmps58
      go_wp2_with (go_at_call 103; refine (l5Way_any _ _).mono ?_; rintro e w' ⟨rfl, rfl⟩)
      go_ret2
      exact ⟨rfl, rfl⟩
    · rw [turnR_yes h1 h2]
      obtain ⟨p1, p2⟩ := inB_iff.1 h1
      obtain ⟨q1, q2⟩ := inB_iff.1 h2
      go_enter Tryd.func58, Tryd.ntmps58
      go_wp2_with (first | (go_at_call 103; refine (l5Way_any _ _).mono ?_; rintro e w' ⟨rfl, rfl⟩) | (go_at_call 104; refine (l5Turn_any _ _ _ p1 p2 q1 q2).mono ?_; rintro e w' ⟨rfl, rfl⟩))
      go_ret2
      exact ⟨rfl, rfl⟩
theorem TurnBetween_any (a b : Int) (w : World) :
    Calls Tryd.prog 57 #[.int .i64 a, .int .i64 b] w fun e w' => e = .returned (turnR a b) ∧ w = w' := by
  cases h1 : inB a 0 7
  · rw [turnR_no1 h1]
    go_enter Tryd.func57, Tryd.ntmps57
    go_wp2_with (go_at_call 98; refine (isDirection_any _ _).mono ?_; rintro e w' ⟨rfl, rfl⟩)
    go_ret2
    exact ⟨rfl, rfl⟩
  · cases h2 : inB b 0 7
    · rw [turnR_no2 h2]
      go_enter Tryd.func57, Tryd.ntmps57
      go_wp2_with (go_at_call 98; refine (isDirection_any _ _).mono ?_; rintro e w' ⟨rfl, rfl⟩)
      go_ret2
      exact ⟨rfl, rfl⟩
    · rw [turnR_yes h1 h2]
      obtain ⟨p1, p2⟩ := inB_iff.1 h1
      obtain ⟨q1, q2⟩ := inB_iff.1 h2
      go_enter Tryd.func57, Tryd.ntmps57
      go_wp2_with (first | (go_at_call 98; refine (isDirection_any _ _).mono ?_; rintro e w' ⟨rfl, rfl⟩) | (go_at_call 102; refine (turnBetween_any _ _ _ p1 p2 q1 q2).mono ?_; rintro e w' ⟨rfl, rfl⟩))
      go_ret2
      exact ⟨rfl, rfl⟩
end Go.Proofs.YtddnghfioghidaaDoor
