/- Contracts of the functions on breezes. Conditions: directions from 0 to 7 where a turn or a push is asked. -/
import Derived.Test.YtabedcpibnnnhaaDoorNum
import Derived.Deep.RegionWith
namespace Go.Proofs.YtabedcpibnnnhaaDoor
open Go.ChangeShapes Go.WideShapes Go.ChangeAt Go.RowKit
set_option linter.unusedVariables false
set_option linter.unusedSimpArgs false
set_option maxRecDepth 100000

theorem l5Wind_any (f s : Int) (w : World) :
    Calls Tryd.prog 64 #[.agg #[.int .i64 f, .int .i64 s]] w fun e w' => e = .returned (.bool (windB f s)) ∧ Below w.heap.size w w' := by
  go_enter Tryd.func64, Tryd.ntmps64
  go_wp2_with (first | (go_at_call 41; refine (l1In_any _ _ _ _).mono ?_; rintro e w' ⟨rfl, rfl⟩) | (go_at_call 73; refine (l5Way_any _ _).mono ?_; rintro e w' ⟨rfl, rfl⟩))
  all_goals (go_ret; exact ⟨by simp_all [windB]; try omega, (Below.refl _ _).alloc (Nat.le_refl _) _⟩)
theorem IsBreeze_any (f s : Int) (w : World) :
    Calls Tryd.prog 27 #[.agg #[.int .i64 f, .int .i64 s]] w fun e w' => e = .returned (.bool (windB f s)) ∧ Below w.heap.size w w' := by
  go_enter Tryd.func27, Tryd.ntmps27
  go_wp2_with (first | (go_at_call 39; refine (in_any _ _ _ _).mono ?_; rintro e w' ⟨rfl, rfl⟩) | (go_at_call 66; refine (isDirection_any _ _).mono ?_; rintro e w' ⟨rfl, rfl⟩))
  all_goals (go_ret; exact ⟨by simp_all [windB]; try omega, (Below.refl _ _).alloc (Nat.le_refl _) _⟩)
theorem l1Least_any (a b : Int) (w : World) :
    Calls Tryd.prog 90 #[.int .i64 a, .int .i64 b] w fun e w' => e = .returned (.int .i64 (min a b)) ∧ w = w' := by
  go_enter Tryd.func90, Tryd.ntmps90
  go_wp2
  all_goals (go_ret; exact ⟨ret_int (by omega), rfl⟩)
theorem l5Turn_any (a b : Int) (w : World) (h1 : 0 ≤ a) (h2 : a ≤ 7) (h3 : 0 ≤ b) (h4 : b ≤ 7) :
    Calls Tryd.prog 74 #[.int .i64 a, .int .i64 b] w fun e w' => e = .returned (.int .i64 (turnN a b)) ∧ w = w' := by
  go_enter Tryd.func74, Tryd.ntmps74
  go_wp2_with (go_at_call 90; refine (l1Least_any _ _ _).mono ?_; rintro e w' ⟨rfl, rfl⟩)
  go_ret
  exact ⟨ret_int (by unfold turnN; omega), rfl⟩
theorem distance_any (a b : Int) (w : World) (h1 : -1000000 ≤ a) (h2 : a ≤ 1000000) (h3 : -1000000 ≤ b) (h4 : b ≤ 1000000) :
    Calls Tryd.prog 89 #[.int .i64 a, .int .i64 b] w fun e w' => e = .returned (.int .i64 (max (a - b) (b - a))) ∧ w = w' := by
  go_enter Tryd.func89, Tryd.ntmps89
  go_wp2
  all_goals (go_ret; exact ⟨ret_int (by omega), rfl⟩)
theorem turnBetween_any (a b : Int) (w : World) (h1 : 0 ≤ a) (h2 : a ≤ 7) (h3 : 0 ≤ b) (h4 : b ≤ 7) :
    Calls Tryd.prog 72 #[.int .i64 a, .int .i64 b] w fun e w' => e = .returned (.int .i64 (turnN a b)) ∧ w = w' := by
  go_enter Tryd.func72, Tryd.ntmps72
  go_wp2_with (go_at_call 89; refine (distance_any _ _ _ (by omega) (by omega) (by omega) (by omega)).mono ?_; rintro e w' ⟨rfl, rfl⟩)
  all_goals (go_ret; exact ⟨ret_int (by unfold turnN; omega), rfl⟩)
def turnR (a b : Int) : Value := if inB a 0 7 && inB b 0 7 then .tuple #[.int .i64 (turnN a b), .bool true] else .tuple #[.int .i64 0, .bool false]
theorem turnR_yes {a b : Int} (h1 : inB a 0 7 = true) (h2 : inB b 0 7 = true) : turnR a b = .tuple #[.int .i64 (turnN a b), .bool true] := by simp [turnR, h1, h2]
theorem turnR_no1 {a b : Int} (h1 : inB a 0 7 = false) : turnR a b = .tuple #[.int .i64 0, .bool false] := by simp [turnR, h1]
theorem turnR_no2 {a b : Int} (h1 : inB b 0 7 = false) : turnR a b = .tuple #[.int .i64 0, .bool false] := by simp [turnR, h1]
theorem sTurnBetween_any (a b : Int) (w : World) :
    Calls Tryd.prog 33 #[.int .i64 a, .int .i64 b] w fun e w' => e = .returned (turnR a b) ∧ w = w' := by
  cases h1 : inB a 0 7
  · rw [turnR_no1 h1]
    go_enter Tryd.func33, Tryd.ntmps33
    go_wp2_with (go_at_call 73; refine (l5Way_any _ _).mono ?_; rintro e w' ⟨rfl, rfl⟩)
    go_ret2
    exact ⟨rfl, rfl⟩
  · cases h2 : inB b 0 7
    · rw [turnR_no2 h2]
      go_enter Tryd.func33, Tryd.ntmps33
      go_wp2_with (go_at_call 73; refine (l5Way_any _ _).mono ?_; rintro e w' ⟨rfl, rfl⟩)
      go_ret2
      exact ⟨rfl, rfl⟩
    · rw [turnR_yes h1 h2]
      obtain ⟨p1, p2⟩ := inB_iff.1 h1
      obtain ⟨q1, q2⟩ := inB_iff.1 h2
      go_enter Tryd.func33, Tryd.ntmps33
      go_wp2_with (first | (go_at_call 73; refine (l5Way_any _ _).mono ?_; rintro e w' ⟨rfl, rfl⟩) | (go_at_call 74; refine (l5Turn_any _ _ _ p1 p2 q1 q2).mono ?_; rintro e w' ⟨rfl, rfl⟩))
      go_ret2
      exact ⟨rfl, rfl⟩
theorem TurnBetween_any (a b : Int) (w : World) :
    Calls Tryd.prog 32 #[.int .i64 a, .int .i64 b] w fun e w' => e = .returned (turnR a b) ∧ w = w' := by
  cases h1 : inB a 0 7
  · rw [turnR_no1 h1]
    go_enter Tryd.func32, Tryd.ntmps32
    go_wp2_with (go_at_call 66; refine (isDirection_any _ _).mono ?_; rintro e w' ⟨rfl, rfl⟩)
    go_ret2
    exact ⟨rfl, rfl⟩
  · cases h2 : inB b 0 7
    · rw [turnR_no2 h2]
      go_enter Tryd.func32, Tryd.ntmps32
      go_wp2_with (go_at_call 66; refine (isDirection_any _ _).mono ?_; rintro e w' ⟨rfl, rfl⟩)
      go_ret2
      exact ⟨rfl, rfl⟩
    · rw [turnR_yes h1 h2]
      obtain ⟨p1, p2⟩ := inB_iff.1 h1
      obtain ⟨q1, q2⟩ := inB_iff.1 h2
      go_enter Tryd.func32, Tryd.ntmps32
      go_wp2_with (first | (go_at_call 66; refine (isDirection_any _ _).mono ?_; rintro e w' ⟨rfl, rfl⟩) | (go_at_call 72; refine (turnBetween_any _ _ _ p1 p2 q1 q2).mono ?_; rintro e w' ⟨rfl, rfl⟩))
      go_ret2
      exact ⟨rfl, rfl⟩
end Go.Proofs.YtabedcpibnnnhaaDoor
