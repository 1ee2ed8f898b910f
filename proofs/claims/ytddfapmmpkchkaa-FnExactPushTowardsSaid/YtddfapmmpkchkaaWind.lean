/- Contracts of the functions on breezes. Conditions: directions from 0 to 7 where a turn or a push is asked. -/
import Derived.Test.YtddfapmmpkchkaaNum
import Derived.Deep.RegionWith
namespace Go.Proofs.Ytddfapmmpkchkaa
open Go.ChangeShapes Go.WideShapes Go.ChangeAt Go.RowKit
set_option linter.unusedVariables false
set_option linter.unusedSimpArgs false

theorem quiet_same {P : Program} {f : FuncId} {args : Array Value} {w : World} {n : Nat} {v : Value} (h : Calls P f args (w.drewN n) fun e w' => e = .returned v ∧ w.drewN n = w') :
    Calls P f args (w.drewN n) fun e w'' => e = .returned v ∧ ∃ m, w'' = w.drewN m := h.mono fun _ _ ⟨he, hm⟩ => ⟨he, n, hm.symm⟩
theorem l5Wind_any (f s : Int) (w : World) :
    Calls Try.prog 34 #[.agg #[.int .i64 f, .int .i64 s]] w fun e w' => e = .returned (.bool (windB f s)) ∧ Below w.heap.size w w' := by
  go_enter Try.func34, Try.ntmps34
  go_wp2_with (first | (go_at_call 45; refine (l1In_any _ _ _ _).mono ?_; rintro e w' ⟨rfl, rfl⟩) | (go_at_call 38; refine (l5Way_any _ _).mono ?_; rintro e w' ⟨rfl, rfl⟩))
  all_goals (go_ret; exact ⟨by simp_all [windB]; try omega, (Below.refl _ _).alloc (Nat.le_refl _) _⟩)
theorem IsBreeze_any (f s : Int) (w : World) :
    Calls Try.prog 17 #[.agg #[.int .i64 f, .int .i64 s]] w fun e w' => e = .returned (.bool (windB f s)) ∧ Below w.heap.size w w' := by
  go_enter Try.func17, Try.ntmps17
  go_wp2_with (first | (go_at_call 36; refine (in_any _ _ _ _).mono ?_; rintro e w' ⟨rfl, rfl⟩) | (go_at_call 35; refine (isDirection_any _ _).mono ?_; rintro e w' ⟨rfl, rfl⟩))
  all_goals (go_ret; exact ⟨by simp_all [windB]; try omega, (Below.refl _ _).alloc (Nat.le_refl _) _⟩)
theorem sIsBreeze_any (f s : Int) (w : World) :
    Calls Try.prog 15 #[.agg #[.int .i64 f, .int .i64 s]] w fun e w' => e = .returned (.bool (windB f s)) ∧ Below w.heap.size w w' := by
  go_enter Try.func15, Try.ntmps15
  go_wp2_with (go_at_call 34; refine (l5Wind_any _ _ _).mono ?_; rintro e w' ⟨rfl, hb⟩)
  go_ret
  exact ⟨rfl, ((Below.refl _ _).alloc (Nat.le_refl _) _).trans (hb.mono (by simp))⟩
theorem toBreeze_any (f s : Int) (w : World) :
    Calls Try.prog 16 #[.agg #[.int .i64 f, .int .i64 s]] w fun e w' => e = .returned (.agg #[.int .i64 f, .int .i64 s]) ∧ Below w.heap.size w w' := by
  go_enter Try.func16, Try.ntmps16
  go_wp2
  exact bodyPost_ret (v := .agg #[.int .i64 f, .int .i64 s]) (by simp [results, Try.results16, go_sem]) rfl ⟨rfl, (((Below.refl _ _).alloc (Nat.le_refl _) _).alloc (by simp) _).alloc (by simp; omega) _⟩
theorem l1Least_any (a b : Int) (w : World) :
    Calls Try.prog 52 #[.int .i64 a, .int .i64 b] w fun e w' => e = .returned (.int .i64 (min a b)) ∧ w = w' := by
  go_enter Try.func52, Try.ntmps52
  go_wp2
  all_goals (go_ret; exact ⟨ret_int (by omega), rfl⟩)
theorem l5Turn_any (a b : Int) (w : World) (h1 : 0 ≤ a) (h2 : a ≤ 7) (h3 : 0 ≤ b) (h4 : b ≤ 7) :
    Calls Try.prog 39 #[.int .i64 a, .int .i64 b] w fun e w' => e = .returned (.int .i64 (turnN a b)) ∧ w = w' := by
  go_enter Try.func39, Try.ntmps39
  go_wp2_with (go_at_call 52; refine (l1Least_any _ _ _).mono ?_; rintro e w' ⟨rfl, rfl⟩)
  go_ret
  exact ⟨ret_int (by unfold turnN; omega), rfl⟩
theorem distance_any (a b : Int) (w : World) (h1 : -1000000 ≤ a) (h2 : a ≤ 1000000) (h3 : -1000000 ≤ b) (h4 : b ≤ 1000000) :
    Calls Try.prog 53 #[.int .i64 a, .int .i64 b] w fun e w' => e = .returned (.int .i64 (max (a - b) (b - a))) ∧ w = w' := by
  go_enter Try.func53, Try.ntmps53
  go_wp2
  all_goals (go_ret; exact ⟨ret_int (by omega), rfl⟩)
theorem turnBetween_any (a b : Int) (w : World) (h1 : 0 ≤ a) (h2 : a ≤ 7) (h3 : 0 ≤ b) (h4 : b ≤ 7) :
    Calls Try.prog 40 #[.int .i64 a, .int .i64 b] w fun e w' => e = .returned (.int .i64 (turnN a b)) ∧ w = w' := by
  go_enter Try.func40, Try.ntmps40
  go_wp2_with (go_at_call 53; refine (distance_any _ _ _ (by omega) (by omega) (by omega) (by omega)).mono ?_; rintro e w' ⟨rfl, rfl⟩)
  all_goals (go_ret; exact ⟨ret_int (by unfold turnN; omega), rfl⟩)
def turnR (a b : Int) : Value := if inB a 0 7 && inB b 0 7 then .tuple #[.int .i64 (turnN a b), .bool true] else .tuple #[.int .i64 0, .bool false]
theorem turnR_yes {a b : Int} (h1 : inB a 0 7 = true) (h2 : inB b 0 7 = true) : turnR a b = .tuple #[.int .i64 (turnN a b), .bool true] := by simp [turnR, h1, h2]
theorem turnR_no1 {a b : Int} (h1 : inB a 0 7 = false) : turnR a b = .tuple #[.int .i64 0, .bool false] := by simp [turnR, h1]
theorem turnR_no2 {a b : Int} (h1 : inB b 0 7 = false) : turnR a b = .tuple #[.int .i64 0, .bool false] := by simp [turnR, h1]
theorem sTurnBetween_any (a b : Int) (w : World) :
    Calls Try.prog 20 #[.int .i64 a, .int .i64 b] w fun e w' => e = .returned (turnR a b) ∧ w = w' := by
  cases h1 : inB a 0 7
  · rw [turnR_no1 h1]
    go_enter Try.func20, Try.ntmps20
    go_wp2_with (go_at_call 38; refine (l5Way_any _ _).mono ?_; rintro e w' ⟨rfl, rfl⟩)
    go_ret2
    exact ⟨rfl, rfl⟩
  · cases h2 : inB b 0 7
    · rw [turnR_no2 h2]
      go_enter Try.func20, Try.ntmps20
      go_wp2_with (go_at_call 38; refine (l5Way_any _ _).mono ?_; rintro e w' ⟨rfl, rfl⟩)
      go_ret2
      exact ⟨rfl, rfl⟩
    · rw [turnR_yes h1 h2]
      obtain ⟨p1, p2⟩ := inB_iff.1 h1
      obtain ⟨q1, q2⟩ := inB_iff.1 h2
      go_enter Try.func20, Try.ntmps20
      go_wp2_with (first | (go_at_call 38; refine (l5Way_any _ _).mono ?_; rintro e w' ⟨rfl, rfl⟩) | (go_at_call 39; refine (l5Turn_any _ _ _ p1 p2 q1 q2).mono ?_; rintro e w' ⟨rfl, rfl⟩))
      go_ret2
      exact ⟨rfl, rfl⟩
theorem TurnBetween_any (a b : Int) (w : World) :
    Calls Try.prog 21 #[.int .i64 a, .int .i64 b] w fun e w' => e = .returned (turnR a b) ∧ w = w' := by
  cases h1 : inB a 0 7
  · rw [turnR_no1 h1]
    go_enter Try.func21, Try.ntmps21
    go_wp2_with (go_at_call 35; refine (isDirection_any _ _).mono ?_; rintro e w' ⟨rfl, rfl⟩)
    go_ret2
    exact ⟨rfl, rfl⟩
  · cases h2 : inB b 0 7
    · rw [turnR_no2 h2]
      go_enter Try.func21, Try.ntmps21
      go_wp2_with (go_at_call 35; refine (isDirection_any _ _).mono ?_; rintro e w' ⟨rfl, rfl⟩)
      go_ret2
      exact ⟨rfl, rfl⟩
    · rw [turnR_yes h1 h2]
      obtain ⟨p1, p2⟩ := inB_iff.1 h1
      obtain ⟨q1, q2⟩ := inB_iff.1 h2
      go_enter Try.func21, Try.ntmps21
      go_wp2_with (first | (go_at_call 35; refine (isDirection_any _ _).mono ?_; rintro e w' ⟨rfl, rfl⟩) | (go_at_call 40; refine (turnBetween_any _ _ _ p1 p2 q1 q2).mono ?_; rintro e w' ⟨rfl, rfl⟩))
      go_ret2
      exact ⟨rfl, rfl⟩
end Go.Proofs.Ytddfapmmpkchkaa
