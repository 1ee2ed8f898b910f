/- Contracts of the functions on breezes. Conditions: directions from 0 to 7 where a turn or a push is asked. -/
import Derived.Test.YtddfapmmpkchkaaNum
import Derived.Deep.RegionWith
namespace Go.Proofs.Ytddfapmmpkchkaa
open Go.ChangeShapes Go.WideShapes Go.ChangeAt Go.RowKit
set_option linter.unusedVariables false
set_option linter.unusedSimpArgs false

theorem ret_int {k : IntKind} {a b : Int} (h : a = b) : Ending.returned (.int k a) = .returned (.int k b) := by rw [h]
theorem quiet_same {P : Program} {f : FuncId} {args : Array Value} {w : World} {n : Nat} {v : Value} (h : Calls P f args (w.drewN n) fun e w' => e = .returned v ∧ w.drewN n = w') :
    Calls P f args (w.drewN n) fun e w'' => e = .returned v ∧ ∃ m, w'' = w.drewN m := h.mono fun _ _ ⟨he, hm⟩ => ⟨he, n, hm.symm⟩
theorem l5Wind_any (f s : Int) (w : World) :
    Calls Try.prog 34 #[.agg #[.int .i64 f, .int .i64 s]] w fun e w' => e = .returned (.bool (windB f s)) ∧ Below w.heap.size w w' := by
  go_enter Try.func34, Try.ntmps34
  go_wp2_with (first | (go_at_call 45; refine (l1In_any _ _ _ _).mono ?_; rintro e w' ⟨rfl, rfl⟩) | (go_at_call 38; refine (l5Way_any _ _).mono ?_; rintro e w' ⟨rfl, rfl⟩))
  all_goals (go_ret; exact ⟨by simp_all [windB]; try omega, (Below.refl _ _).alloc (Nat.le_refl _) _⟩)
theorem IsBreeze_any (f s : Int) (w : World) :
    Calls Try.prog 17 #[.agg #[.int .i64 f, .int .i64 s]] w fun e w' => e = .returned (.bool (windB f s)) ∧ Below w.heap.size w w' := by
  go_enter Try.func17, Try.ntmps17
  go_wp2_with (first | (go_at_call 36; refine (in_any _ _ _ _).mono ?_; rintro e w' ⟨rfl, rfl⟩) | (go_at_call 35; refine (isDirection_any _ _).mono ?_; rintro e w' ⟨rfl, rfl⟩))
  all_goals (go_ret; exact ⟨by simp_all [windB]; try omega, (Below.refl _ _).alloc (Nat.le_refl _) _⟩)
theorem sIsBreeze_any (f s : Int) (w : World) :
    Calls Try.prog 15 #[.agg #[.int .i64 f, .int .i64 s]] w fun e w' => e = .returned (.bool (windB f s)) ∧ Below w.heap.size w w' := by
  go_enter Try.func15, Try.ntmps15
  go_wp2_with (go_at_call 34; refine (l5Wind_any _ _ _).mono ?_; rintro e w' ⟨rfl, hb⟩)
  go_ret
  exact ⟨rfl, ((Below.refl _ _).alloc (Nat.le_refl _) _).trans (hb.mono (by simp))⟩
theorem toBreeze_any (f s : Int) (w : World) :
    Calls Try.prog 16 #[.agg #[.int .i64 f, .int .i64 s]] w fun e w' => e = .returned (.agg #[.int .i64 f, .int .i64 s]) ∧ Below w.heap.size w w' := by
  go_enter Try.func16, Try.ntmps16
  go_wp2
  exact bodyPost_ret (v := .agg #[.int .i64 f, .int .i64 s]) (by simp [results, Try.results16, go_sem]) rfl ⟨rfl, (((Below.refl _ _).alloc (Nat.le_refl _) _).alloc (by simp) _).alloc (by simp; omega) _⟩
theorem l1Least_any (a b : Int) (w : World) :
    Calls Try.prog 52 #[.int .i64 a, .int .i64 b] w fun e w' => e = .returned (.int .i64 (min a b)) ∧ w = w' := by
  go_enter Try.func52, Try.ntmps52
  go_wp2
  all_goals (go_ret; exact ⟨ret_int (by omega), rfl⟩)
theorem l5Turn_any (a b : Int) (w : World) (h1 : 0 ≤ a) (h2 : a ≤ 7) (h3 : 0 ≤ b) (h4 : b ≤ 7) :
    Calls Try.prog 39 #[.int .i64 a, .int .i64 b] w fun e w' => e = .returned (.int .i64 (turnN a b)) ∧ w = w' := by
  go_enter Try.func39, Try.ntmps39
  go_wp2_with (go_at_call 52; refine (l1Least_any _ _ _).mono ?_; rintro e w' ⟨rfl, rfl⟩)
  go_ret
  exact ⟨ret_int (by unfold turnN; omega), rfl⟩
theorem distance_any (a b : Int) (w : World) (h1 : -1000000 ≤ a) (h2 : a ≤ 1000000) (h3 : -1000000 ≤ b) (h4 : b ≤ 1000000) :
    Calls Try.prog 53 #[.int .i64 a, .int .i64 b] w fun e w' => e = .returned (.int .i64 (max (a - b) (b - a))) ∧ w = w' := by
  go_enter Try.func53, Try.ntmps53
  go_wp2
  all_goals (go_ret; exact ⟨ret_int (by omega), rfl⟩)
theorem turnBetween_any (a b : Int) (w : World) (h1 : 0 ≤ a) (h2 : a ≤ 7) (h3 : 0 ≤ b) (h4 : b ≤ 7) :
    Calls Try.prog 40 #[.int .i64 a, .int .i64 b] w fun e w' => e = .returned (.int .i64 (turnN a b)) ∧ w = w' := by
  go_enter Try.func40, Try.ntmps40
  go_wp2_with (go_at_call 53; refine (distance_any _ _ _ (by omega) (by omega) (by omega) (by omega)).mono ?_; rintro e w' ⟨rfl, rfl⟩)
  all_goals (go_ret; exact ⟨ret_int (by unfold turnN; omega), rfl⟩)
theorem tab_index0 (w : World) : (Instr.index 56 (.agg #[.int .i64 100, .int .i64 71, .int .i64 0, .int .i64 (-71), .int .i64 (-100)]) (.int .i64 0)).run Try.prog w = .ok (.int .i64 100) w := by kernel_rfl
theorem tab_index1 (w : World) : (Instr.index 56 (.agg #[.int .i64 100, .int .i64 71, .int .i64 0, .int .i64 (-71), .int .i64 (-100)]) (.int .i64 1)).run Try.prog w = .ok (.int .i64 71) w := by kernel_rfl
theorem tab_index2 (w : World) : (Instr.index 56 (.agg #[.int .i64 100, .int .i64 71, .int .i64 0, .int .i64 (-71), .int .i64 (-100)]) (.int .i64 2)).run Try.prog w = .ok (.int .i64 0) w := by kernel_rfl
theorem tab_index3 (w : World) : (Instr.index 56 (.agg #[.int .i64 100, .int .i64 71, .int .i64 0, .int .i64 (-71), .int .i64 (-100)]) (.int .i64 3)).run Try.prog w = .ok (.int .i64 (-71)) w := by kernel_rfl
theorem tab_index4 (w : World) : (Instr.index 56 (.agg #[.int .i64 100, .int .i64 71, .int .i64 0, .int .i64 (-71), .int .i64 (-100)]) (.int .i64 4)).run Try.prog w = .ok (.int .i64 (-100)) w := by kernel_rfl
theorem tab_index (k : Int) (h1 : 0 ≤ k) (h2 : k ≤ 4) (w : World) :
    (Instr.index 56 (.agg #[.int .i64 100, .int .i64 71, .int .i64 0, .int .i64 (-71), .int .i64 (-100)]) (.int .i64 k)).run Try.prog w = .ok (.int .i64 (tabN k)) w := by
  have h : k = 0 ∨ k = 1 ∨ k = 2 ∨ k = 3 ∨ k = 4 := by omega
  rcases h with rfl | rfl | rfl | rfl | rfl
  · exact tab_index0 w
  · exact tab_index1 w
  · exact tab_index2 w
  · exact tab_index3 w
  · exact tab_index4 w
theorem push_any (f s to : Int) (w : World) (h1 : 0 ≤ f) (h2 : f ≤ 7) (h3 : 0 ≤ to) (h4 : to ≤ 7) (h5 : 0 ≤ s) (h6 : s ≤ 120) :
    Calls Try.prog 44 #[.agg #[.int .i64 f, .int .i64 s], .int .i64 to] w fun e w' => e = .returned (.int .i64 (pushN f s to)) ∧ Below w.heap.size w w' := by
  have hT : Hid (∀ W, Calls Try.prog 40 #[.int .i64 ((f + 4) % 8), .int .i64 to] W fun e w' => e = .returned (.int .i64 (turnN ((f + 4) % 8) to)) ∧ W = w') :=
    fun W => turnBetween_any _ _ W (by omega) (by omega) h3 h4
  obtain ⟨k1, k2⟩ := turn_le (a := (f + 4) % 8) (b := to) (by omega) (by omega) h3 h4
  unfold pushN
  generalize turnN ((f + 4) % 8) to = k at hT k1 k2 ⊢
  have hi := tab_index k k1 k2
  have hm := mul_tab_le s k h5 h6
  have e1 : IntKind.i64.wrap (f + 4) = f + 4 := IntWalk.i64_in _ (by omega)
  have e2 : (f + 4).tmod 8 = (f + 4) % 8 := by rw [Int.tmod_eq_emod_of_nonneg (by omega)]
  have e3 : IntKind.i64.wrap ((f + 4) % 8) = (f + 4) % 8 := IntWalk.i64_in _ (by omega)
  have e4 : IntKind.i64.wrap (s * tabN k) = s * tabN k := IntWalk.i64_in _ (by omega)
  have e5 : IntKind.i64.wrap ((s * tabN k).tdiv 100) = (s * tabN k).tdiv 100 := IntWalk.i64_in _ (by have := Int.natAbs_tdiv_le_natAbs (s * tabN k) 100; omega)
  clear hm
  go_enter Try.func44, Try.ntmps44
  go_wp2_with fail
  go_quiet ((go_at_call 40; with_reducible exact quiet_same (hT.out _)))
  go_wp2
  go_ret
  exact ⟨rfl, ((Below.refl _ _).alloc (Nat.le_refl _) _).trans ⟨rfl, rfl, rfl, Nat.le_refl _, fun _ _ => rfl⟩⟩
theorem tab_elem (k : Int) (h1 : 0 ≤ k) (h2 : k ≤ 4) (h : k.toNat < 5) : [Value.int IntKind.i64 100, Value.int IntKind.i64 71, Value.int IntKind.i64 0, Value.int IntKind.i64 (-71), Value.int IntKind.i64 (-100)][k.toNat] = .int .i64 (tabN k) := by
  have h : k = 0 ∨ k = 1 ∨ k = 2 ∨ k = 3 ∨ k = 4 := by omega
  rcases h with rfl | rfl | rfl | rfl | rfl <;> rfl
set_option maxHeartbeats 8000000 in
theorem l5Push_any (f s to : Int) (w : World) (h1 : 0 ≤ f) (h2 : f ≤ 7) (h3 : 0 ≤ to) (h4 : to ≤ 7) (h5 : 0 ≤ s) (h6 : s ≤ 120) :
    Calls Try.prog 43 #[.agg #[.int .i64 f, .int .i64 s], .int .i64 to] w fun e w' => e = .returned (.int .i64 (pushN f s to)) ∧ Below w.heap.size w w' := by
  have hT : Hid (∀ W, Calls Try.prog 39 #[.int .i64 ((f + 4) % 8), .int .i64 to] W fun e w' => e = .returned (.int .i64 (turnN ((f + 4) % 8) to)) ∧ W = w') :=
    fun W => l5Turn_any _ _ W (by omega) (by omega) h3 h4
  obtain ⟨k1, k2⟩ := turn_le (a := (f + 4) % 8) (b := to) (by omega) (by omega) h3 h4
  unfold pushN
  generalize turnN ((f + 4) % 8) to = k at hT k1 k2 ⊢
  have hm := mul_tab_le s k h5 h6
  have e1 : IntKind.i64.wrap (f + 4) = f + 4 := IntWalk.i64_in _ (by omega)
  have e2 : (f + 4).tmod 8 = (f + 4) % 8 := by rw [Int.tmod_eq_emod_of_nonneg (by omega)]
  have e3 : IntKind.i64.wrap ((f + 4) % 8) = (f + 4) % 8 := IntWalk.i64_in _ (by omega)
  have e4 : IntKind.i64.wrap (s * tabN k) = s * tabN k := IntWalk.i64_in _ (by omega)
  have e5 : IntKind.i64.wrap ((s * tabN k).tdiv 100) = (s * tabN k).tdiv 100 := IntWalk.i64_in _ (by have := Int.natAbs_tdiv_le_natAbs (s * tabN k) 100; omega)
  clear hm
  have k5 : k < 5 := by omega
  have hx := tab_elem k k1 k2
  go_enter Try.func43, Try.ntmps43
  go_wp2_with fail
  go_region_with (go_at_call 39; with_reducible refine (hT.out _).mono ?_; rintro e w' ⟨rfl, rfl⟩)
  all_goals
    go_wp2
    go_ret
    exact ⟨rfl, ((((Below.refl _ _).alloc (Nat.le_refl _) _).alloc (by simp) _).trans ⟨rfl, rfl, rfl, Nat.le_refl _, fun _ _ => rfl⟩)⟩
def turnR (a b : Int) : Value := if inB a 0 7 && inB b 0 7 then .tuple #[.int .i64 (turnN a b), .bool true] else .tuple #[.int .i64 0, .bool false]
theorem turnR_yes {a b : Int} (h1 : inB a 0 7 = true) (h2 : inB b 0 7 = true) : turnR a b = .tuple #[.int .i64 (turnN a b), .bool true] := by simp [turnR, h1, h2]
theorem turnR_no1 {a b : Int} (h1 : inB a 0 7 = false) : turnR a b = .tuple #[.int .i64 0, .bool false] := by simp [turnR, h1]
theorem turnR_no2 {a b : Int} (h1 : inB b 0 7 = false) : turnR a b = .tuple #[.int .i64 0, .bool false] := by simp [turnR, h1]
theorem sTurnBetween_any (a b : Int) (w : World) :
    Calls Try.prog 20 #[.int .i64 a, .int .i64 b] w fun e w' => e = .returned (turnR a b) ∧ w = w' := by
  cases h1 : inB a 0 7
  · rw [turnR_no1 h1]
    go_enter Try.func20, Try.ntmps20
    go_wp2_with (go_at_call 38; refine (l5Way_any _ _).mono ?_; rintro e w' ⟨rfl, rfl⟩)
    go_ret2
    exact ⟨rfl, rfl⟩
  · cases h2 : inB b 0 7
    · rw [turnR_no2 h2]
      go_enter Try.func20, Try.ntmps20
      go_wp2_with (go_at_call 38; refine (l5Way_any _ _).mono ?_; rintro e w' ⟨rfl, rfl⟩)
      go_ret2
      exact ⟨rfl, rfl⟩
    · rw [turnR_yes h1 h2]
      obtain ⟨p1, p2⟩ := inB_iff.1 h1
      obtain ⟨q1, q2⟩ := inB_iff.1 h2
      go_enter Try.func20, Try.ntmps20
      go_wp2_with (first | (go_at_call 38; refine (l5Way_any _ _).mono ?_; rintro e w' ⟨rfl, rfl⟩) | (go_at_call 39; refine (l5Turn_any _ _ _ p1 p2 q1 q2).mono ?_; rintro e w' ⟨rfl, rfl⟩))
      go_ret2
      exact ⟨rfl, rfl⟩
theorem TurnBetween_any (a b : Int) (w : World) :
    Calls Try.prog 21 #[.int .i64 a, .int .i64 b] w fun e w' => e = .returned (turnR a b) ∧ w = w' := by
  cases h1 : inB a 0 7
  · rw [turnR_no1 h1]
    go_enter Try.func21, Try.ntmps21
    go_wp2_with (go_at_call 35; refine (isDirection_any _ _).mono ?_; rintro e w' ⟨rfl, rfl⟩)
    go_ret2
    exact ⟨rfl, rfl⟩
  · cases h2 : inB b 0 7
    · rw [turnR_no2 h2]
      go_enter Try.func21, Try.ntmps21
      go_wp2_with (go_at_call 35; refine (isDirection_any _ _).mono ?_; rintro e w' ⟨rfl, rfl⟩)
      go_ret2
      exact ⟨rfl, rfl⟩
    · rw [turnR_yes h1 h2]
      obtain ⟨p1, p2⟩ := inB_iff.1 h1
      obtain ⟨q1, q2⟩ := inB_iff.1 h2
      go_enter Try.func21, Try.ntmps21
      go_wp2_with (first | (go_at_call 35; refine (isDirection_any _ _).mono ?_; rintro e w' ⟨rfl, rfl⟩) | (go_at_call 40; refine (turnBetween_any _ _ _ p1 p2 q1 q2).mono ?_; rintro e w' ⟨rfl, rfl⟩))
      go_ret2
      exact ⟨rfl, rfl⟩
end Go.Proofs.Ytddfapmmpkchkaa
