/- Contracts of the pushes of breezes. Conditions: a valid breeze and a direction. -/
import Derived.Test.YtabedcpibnnnhaaWind
namespace Go.Proofs.Ytabedcpibnnnhaa
open Go.ChangeShapes Go.WideShapes Go.ChangeAt Go.RowKit
set_option linter.unusedVariables false
set_option linter.unusedSimpArgs false
set_option maxRecDepth 100000

theorem tab_index0 (w : World) : (Instr.index 117 (.agg #[.int .i64 100, .int .i64 71, .int .i64 0, .int .i64 (-71), .int .i64 (-100)]) (.int .i64 0)).run Try.prog w = .ok (.int .i64 100) w := by kernel_rfl
theorem tab_index1 (w : World) : (Instr.index 117 (.agg #[.int .i64 100, .int .i64 71, .int .i64 0, .int .i64 (-71), .int .i64 (-100)]) (.int .i64 1)).run Try.prog w = .ok (.int .i64 71) w := by kernel_rfl
theorem tab_index2 (w : World) : (Instr.index 117 (.agg #[.int .i64 100, .int .i64 71, .int .i64 0, .int .i64 (-71), .int .i64 (-100)]) (.int .i64 2)).run Try.prog w = .ok (.int .i64 0) w := by kernel_rfl
theorem tab_index3 (w : World) : (Instr.index 117 (.agg #[.int .i64 100, .int .i64 71, .int .i64 0, .int .i64 (-71), .int .i64 (-100)]) (.int .i64 3)).run Try.prog w = .ok (.int .i64 (-71)) w := by kernel_rfl
theorem tab_index4 (w : World) : (Instr.index 117 (.agg #[.int .i64 100, .int .i64 71, .int .i64 0, .int .i64 (-71), .int .i64 (-100)]) (.int .i64 4)).run Try.prog w = .ok (.int .i64 (-100)) w := by kernel_rfl
theorem tab_index (k : Int) (h1 : 0 ≤ k) (h2 : k ≤ 4) (w : World) :
    (Instr.index 117 (.agg #[.int .i64 100, .int .i64 71, .int .i64 0, .int .i64 (-71), .int .i64 (-100)]) (.int .i64 k)).run Try.prog w = .ok (.int .i64 (tabN k)) w := by
  have h : k = 0 ∨ k = 1 ∨ k = 2 ∨ k = 3 ∨ k = 4 := by omega
  rcases h with rfl | rfl | rfl | rfl | rfl
  · exact tab_index0 w
  · exact tab_index1 w
  · exact tab_index2 w
  · exact tab_index3 w
  · exact tab_index4 w
theorem push_any (f s to : Int) (w : World) (h1 : 0 ≤ f) (h2 : f ≤ 7) (h3 : 0 ≤ to) (h4 : to ≤ 7) (h5 : 0 ≤ s) (h6 : s ≤ 120) :
    Calls Try.prog 80 #[.agg #[.int .i64 f, .int .i64 s], .int .i64 to] w fun e w' => e = .returned (.int .i64 (pushN f s to)) ∧ Below w.heap.size w w' := by
  have hT : Hid (∀ W, Calls Try.prog 62 #[.int .i64 ((f + 4) % 8), .int .i64 to] W fun e w' => e = .returned (.int .i64 (turnN ((f + 4) % 8) to)) ∧ W = w') :=
    fun W => turnBetween_any _ _ W (by omega) (by omega) h3 h4
  obtain ⟨k1, k2⟩ := turn_le (a := (f + 4) % 8) (b := to) (by omega) (by omega) h3 h4
  unfold pushN
  generalize turnN ((f + 4) % 8) to = k at hT k1 k2 ⊢
  have hi := tab_index k k1 k2
  have hm := mul_tab_le s k h5 h6
  have e1 : IntKind.i64.wrap (f + 4) = f + 4 := IntWalk.i64_in _ (by omega)
  have e2 : (f + 4).tmod 8 = (f + 4) % 8 := by rw [Int.tmod_eq_emod_of_nonneg (by omega)]
  have e3 : IntKind.i64.wrap ((f + 4) % 8) = (f + 4) % 8 := IntWalk.i64_in _ (by omega)
  have e4 : IntKind.i64.wrap (s * tabN k) = s * tabN k := IntWalk.i64_in _ (by omega)
  have e5 : IntKind.i64.wrap ((s * tabN k).tdiv 100) = (s * tabN k).tdiv 100 := IntWalk.i64_in _ (by have := Int.natAbs_tdiv_le_natAbs (s * tabN k) 100; omega)
  clear hm
  go_enter Try.func80, Try.ntmps80
  go_wp2_with fail
  go_quiet ((go_at_call 62; with_reducible exact quiet_same (hT.out _)))
  go_wp2
  go_ret
  exact ⟨rfl, ((Below.refl _ _).alloc (Nat.le_refl _) _).trans ⟨rfl, rfl, rfl, Nat.le_refl _, fun _ _ => rfl⟩⟩
theorem tab_elem (k : Int) (h1 : 0 ≤ k) (h2 : k ≤ 4) (h : k.toNat < 5) : [Value.int IntKind.i64 100, Value.int IntKind.i64 71, Value.int IntKind.i64 0, Value.int IntKind.i64 (-71), Value.int IntKind.i64 (-100)][k.toNat] = .int .i64 (tabN k) := by
  have h : k = 0 ∨ k = 1 ∨ k = 2 ∨ k = 3 ∨ k = 4 := by omega
  rcases h with rfl | rfl | rfl | rfl | rfl <;> rfl
set_option maxHeartbeats 8000000 in
theorem l5Push_any (f s to : Int) (w : World) (h1 : 0 ≤ f) (h2 : f ≤ 7) (h3 : 0 ≤ to) (h4 : to ≤ 7) (h5 : 0 ≤ s) (h6 : s ≤ 120) :
    Calls Try.prog 82 #[.agg #[.int .i64 f, .int .i64 s], .int .i64 to] w fun e w' => e = .returned (.int .i64 (pushN f s to)) ∧ Below w.heap.size w w' := by
  have hT : Hid (∀ W, Calls Try.prog 63 #[.int .i64 ((f + 4) % 8), .int .i64 to] W fun e w' => e = .returned (.int .i64 (turnN ((f + 4) % 8) to)) ∧ W = w') :=
    fun W => l5Turn_any _ _ W (by omega) (by omega) h3 h4
  obtain ⟨k1, k2⟩ := turn_le (a := (f + 4) % 8) (b := to) (by omega) (by omega) h3 h4
  unfold pushN
  generalize turnN ((f + 4) % 8) to = k at hT k1 k2 ⊢
  have hm := mul_tab_le s k h5 h6
  have e1 : IntKind.i64.wrap (f + 4) = f + 4 := IntWalk.i64_in _ (by omega)
  have e2 : (f + 4).tmod 8 = (f + 4) % 8 := by rw [Int.tmod_eq_emod_of_nonneg (by omega)]
  have e3 : IntKind.i64.wrap ((f + 4) % 8) = (f + 4) % 8 := IntWalk.i64_in _ (by omega)
  have e4 : IntKind.i64.wrap (s * tabN k) = s * tabN k := IntWalk.i64_in _ (by omega)
  have e5 : IntKind.i64.wrap ((s * tabN k).tdiv 100) = (s * tabN k).tdiv 100 := IntWalk.i64_in _ (by have := Int.natAbs_tdiv_le_natAbs (s * tabN k) 100; omega)
  clear hm
  have k5 : k < 5 := by omega
  have hx := tab_elem k k1 k2
  go_enter Try.func82, Try.ntmps82
  go_wp2_with fail
  go_region_with (go_at_call 63; with_reducible refine (hT.out _).mono ?_; rintro e w' ⟨rfl, rfl⟩)
  all_goals
    go_wp2
    go_ret
    exact ⟨rfl, ((((Below.refl _ _).alloc (Nat.le_refl _) _).alloc (by simp) _).trans ⟨rfl, rfl, rfl, Nat.le_refl _, fun _ _ => rfl⟩)⟩
end Go.Proofs.Ytabedcpibnnnhaa
