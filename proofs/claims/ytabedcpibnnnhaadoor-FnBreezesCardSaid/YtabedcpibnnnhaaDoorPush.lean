/- Contracts of the pushes of breezes. Conditions: a valid breeze and a direction. -/
import Derived.Test.YtabedcpibnnnhaaDoorWind
namespace Go.Proofs.YtabedcpibnnnhaaDoor
open Go.ChangeShapes Go.WideShapes Go.ChangeAt Go.RowKit
set_option linter.unusedVariables false
set_option linter.unusedSimpArgs false
set_option maxRecDepth 100000

theorem tab_index0 (w : World) : (Instr.index 96 (.agg #[.int .i64 100, .int .i64 71, .int .i64 0, .int .i64 (-71), .int .i64 (-100)]) (.int .i64 0)).run Tryd.prog w = .ok (.int .i64 100) w := by kernel_rfl
theorem tab_index1 (w : World) : (Instr.index 96 (.agg #[.int .i64 100, .int .i64 71, .int .i64 0, .int .i64 (-71), .int .i64 (-100)]) (.int .i64 1)).run Tryd.prog w = .ok (.int .i64 71) w := by kernel_rfl
theorem tab_index2 (w : World) : (Instr.index 96 (.agg #[.int .i64 100, .int .i64 71, .int .i64 0, .int .i64 (-71), .int .i64 (-100)]) (.int .i64 2)).run Tryd.prog w = .ok (.int .i64 0) w := by kernel_rfl
theorem tab_index3 (w : World) : (Instr.index 96 (.agg #[.int .i64 100, .int .i64 71, .int .i64 0, .int .i64 (-71), .int .i64 (-100)]) (.int .i64 3)).run Tryd.prog w = .ok (.int .i64 (-71)) w := by kernel_rfl
theorem tab_index4 (w : World) : (Instr.index 96 (.agg #[.int .i64 100, .int .i64 71, .int .i64 0, .int .i64 (-71), .int .i64 (-100)]) (.int .i64 4)).run Tryd.prog w = .ok (.int .i64 (-100)) w := by kernel_rfl
theorem tab_index (k : Int) (h1 : 0 ≤ k) (h2 : k ≤ 4) (w : World) :
    (Instr.index 96 (.agg #[.int .i64 100, .int .i64 71, .int .i64 0, .int .i64 (-71), .int .i64 (-100)]) (.int .i64 k)).run Tryd.prog w = .ok (.int .i64 (tabN k)) w := by
  have h : k = 0 ∨ k = 1 ∨ k = 2 ∨ k = 3 ∨ k = 4 := by omega
  rcases h with rfl | rfl | rfl | rfl | rfl
  · exact tab_index0 w
  · exact tab_index1 w
  · exact tab_index2 w
  · exact tab_index3 w
  · exact tab_index4 w
theorem push_any (f s to : Int) (w : World) (h1 : 0 ≤ f) (h2 : f ≤ 7) (h3 : 0 ≤ to) (h4 : to ≤ 7) (h5 : 0 ≤ s) (h6 : s ≤ 120) :
    Calls Tryd.prog 75 #[.agg #[.int .i64 f, .int .i64 s], .int .i64 to] w fun e w' => e = .returned (.int .i64 (pushN f s to)) ∧ Below w.heap.size w w' := by
  have hT : Hid (∀ W, Calls Tryd.prog 72 #[.int .i64 ((f + 4) % 8), .int .i64 to] W fun e w' => e = .returned (.int .i64 (turnN ((f + 4) % 8) to)) ∧ W = w') :=
    fun W => turnBetween_any _ _ W (by omega) (by omega) h3 h4
  obtain ⟨k1, k2⟩ := turn_le (a := (f + 4) % 8) (b := to) (by omega) (by omega) h3 h4
  unfold pushN
  generalize turnN ((f + 4) % 8) to = k at hT k1 k2 ⊢
  have hi := tab_index k k1 k2
  have hm := mul_tab_le s k h5 h6
  have e1 : IntKind.i64.wrap (f + 4) = f + 4 := IntWalk.i64_in _ (by omega)
  have e2 : (f + 4).tmod 8 = (f + 4) % 8 := by rw [Int.tmod_eq_emod_of_nonneg (by omega)]
  have e3 : IntKind.i64.wrap ((f + 4) % 8) = (f + 4) % 8 := IntWalk.i64_in _ (by omega)
  have e4 : IntKind.i64.wrap (s * tabN k) = s * tabN k := IntWalk.i64_in _ (by omega)
  have e5 : IntKind.i64.wrap ((s * tabN k).tdiv 100) = (s * tabN k).tdiv 100 := IntWalk.i64_in _ (by have := Int.natAbs_tdiv_le_natAbs (s * tabN k) 100; omega)
  clear hm
  go_enter Tryd.func75, Tryd.ntmps75
  go_wp2_with fail
  go_quiet ((go_at_call 72; with_reducible exact quiet_same (hT.out _)))
  go_wp2
  go_ret
  exact ⟨rfl, ((Below.refl _ _).alloc (Nat.le_refl _) _).trans ⟨rfl, rfl, rfl, Nat.le_refl _, fun _ _ => rfl⟩⟩
theorem tab_elem (k : Int) (h1 : 0 ≤ k) (h2 : k ≤ 4) (h : k.toNat < 5) : [Value.int IntKind.i64 100, Value.int IntKind.i64 71, Value.int IntKind.i64 0, Value.int IntKind.i64 (-71), Value.int IntKind.i64 (-100)][k.toNat] = .int .i64 (tabN k) := by
  have h : k = 0 ∨ k = 1 ∨ k = 2 ∨ k = 3 ∨ k = 4 := by omega
  rcases h with rfl | rfl | rfl | rfl | rfl <;> rfl
set_option maxHeartbeats 8000000 in
theorem l5Push_any (f s to : Int) (w : World) (h1 : 0 ≤ f) (h2 : f ≤ 7) (h3 : 0 ≤ to) (h4 : to ≤ 7) (h5 : 0 ≤ s) (h6 : s ≤ 120) :
    Calls Tryd.prog 76 #[.agg #[.int .i64 f, .int .i64 s], .int .i64 to] w fun e w' => e = .returned (.int .i64 (pushN f s to)) ∧ Below w.heap.size w w' := by
  have hT : Hid (∀ W, Calls Tryd.prog 74 #[.int .i64 ((f + 4) % 8), .int .i64 to] W fun e w' => e = .returned (.int .i64 (turnN ((f + 4) % 8) to)) ∧ W = w') :=
    fun W => l5Turn_any _ _ W (by omega) (by omega) h3 h4
  obtain ⟨k1, k2⟩ := turn_le (a := (f + 4) % 8) (b := to) (by omega) (by omega) h3 h4
  unfold pushN
  generalize turnN ((f + 4) % 8) to = k at hT k1 k2 ⊢
  have hm := mul_tab_le s k h5 h6
  have e1 : IntKind.i64.wrap (f + 4) = f + 4 := IntWalk.i64_in _ (by omega)
  have e2 : (f + 4).tmod 8 = (f + 4) % 8 := by rw [Int.tmod_eq_emod_of_nonneg (by omega)]
  have e3 : IntKind.i64.wrap ((f + 4) % 8) = (f + 4) % 8 := IntWalk.i64_in _ (by omega)
  have e4 : IntKind.i64.wrap (s * tabN k) = s * tabN k := IntWalk.i64_in _ (by omega)
  have e5 : IntKind.i64.wrap ((s * tabN k).tdiv 100) = (s * tabN k).tdiv 100 := IntWalk.i64_in _ (by have := Int.natAbs_tdiv_le_natAbs (s * tabN k) 100; omega)
  clear hm
  have k5 : k < 5 := by omega
  have hx := tab_elem k k1 k2
  go_enter Tryd.func76, Tryd.ntmps76
  go_wp2_with fail
  go_region_with (go_at_call 74; with_reducible refine (hT.out _).mono ?_; rintro e w' ⟨rfl, rfl⟩)
  all_goals
    go_wp2
    go_ret
    exact ⟨rfl, ((((Below.refl _ _).alloc (Nat.le_refl _) _).alloc (by simp) _).trans ⟨rfl, rfl, rfl, Nat.le_refl _, fun _ _ => rfl⟩)⟩
def pushR (f s to : Int) : Value := if windB f s && inB to 0 7 then .tuple #[.int .i64 (pushN f s to), .bool true] else .tuple #[.int .i64 0, .bool false]
theorem pushR_yes {f s to : Int} (h1 : windB f s = true) (h2 : inB to 0 7 = true) : pushR f s to = .tuple #[.int .i64 (pushN f s to), .bool true] := by simp [pushR, h1, h2]
theorem pushR_no1 {f s to : Int} (h1 : windB f s = false) : pushR f s to = .tuple #[.int .i64 0, .bool false] := by simp [pushR, h1]
theorem pushR_no2 {f s to : Int} (h1 : inB to 0 7 = false) : pushR f s to = .tuple #[.int .i64 0, .bool false] := by simp [pushR, h1]
theorem sPushTowards_any (f s to : Int) (w : World) :
    Calls Tryd.prog 36 #[.agg #[.int .i64 f, .int .i64 s], .int .i64 to] w fun e w' => e = .returned (pushR f s to) ∧ Below w.heap.size w w' := by
  cases h1 : windB f s
  · rw [pushR_no1 h1]
    go_enter Tryd.func36, Tryd.ntmps36
    go_wp2_with (go_at_call 64; refine (l5Wind_any _ _ _).mono ?_; rintro e w' ⟨rfl, hb⟩)
    go_ret2
    exact ⟨rfl, ((Below.refl _ _).alloc (Nat.le_refl _) _).trans (hb.mono (by simp))⟩
  · cases h2 : inB to 0 7
    · rw [pushR_no2 h2]
      go_enter Tryd.func36, Tryd.ntmps36
      go_wp2_with (first | (go_at_call 64; refine (l5Wind_any _ _ _).mono ?_; rintro e w' ⟨rfl, hb⟩) | (go_at_call 73; refine (l5Way_any _ _).mono ?_; rintro e w' ⟨rfl, rfl⟩))
      go_ret2
      exact ⟨rfl, ((Below.refl _ _).alloc (Nat.le_refl _) _).trans (hb.mono (by simp))⟩
    · rw [pushR_yes h1 h2]
      obtain ⟨q1, q2⟩ := inB_iff.1 h2
      obtain ⟨⟨p1, p2⟩, ⟨p3, p4⟩, _⟩ := windB_iff.1 h1
      go_enter Tryd.func36, Tryd.ntmps36
      go_wp2_with (first | (go_at_call 64; refine (l5Wind_any _ _ _).mono ?_; rintro e w1 ⟨rfl, hb⟩; have hc := (bcell hb).1) | (go_at_call 73; refine (l5Way_any _ _).mono ?_; rintro e w' ⟨rfl, rfl⟩) | (go_at_call 76; refine (l5Push_any _ _ _ _ p1 p2 q1 q2 p3 p4).mono ?_; rintro e w2 ⟨rfl, hb2⟩))
      go_ret2
      exact ⟨rfl, (((Below.refl _ _).alloc (Nat.le_refl _) _).trans (hb.mono (by simp))).trans (hb2.mono (by have := hb.size; simp at this; omega))⟩
theorem PushTowards_any (f s to : Int) (w : World) :
    Calls Tryd.prog 35 #[.agg #[.int .i64 f, .int .i64 s], .int .i64 to] w fun e w' => e = .returned (pushR f s to) ∧ Below w.heap.size w w' := by
  cases h1 : windB f s
  · rw [pushR_no1 h1]
    go_enter Tryd.func35, Tryd.ntmps35
    go_wp2_with (go_at_call 27; refine (IsBreeze_any _ _ _).mono ?_; rintro e w' ⟨rfl, hb⟩)
    go_ret2
    exact ⟨rfl, ((Below.refl _ _).alloc (Nat.le_refl _) _).trans (hb.mono (by simp))⟩
  · cases h2 : inB to 0 7
    · rw [pushR_no2 h2]
      go_enter Tryd.func35, Tryd.ntmps35
      go_wp2_with (first | (go_at_call 27; refine (IsBreeze_any _ _ _).mono ?_; rintro e w' ⟨rfl, hb⟩) | (go_at_call 66; refine (isDirection_any _ _).mono ?_; rintro e w' ⟨rfl, rfl⟩))
      go_ret2
      exact ⟨rfl, ((Below.refl _ _).alloc (Nat.le_refl _) _).trans (hb.mono (by simp))⟩
    · rw [pushR_yes h1 h2]
      obtain ⟨q1, q2⟩ := inB_iff.1 h2
      obtain ⟨⟨p1, p2⟩, ⟨p3, p4⟩, _⟩ := windB_iff.1 h1
      go_enter Tryd.func35, Tryd.ntmps35
      go_wp2_with (first | (go_at_call 27; refine (IsBreeze_any _ _ _).mono ?_; rintro e w1 ⟨rfl, hb⟩; have hc := (bcell hb).1) | (go_at_call 66; refine (isDirection_any _ _).mono ?_; rintro e w' ⟨rfl, rfl⟩) | (go_at_call 75; refine (push_any _ _ _ _ p1 p2 q1 q2 p3 p4).mono ?_; rintro e w2 ⟨rfl, hb2⟩))
      go_ret2
      exact ⟨rfl, (((Below.refl _ _).alloc (Nat.le_refl _) _).trans (hb.mono (by simp))).trans (hb2.mono (by have := hb.size; simp at this; omega))⟩
end Go.Proofs.YtabedcpibnnnhaaDoor
