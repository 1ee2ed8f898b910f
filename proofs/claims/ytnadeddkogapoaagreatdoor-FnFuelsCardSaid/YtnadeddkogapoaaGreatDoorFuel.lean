/- Contracts of the functions on one fuel. Conditions: as each states. -/
import Derived.Test.YtnadeddkogapoaaGreatDoorLow
namespace Go.Proofs.YtnadeddkogapoaaGreatDoor
open Go.ChangeShapes Go.WideShapes Go.ChangeAt Go.RowKit
set_option linter.unusedVariables false
set_option linter.unusedSimpArgs false
set_option maxRecDepth 100000

set_option maxHeartbeats 1000000 in
theorem l2Word_any (s : ByteArray) (w : World) (hs : s.size ≤ maxLen) :
    Calls Tryz.prog 63 #[.string s] w fun e w' => e = .returned (.bool (wordB s.data.toList)) ∧ w = w' := by
  unfold maxLen at hs
  go_enter Tryz.func63, Tryz.ntmps63
  go_wp2
  go_loop [3] (fun i => ∃ k : Nat, k ≤ s.size ∧ i = .int .i64 k ∧ Hid (∀ j (h : j < s.size), j < k → 97 ≤ s[j].toNat ∧ s[j].toNat ≤ 122)) (fun i => s.size - (intOf i).toNat)
  case atStart => exact ⟨0, Nat.zero_le _, rfl, fun j h hj => by omega⟩
  case round =>
    obtain ⟨k, hk, rfl, hp⟩ := hrel
    by_cases hlt : k < s.size
    · go_wp2
      all_goals first
        | (go_ret
           exact ⟨by rw [wordB, lowers_not hlt (by omega)]; rfl, rfl⟩)
        | (go_round
           case rel => exact ⟨k + 1, by omega, by go_num, fun j h hj => by
             by_cases e : j = k
             · subst e; omega
             · exact hp.out j h (by omega)⟩
           case measure => simp [intOf]; omega)
    · have hl : lowers s.data.toList = true := lowers_of fun j h => hp.out j h (by omega)
      have Hw : Hid (wordB s.data.toList = inB s.size 1 10) := by show wordB _ = _; simp [wordB, hl]
      clear hp hl
      go_wp2_with (go_at_call 62; refine (l1In_any _ _ _ _).mono ?_; rintro e w' ⟨rfl, rfl⟩)
      go_ret
      exact ⟨by rw [Hw.out]; rfl, rfl⟩
set_option maxHeartbeats 1000000 in
theorem isWord_any (s : ByteArray) (w : World) (hs : s.size ≤ maxLen) :
    Calls Tryz.prog 32 #[.string s] w fun e w' => e = .returned (.bool (wordB s.data.toList)) ∧ w = w' := by
  unfold maxLen at hs
  go_enter Tryz.func32, Tryz.ntmps32
  go_wp2
  go_loop [6] (fun i => ∃ k : Nat, k ≤ s.size ∧ i = .int .i64 k ∧ Hid (∀ j (h : j < s.size), j < k → 97 ≤ s[j].toNat ∧ s[j].toNat ≤ 122)) (fun i => s.size - (intOf i).toNat)
  case atStart => exact ⟨0, Nat.zero_le _, rfl, fun j h hj => by omega⟩
  case round =>
    obtain ⟨k, hk, rfl, hp⟩ := hrel
    by_cases hlt : k < s.size
    · go_wp2
      all_goals first
        | (go_ret
           exact ⟨by rw [wordB, lowers_not hlt (by omega)]; rfl, rfl⟩)
        | (go_round
           case rel => exact ⟨k + 1, by omega, by go_num, fun j h hj => by
             by_cases e : j = k
             · subst e; omega
             · exact hp.out j h (by omega)⟩
           case measure => simp [intOf]; omega)
    · have hl : lowers s.data.toList = true := lowers_of fun j h => hp.out j h (by omega)
      have Hw : Hid (wordB s.data.toList = inB s.size 1 10) := by show wordB _ = _; simp [wordB, hl]
      clear hp hl
      go_wp2_with (go_at_call 31; refine (in_any _ _ _ _).mono ?_; rintro e w' ⟨rfl, rfl⟩)
      go_ret
      exact ⟨by rw [Hw.out]; rfl, rfl⟩
set_option maxHeartbeats 1000000 in
theorem l3One_any (i : Int) (n : ByteArray) (r l o : Int) (w : World) (hs : n.size ≤ maxLen) :
    Calls Tryz.prog 29 #[.agg #[.int .i64 i, .string n, .int .i64 r, .int .i64 l, .int .i64 o]] w fun e w' => e = .returned (.bool (fuelB i n.data.toList r l o)) ∧ Below w.heap.size w w' := by
  go_enter Tryz.func29, Tryz.ntmps29
  go_wp2_with (first | (go_at_call 62; refine (l1In_any _ _ _ _).mono ?_; rintro e w' ⟨rfl, rfl⟩) | (go_at_call 63; refine (l2Word_any _ _ hs).mono ?_; rintro e w' ⟨rfl, rfl⟩))
  all_goals (go_ret; exact ⟨by simp_all [fuelB], (Below.refl _ _).alloc (Nat.le_refl _) _⟩)
set_option maxHeartbeats 1000000 in
theorem IsFuel_any (i : Int) (n : ByteArray) (r l o : Int) (w : World) (hs : n.size ≤ maxLen) :
    Calls Tryz.prog 8 #[.agg #[.int .i64 i, .string n, .int .i64 r, .int .i64 l, .int .i64 o]] w fun e w' => e = .returned (.bool (fuelB i n.data.toList r l o)) ∧ Below w.heap.size w w' := by
  go_enter Tryz.func8, Tryz.ntmps8
  go_wp2_with (first | (go_at_call 31; refine (in_any _ _ _ _).mono ?_; rintro e w' ⟨rfl, rfl⟩) | (go_at_call 32; refine (isWord_any _ _ hs).mono ?_; rintro e w' ⟨rfl, rfl⟩))
  all_goals (go_ret; exact ⟨by simp_all [fuelB], (Below.refl _ _).alloc (Nat.le_refl _) _⟩)
set_option maxHeartbeats 1000000 in
theorem l3Speed_any (i : Int) (n : ByteArray) (r l o m s : Int) (w : World) (r1 : 1 ≤ r) (r2 : r ≤ 1000) (l1 : 10 ≤ l) (l2 : l ≤ 400) (m1 : 0 ≤ m) (m2 : m ≤ 400) (s1 : -45 ≤ s) (s2 : s ≤ 45) :
    Calls Tryz.prog 52 #[.agg #[.int .i64 i, .string n, .int .i64 r, .int .i64 l, .int .i64 o], .int .i64 m, .int .i64 s] w fun e w' =>
      e = .returned (.int .i64 (speedN r l m s)) ∧ Below w.heap.size w w' := by
  by_cases h : l ≤ m
  · have Hf : Hid (speedN r l m s = 0) := by show _ = _; simp [speedN, h]
    go_enter Tryz.func52, Tryz.ntmps52
    go_wp2
    go_ret
    exact ⟨by rw [Hf.out]; rfl, (Below.refl _ _).alloc (Nat.le_refl _) _⟩
  · obtain ⟨⟨p1, p2⟩, q1, q2⟩ := flat_bound r1 r2 l1 l2 m1 h
    by_cases hs : 0 ≤ s
    · have Hf : Hid (speedN r l m s = (r * (l - m) / l * (100 + 4 * s)) / 100) := by show _ = _; simp [speedN, h, hs]
      obtain ⟨u1, u2⟩ := up_bound q1 q2 hs s2
      go_enter Tryz.func52, Tryz.ntmps52
      go_wp2
      go_ret
      exact ⟨by rw [Hf.out]; rfl, (Below.refl _ _).alloc (Nat.le_refl _) _⟩
    · have Hf : Hid (speedN r l m s = (100 * (r * (l - m) / l)) / (100 - 2 * s)) := by show _ = _; simp [speedN, h, hs]
      obtain ⟨u1, u2⟩ := down_bound q1 q2 s1 (by omega)
      go_enter Tryz.func52, Tryz.ntmps52
      go_wp2
      go_ret
      exact ⟨by rw [Hf.out]; rfl, (Below.refl _ _).alloc (Nat.le_refl _) _⟩
set_option maxHeartbeats 1000000 in
theorem speed_any (i : Int) (n : ByteArray) (r l o m s : Int) (w : World) (r1 : 1 ≤ r) (r2 : r ≤ 1000) (l1 : 10 ≤ l) (l2 : l ≤ 400) (m1 : 0 ≤ m) (m2 : m ≤ 400) (s1 : -45 ≤ s) (s2 : s ≤ 45) :
    Calls Tryz.prog 49 #[.agg #[.int .i64 i, .string n, .int .i64 r, .int .i64 l, .int .i64 o], .int .i64 m, .int .i64 s] w fun e w' =>
      e = .returned (.int .i64 (speedN r l m s)) ∧ Below w.heap.size w w' := by
  by_cases h : l ≤ m
  · have Hf : Hid (speedN r l m s = 0) := by show _ = _; simp [speedN, h]
    go_enter Tryz.func49, Tryz.ntmps49
    go_wp2
    go_ret
    exact ⟨by rw [Hf.out]; rfl, (Below.refl _ _).alloc (Nat.le_refl _) _⟩
  · obtain ⟨⟨p1, p2⟩, q1, q2⟩ := flat_bound r1 r2 l1 l2 m1 h
    by_cases hs : 0 ≤ s
    · have Hf : Hid (speedN r l m s = (r * (l - m) / l * (100 + 4 * s)) / 100) := by show _ = _; simp [speedN, h, hs]
      obtain ⟨u1, u2⟩ := up_bound q1 q2 hs s2
      go_enter Tryz.func49, Tryz.ntmps49
      go_wp2
      go_ret
      exact ⟨by rw [Hf.out]; rfl, (Below.refl _ _).alloc (Nat.le_refl _) _⟩
    · have Hf : Hid (speedN r l m s = (100 * (r * (l - m) / l)) / (100 - 2 * s)) := by show _ = _; simp [speedN, h, hs]
      obtain ⟨u1, u2⟩ := down_bound q1 q2 s1 (by omega)
      go_enter Tryz.func49, Tryz.ntmps49
      go_wp2
      go_ret
      exact ⟨by rw [Hf.out]; rfl, (Below.refl _ _).alloc (Nat.le_refl _) _⟩
end Go.Proofs.YtnadeddkogapoaaGreatDoor
