/- Contracts of the functions on one fuel. Conditions: as each states. -/
import Derived.Test.YtnadeddkogapoaaNum
namespace Go.Proofs.Ytnadeddkogapoaa
open Go.ChangeShapes Go.WideShapes Go.ChangeAt Go.RowKit
set_option linter.unusedVariables false
set_option linter.unusedSimpArgs false
set_option maxRecDepth 100000

set_option maxHeartbeats 1000000 in
theorem l2Word_any (s : ByteArray) (w : World) (hs : s.size ≤ maxLen) :
    Calls Try.prog 30 #[.string s] w fun e w' => e = .returned (.bool (wordB s.data.toList)) ∧ w = w' := by
  unfold maxLen at hs
  go_enter Try.func30, Try.ntmps30
  go_wp2
  go_loop [3] (fun i => ∃ k : Nat, k ≤ s.size ∧ i = .int .i64 k ∧ Hid (∀ j (h : j < s.size), j < k → 97 ≤ s[j].toNat ∧ s[j].toNat ≤ 122)) (fun i => s.size - (intOf i).toNat)
  case atStart => exact ⟨0, Nat.zero_le _, rfl, fun j h hj => by omega⟩
  case round =>
    obtain ⟨k, hk, rfl, hp⟩ := hrel
    by_cases hlt : k < s.size
    · go_wp2
      all_goals first
        | (go_ret
           exact ⟨by rw [wordB, lowers_not hlt (by omega)]; rfl, rfl⟩)
        | (go_round
           case rel => exact ⟨k + 1, by omega, by go_num, fun j h hj => by
             by_cases e : j = k
             · subst e; omega
             · exact hp.out j h (by omega)⟩
           case measure => simp [intOf]; omega)
    · have hl : lowers s.data.toList = true := lowers_of fun j h => hp.out j h (by omega)
      have Hw : Hid (wordB s.data.toList = inB s.size 1 10) := by show wordB _ = _; simp [wordB, hl]
      clear hp hl
      go_wp2_with (go_at_call 29; refine (l1In_any _ _ _ _).mono ?_; rintro e w' ⟨rfl, rfl⟩)
      go_ret
      exact ⟨by rw [Hw.out]; rfl, rfl⟩
set_option maxHeartbeats 1000000 in
theorem isWord_any (s : ByteArray) (w : World) (hs : s.size ≤ maxLen) :
    Calls Try.prog 34 #[.string s] w fun e w' => e = .returned (.bool (wordB s.data.toList)) ∧ w = w' := by
  unfold maxLen at hs
  go_enter Try.func34, Try.ntmps34
  go_wp2
  go_loop [6] (fun i => ∃ k : Nat, k ≤ s.size ∧ i = .int .i64 k ∧ Hid (∀ j (h : j < s.size), j < k → 97 ≤ s[j].toNat ∧ s[j].toNat ≤ 122)) (fun i => s.size - (intOf i).toNat)
  case atStart => exact ⟨0, Nat.zero_le _, rfl, fun j h hj => by omega⟩
  case round =>
    obtain ⟨k, hk, rfl, hp⟩ := hrel
    by_cases hlt : k < s.size
    · go_wp2
      all_goals first
        | (go_ret
           exact ⟨by rw [wordB, lowers_not hlt (by omega)]; rfl, rfl⟩)
        | (go_round
           case rel => exact ⟨k + 1, by omega, by go_num, fun j h hj => by
             by_cases e : j = k
             · subst e; omega
             · exact hp.out j h (by omega)⟩
           case measure => simp [intOf]; omega)
    · have hl : lowers s.data.toList = true := lowers_of fun j h => hp.out j h (by omega)
      have Hw : Hid (wordB s.data.toList = inB s.size 1 10) := by show wordB _ = _; simp [wordB, hl]
      clear hp hl
      go_wp2_with (go_at_call 33; refine (in_any _ _ _ _).mono ?_; rintro e w' ⟨rfl, rfl⟩)
      go_ret
      exact ⟨by rw [Hw.out]; rfl, rfl⟩
set_option maxHeartbeats 1000000 in
theorem l3One_any (i : Int) (n : ByteArray) (r l o : Int) (w : World) (hs : n.size ≤ maxLen) :
    Calls Try.prog 19 #[.agg #[.int .i64 i, .string n, .int .i64 r, .int .i64 l, .int .i64 o]] w fun e w' => e = .returned (.bool (fuelB i n.data.toList r l o)) ∧ Below w.heap.size w w' := by
  go_enter Try.func19, Try.ntmps19
  go_wp2_with (first | (go_at_call 29; refine (l1In_any _ _ _ _).mono ?_; rintro e w' ⟨rfl, rfl⟩) | (go_at_call 30; refine (l2Word_any _ _ hs).mono ?_; rintro e w' ⟨rfl, rfl⟩))
  all_goals (go_ret; exact ⟨by simp_all [fuelB], (Below.refl _ _).alloc (Nat.le_refl _) _⟩)
set_option maxHeartbeats 1000000 in
theorem IsFuel_any (i : Int) (n : ByteArray) (r l o : Int) (w : World) (hs : n.size ≤ maxLen) :
    Calls Try.prog 25 #[.agg #[.int .i64 i, .string n, .int .i64 r, .int .i64 l, .int .i64 o]] w fun e w' => e = .returned (.bool (fuelB i n.data.toList r l o)) ∧ Below w.heap.size w w' := by
  go_enter Try.func25, Try.ntmps25
  go_wp2_with (first | (go_at_call 33; refine (in_any _ _ _ _).mono ?_; rintro e w' ⟨rfl, rfl⟩) | (go_at_call 34; refine (isWord_any _ _ hs).mono ?_; rintro e w' ⟨rfl, rfl⟩))
  all_goals (go_ret; exact ⟨by simp_all [fuelB], (Below.refl _ _).alloc (Nat.le_refl _) _⟩)
theorem toFuel_any (i : Int) (n : ByteArray) (r l o : Int) (w : World) :
    Calls Try.prog 8 #[.agg #[.int .i64 i, .string n, .int .i64 r, .int .i64 l, .int .i64 o]] w fun e w' =>
      e = .returned (.agg #[.int .i64 i, .string n, .int .i64 r, .int .i64 l, .int .i64 o]) ∧ Below w.heap.size w w' := by
  go_enter Try.func8, Try.ntmps8
  go_wp2
  exact bodyPost_ret (v := .agg #[.int .i64 i, .string n, .int .i64 r, .int .i64 l, .int .i64 o]) (by simp [results, Try.results8, go_sem]) rfl
    ⟨rfl, (((Below.refl _ _).alloc (Nat.le_refl _) _).alloc (by simp) _).alloc (by simp; omega) _⟩
def szN (left : Int) (n : Nat) : Int := if left - n < 0 then -1 else left - n
theorem szFuel_any (i : Int) (n : ByteArray) (r l o : Int) (k : Int) (w : World) (hs : n.size ≤ maxLen) (h1 : 0 ≤ k) (h2 : k ≤ 1048576) :
    Calls Try.prog 5 #[.agg #[.int .i64 i, .string n, .int .i64 r, .int .i64 l, .int .i64 o], .int .i64 k] w fun e w' =>
      e = .returned (.int .i64 (szN k n.size)) ∧ Below w.heap.size w w' := by
  unfold maxLen at hs
  go_enter Try.func5, Try.ntmps5
  go_wp2
  all_goals
    go_ret
    exact ⟨by unfold szN; first | (rw [if_pos (by omega)]; rfl) | (rw [if_neg (by omega)]; rfl), (Below.refl _ _).alloc (Nat.le_refl _) _⟩
theorem szFuel_ok (i : Int) (n : ByteArray) (r l o : Int) (w : World) (hs : n.size ≤ 1048576) :
    Calls Try.prog 5 #[.agg #[.int .i64 i, .string n, .int .i64 r, .int .i64 l, .int .i64 o], .int .i64 1048576] w fun e w' => e = .returned (.int .i64 (1048576 - n.size)) ∧ Below w.heap.size w w' := by
  have h := szFuel_any i n r l o 1048576 w (by unfold maxLen; omega) (by omega) (by omega)
  rwa [show szN 1048576 n.size = 1048576 - n.size by unfold szN; rw [if_neg (by omega)]] at h
theorem szFuel_no (i : Int) (n : ByteArray) (r l o : Int) (w : World) (hm : n.size ≤ maxLen) (hs : ¬ n.size ≤ 1048576) :
    Calls Try.prog 5 #[.agg #[.int .i64 i, .string n, .int .i64 r, .int .i64 l, .int .i64 o], .int .i64 1048576] w fun e w' => e = .returned (.int .i64 (-1)) ∧ Below w.heap.size w w' := by
  have h := szFuel_any i n r l o 1048576 w hm (by omega) (by omega)
  rwa [show szN 1048576 n.size = -1 by unfold szN; rw [if_pos (by omega)]] at h
end Go.Proofs.Ytnadeddkogapoaa
