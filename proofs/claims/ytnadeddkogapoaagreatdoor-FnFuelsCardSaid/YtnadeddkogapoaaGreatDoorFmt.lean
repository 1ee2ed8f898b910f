/- A number's text, in the program and in the reference. Conditions: as each states. -/
import Derived.Test.YtnadeddkogapoaaGreatDoorNumT
import Derived.Test.YtnadeddkogapoaaGreatDoorLow
namespace Go.Proofs.YtnadeddkogapoaaGreatDoor
open Go.ChangeShapes Go.WideShapes Go.ChangeAt Go.RowKit Go.Deep
set_option linter.unusedVariables false
set_option linter.unusedSimpArgs false
set_option maxRecDepth 100000

/-- A text and a Bool handed back. -/
def strV (b : Bool) (s : ByteArray) : Value := if b then .tuple #[.string s, .bool true] else .tuple #[.string (⟨#[]⟩ : ByteArray), .bool false]
theorem strV_shape (b : Bool) (s : ByteArray) : ∃ m c, strV b s = .tuple #[.string m, .bool c] := by cases b <;> exact ⟨_, _, rfl⟩
theorem l1Num_any (n : Int) (h1 : -1000000000000 ≤ n) (h2 : n ≤ 1000000000000) (w : World) : Calls Tryz.prog 64 #[.int .i64 n] w fun e w' => e = .returned (.string (numS n)) ∧ Below w.heap.size w w' := by
  by_cases h : 0 ≤ n
  · obtain ⟨u, rfl⟩ := Int.eq_ofNat_of_zero_le h
    exact l1Num_nat u (by omega) w
  · obtain ⟨u, hu, hu1⟩ : ∃ u : Nat, n = -(u : Int) ∧ 1 ≤ u := ⟨(-n).toNat, by omega, by omega⟩
    subst hu
    have HI := Lib.hid fun W => l1Num_nat u (by omega) W
    have hS := Lib.hid (numS_neg u hu1)
    have hs1 : (numS (u : Int)).size ≤ 1000000000001 := by have := numS_size u; omega
    have h0 : -(u : Int) < 0 := by omega
    have h0' : 0 < (u : Int) := by omega
    have m1 : IntKind.i64.wrap (u : Int) = u := IntWalk.i64_in _ (by omega)
    have m2 : IntKind.i64.wrap (- -(u : Int)) = u := by rw [Int.neg_neg]; exact m1
    clear h
    go_enter Tryz.func64, Tryz.ntmps64
    go_wp2_with fail
    with_reducible refine (HI.out _).mono ?_
    rintro e w1 ⟨rfl, hb1⟩
    go_wp2
    go_ret
    exact ⟨by rw [hS.out]; rfl, hb1⟩
theorem Itoa_any (n : Int) (h1 : -9223372036854775808 ≤ n) (h2 : n ≤ 9223372036854775807) (w : World) (ht : Lib.TabIs Tryz.prog w "internal/strconv.uint64pow10" .u64 Lib.pow10Tab) : Calls Tryz.prog 58 #[.int .i64 n] w fun e w' => e = .returned (.string (numS n)) ∧ Below w.heap.size w w' := by
  refine (Tryz.strconv_Itoa n h1 h2 w ht).mono ?_
  rintro e w' ⟨rfl, k, os, rfl⟩
  exact ⟨rfl, Lib.below_grow _ _ (Nat.le_refl _) _ _⟩
theorem FormatInt_any (n : Int) (w : World) (ht : Lib.TabIs Tryz.prog w "internal/strconv.uint64pow10" .u64 Lib.pow10Tab) : Calls Tryz.prog 83 #[.int .i64 n] w fun e w' => e = .returned (strV (inB n (-999999) 999999) (numS n)) ∧ Below w.heap.size w w' := by
  cases hI : inB n (-999999) 999999 with
  | false =>
    go_enter Tryz.func83, Tryz.ntmps83
    go_wp2_with (go_at_call 31; refine (in_any _ _ _ _).mono ?_; rintro e w' ⟨rfl, rfl⟩; rw [hI])
    go_ret2
    exact ⟨rfl, Below.refl _ _⟩
  | true =>
    obtain ⟨h1, h2⟩ := inB_iff.1 hI
    have HI := Lib.hid (Itoa_any n (by omega) (by omega) w ht)
    clear ht
    generalize numS n = s at *
    go_enter Tryz.func83, Tryz.ntmps83
    go_wp2_with (go_at_call 31; refine (in_any _ _ _ _).mono ?_; rintro e w' ⟨rfl, rfl⟩; rw [hI])
    with_reducible refine HI.out.mono ?_
    rintro e w1 ⟨rfl, hb1⟩
    go_wp2
    go_ret2
    exact ⟨rfl, hb1⟩
end Go.Proofs.YtnadeddkogapoaaGreatDoor
