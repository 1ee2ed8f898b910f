/- Numbers as texts, in the reference. Conditions: as each states. -/
import Derived.Test.YtnadeddkogapoaaGreatDoorLow
import Derived.Lib.ItoaNum
import Derived.Deep.RegionWith
namespace Go.Proofs.YtnadeddkogapoaaGreatDoor
open Go.ChangeShapes Go.WideShapes Go.ChangeAt Go.RowKit Go.Deep
set_option linter.unusedVariables false
set_option linter.unusedSimpArgs false
set_option maxRecDepth 100000

/-- A number's text. -/
def numS (n : Int) : ByteArray := bs (Lib.itoa n)
/-- A digit's text. -/
def dig (r : Nat) : ByteArray := bs [UInt8.ofNat (48 + r)]
theorem dig_size (r : Nat) : (dig r).size = 1 := rfl
theorem digit_cut (r : Nat) (h : r < 10) : (⟨#[48, 49, 50, 51, 52, 53, 54, 55, 56, 57]⟩ : ByteArray).extract r (r + 1) = dig r := by
  match r, h with
  | 0, _ => decide
  | 1, _ => decide
  | 2, _ => decide
  | 3, _ => decide
  | 4, _ => decide
  | 5, _ => decide
  | 6, _ => decide
  | 7, _ => decide
  | 8, _ => decide
  | 9, _ => decide
theorem dig_length (u : Nat) : (Lib.decDigits u).length ≤ u + 1 := by
  induction u using Nat.strongRecOn with
  | _ u ih =>
    rw [Lib.decDigits]
    split
    · simp
    · have := ih (u / 10) (by omega)
      simp; omega
theorem numS_nat (u : Nat) : numS u = bs (Lib.decDigits u) := by unfold numS Lib.itoa; rw [if_neg (by omega)]; simp
theorem numS_neg (u : Nat) (h : 1 ≤ u) : numS (-(u : Int)) = bs [45] ++ numS u := by
  rw [numS_nat, bs_app]; unfold numS Lib.itoa; rw [if_pos (by omega)]; simp
theorem numS_big (u : Nat) (h : ¬ u < 10) : numS u = numS ((u : Int) / 10) ++ dig (u % 10) := by
  have e : (u : Int) / 10 = ((u / 10 : Nat) : Int) := by omega
  unfold dig
  rw [e, numS_nat, numS_nat, bs_app]
  conv => lhs; rw [Lib.decDigits, dif_neg h]
theorem numS_size (u : Nat) : (numS u).size ≤ u + 1 := by rw [numS_nat, bs_size]; exact dig_length u
theorem numS_small (u : Nat) (h : u < 10) : numS u = dig u := by
  unfold dig
  rw [numS_nat, Lib.decDigits, dif_pos h]
set_option maxHeartbeats 1000000 in
theorem l1Num_nat (u : Nat) (hu : u ≤ 1000000000000) (w : World) : Calls Tryz.prog 64 #[.int .i64 u] w fun e w' => e = .returned (.string (numS u)) ∧ Below w.heap.size w w' := by
  induction u using Nat.strongRecOn generalizing w with
  | _ u ih =>
    by_cases h : u < 10
    · have hc := digit_cut u h
      have hS := Lib.hid (numS_small u h)
      have h10 : (u : Int) < 10 := by omega
      clear ih
      go_enter Tryz.func64, Tryz.ntmps64
      go_wp2
      go_ret
      exact ⟨by rw [hS.out]; rfl, Below.refl _ _⟩
    · have e10 : ((u / 10 : Nat) : Int) = (u : Int) / 10 := by omega
      have HI : Hid (∀ W, Calls Tryz.prog 64 #[.int .i64 ((u : Int) / 10)] W fun e w' => e = .returned (.string (numS ((u : Int) / 10))) ∧ Below W.heap.size W w') := by
        show ∀ W, _
        intro W
        rw [← e10]
        exact ih (u / 10) (by omega) (by omega) W
      have hS := Lib.hid (numS_big u h)
      have h10 : ¬ (u : Int) < 10 := by omega
      have hc := digit_cut (u % 10) (by omega)
      have hs1 : (numS ((u : Int) / 10)).size ≤ 1000000000001 := by rw [← e10]; have := numS_size (u / 10); omega
      have hs2 : ((⟨#[48, 49, 50, 51, 52, 53, 54, 55, 56, 57]⟩ : ByteArray).extract (u % 10) (u % 10 + 1)).size = 1 := by rw [hc]; rfl
      have hs3 := dig_size (u % 10)
      have m1 : (u : Int).tdiv 10 = (u : Int) / 10 := by rw [Int.tdiv_eq_ediv_of_nonneg (by omega)]
      have m2 : (u : Int).tmod 10 = (u : Int) % 10 := by rw [Int.tmod_eq_emod_of_nonneg (by omega)]
      have m3 : IntKind.i64.wrap ((u : Int) / 10) = (u : Int) / 10 := IntWalk.i64_in _ (by omega)
      have m4 : IntKind.i64.wrap ((u : Int) % 10 + 1) = (u : Int) % 10 + 1 := IntWalk.i64_in _ (by omega)
      have m5 : IntKind.i64.wrap ((u : Int) % 10) = (u : Int) % 10 := IntWalk.i64_in _ (by omega)
      clear ih e10
      go_enter Tryz.func64, Tryz.ntmps64
      go_wp2_with fail
      go_region_with (go_at_call 64; with_reducible refine (HI.out _).mono ?_; rintro e w1 ⟨rfl, hb1⟩)
      all_goals
        have hb2 := grow_trans (grow_drew w) hb1
        go_wp2
        go_ret
        exact ⟨by rw [hS.out]; rfl, hb2⟩
end Go.Proofs.YtnadeddkogapoaaGreatDoor
