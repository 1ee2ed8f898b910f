/- Greatest common divisors; MeanPush, in the program and in the reference. Conditions: as each states. -/
import Derived.Test.YtabedcpibnnnhaaSumP
import Derived.Test.YtabedcpibnnnhaaCell2
namespace Go.Proofs.Ytabedcpibnnnhaa
open Go.ChangeShapes Go.WideShapes Go.ChangeAt Go.RowKit
set_option linter.unusedVariables false
set_option linter.unusedSimpArgs false
set_option maxRecDepth 100000

theorem gcd_step (a b : Int) : Int.gcd b (a.tmod b) = Int.gcd a b := by
  have h : a.tmod b = a + b * (-(a.tdiv b)) := by rw [Int.tmod_def]; rw [Int.mul_neg]; omega
  rw [h, Int.gcd_add_mul_left_right, Int.gcd_comm]
set_option maxHeartbeats 1000000 in
theorem gcd_any (a b : Int) (w : World) (ha : -1000000 ≤ a ∧ a ≤ 1000000) (hb : -1000000 ≤ b ∧ b ≤ 1000000) :
    Calls Try.prog 86 #[.int .i64 a, .int .i64 b] w fun e w' => e = .returned (.int .i64 (Int.gcd a b : Nat)) ∧ Below w.heap.size w w' := by
  go_enter Try.func86, Try.ntmps86
  go_wp2
  go_loopw [0, 1] (fun p q wr => ∃ x y : Int, p = .int .i64 x ∧ q = .int .i64 y ∧ (-1000000 ≤ x ∧ x ≤ 1000000) ∧ (-1000000 ≤ y ∧ y ≤ 1000000) ∧ Hid (Int.gcd x y = Int.gcd a b) ∧ Hid (Below w.heap.size w wr)) (fun _ q _ => (intOf q).natAbs)
  case atStart => exact ⟨a, b, rfl, rfl, ha, hb, rfl, Below.refl _ _⟩
  case round =>
    obtain ⟨x, y, rfl, rfl, ⟨x0, x1⟩, ⟨y0, y1⟩, hg, hb⟩ := hrel
    by_cases hy : y = 0
    · subst hy
      have hgx : Hid (((Int.gcd a b : Nat) : Int) = max x (-x)) := by show _ = _; rw [← hg.out, Int.gcd_zero_right]; omega
      go_wp2
      all_goals
        go_ret
        exact ⟨ret_int (by rw [hgx.out]; omega), hb.out⟩
    · have hna : (x.tmod y).natAbs = x.natAbs % y.natAbs := Int.natAbs_tmod x y
      have hlt := Nat.mod_lt x.natAbs (show 0 < y.natAbs by omega)
      rw [← hna] at hlt
      have hgs := Lib.hid ((gcd_step x y).trans hg.out)
      have e1 : IntKind.i64.wrap (x.tmod y) = x.tmod y := IntWalk.i64_in _ (by omega)
      have hbd : -1000000 ≤ x.tmod y ∧ x.tmod y ≤ 1000000 := by omega
      have Hbd := Lib.hid hbd
      have Hlt := Lib.hid hlt
      clear hna hlt hbd
      go_wp2_with fail
      go_quiet (fail)
      go_wp2
      go_roundw
      case rel => exact ⟨y, x.tmod y, rfl, rfl, ⟨y0, y1⟩, Hbd.out, hgs.out, hb.out.trans ⟨rfl, rfl, rfl, Nat.le_refl _, fun _ _ => rfl⟩⟩
      case measure => exact Hlt.out
set_option maxHeartbeats 1000000 in
theorem l20Common_any (a b : Int) (w : World) (ha : 0 ≤ a ∧ a ≤ 1000000) (hb : 0 ≤ b ∧ b ≤ 1000000) :
    Calls Try.prog 66 #[.int .i64 a, .int .i64 b] w fun e w' => e = .returned (.int .i64 (Int.gcd a b : Nat)) ∧ w = w' := by
  go_enter Try.func66, Try.ntmps66
  go_wp2
  go_loop [0, 1] (fun p q => ∃ x y : Int, p = .int .i64 x ∧ q = .int .i64 y ∧ (0 ≤ x ∧ x ≤ 1000000) ∧ (0 ≤ y ∧ y ≤ 1000000) ∧ Hid (Int.gcd x y = Int.gcd a b)) (fun _ q => (intOf q).natAbs)
  case atStart => exact ⟨a, b, rfl, rfl, ha, hb, rfl⟩
  case round =>
    obtain ⟨x, y, rfl, rfl, ⟨x0, x1⟩, ⟨y0, y1⟩, hg⟩ := hrel
    by_cases hy : y = 0
    · subst hy
      have hgx : Hid (((Int.gcd a b : Nat) : Int) = x) := by show _ = _; rw [← hg.out, Int.gcd_zero_right]; omega
      go_wp2
      go_ret
      exact ⟨by rw [hgx.out]; rfl, rfl⟩
    · have hlt := Int.emod_lt_of_pos x (show 0 < y by omega)
      have hge := Int.emod_nonneg x hy
      have hgs := Lib.hid ((gcd_step x y).trans hg.out)
      have hte : x.tmod y = x % y := Int.tmod_eq_emod_of_nonneg x0
      rw [hte] at hgs
      have hyp : 0 < y := by omega
      clear hte
      go_wp2
      go_round
      case rel => exact ⟨y, x % y, rfl, rfl, ⟨y0, y1⟩, ⟨hge, by omega⟩, hgs.out⟩
      case measure => simp [intOf]; omega
theorem gcd_abs (s n : Int) : Int.gcd (max s (-s)) n = Int.gcd s n := by
  rcases Int.le_total 0 s with h | h
  · rw [Int.max_eq_left (by omega)]
  · rw [Int.max_eq_right (by omega), Int.neg_gcd]
theorem gcd_bd {s n : Int} (h1 : 1 ≤ n) (h2 : n ≤ 24) : 1 ≤ ((Int.gcd s n : Nat) : Int) ∧ ((Int.gcd s n : Nat) : Int) ≤ 24 := by
  have h0 : 0 < Int.gcd s n := Int.gcd_pos_of_ne_zero_right s (by omega)
  have := Int.le_of_dvd (show 0 < n by omega) (Int.gcd_dvd_right (a := s) (b := n))
  omega
theorem fraction_any (s n : Int) (w : World) (hs : -1000000 ≤ s ∧ s ≤ 1000000) (h1 : 1 ≤ n) (h2 : n ≤ 24) :
    Calls Try.prog 57 #[.int .i64 s, .int .i64 n] w fun e w' => e = .returned (.tuple #[.int .i64 (s.tdiv (Int.gcd s n : Nat)), .int .i64 (n.tdiv (Int.gcd s n : Nat))]) ∧ Below w.heap.size w w' := by
  obtain ⟨g1, g2⟩ := gcd_bd (s := s) h1 h2
  have HG := Lib.hid (gcd_any s n w hs (by omega))
  generalize ((Int.gcd s n : Nat) : Int) = g at *
  have b1 := Int.natAbs_tdiv_le_natAbs s g
  have b2 := Int.natAbs_tdiv_le_natAbs n g
  have e1 : IntKind.i64.wrap (s.tdiv g) = s.tdiv g := IntWalk.i64_in _ (by omega)
  have e2 : IntKind.i64.wrap (n.tdiv g) = n.tdiv g := IntWalk.i64_in _ (by omega)
  have hg0 : g ≠ 0 := by omega
  clear b1 b2
  go_enter Try.func57, Try.ntmps57
  go_wp2_with fail
  with_reducible refine HG.out.mono ?_
  rintro e w1 ⟨rfl, hb1⟩
  go_wp2_with fail
  go_quiet (fail)
  go_wp2
  exact bodyPost_ret (v := .tuple #[.int .i64 (s.tdiv g), .int .i64 (n.tdiv g)]) (by simp [results, Try.results57, go_sem]) rfl ⟨rfl, grow_trans hb1 (grow_drewN _ _)⟩
end Go.Proofs.Ytabedcpibnnnhaa
