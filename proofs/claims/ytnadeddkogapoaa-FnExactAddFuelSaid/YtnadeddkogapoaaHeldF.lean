/- Marks held in a list of fuels. Conditions: as each states. -/
import Derived.Test.YtnadeddkogapoaaMarkF
namespace Go.Proofs.Ytnadeddkogapoaa
open Go.ChangeShapes Go.WideShapes Go.ChangeAt Go.RowKit Go.Deep
set_option linter.unusedVariables false
set_option linter.unusedSimpArgs false
set_option maxRecDepth 100000

set_option maxHeartbeats 4000000 in
theorem heldFuelS_any (v : Value) (m n : Nat) (w : World) (h : Sl w 5 v n (fus (fmk m n))) (h2 : m ≤ 10000000) (hn : n ≤ 1048576) :
    Calls Try.prog 12 #[v, .int .i64 m] w fun e w' => e = .returned (.int .i64 ((m + 5 * n : Nat) : Int)) ∧ Below w.heap.size w w' := by
  obtain ⟨A, c, rfl⟩ := h.val
  have Hh := Lib.hid h
  clear h
  go_enter Try.func12, Try.ntmps12
  go_wp2
  go_loopw [1, 5] (fun q i wr => ∃ k : Nat, k ≤ n ∧ i = .int .i64 k ∧ q = .int .i64 ((m + 5 * k : Nat) : Int) ∧ Hid (Below w.heap.size w wr)) (fun _ i _ => n - (intOf i).toNat)
  case atStart => exact ⟨0, Nat.zero_le _, rfl, rfl, Below.refl _ _⟩
  case round =>
    obtain ⟨k, hk, rfl, rfl, hb⟩ := hrel
    by_cases hlt : k < n
    · obtain ⟨b, off, i, s, r, l, o, rfl, hx, d0, d1, d2, d3, d4⟩ := Sl.fu Hh.out (fmk_length m n) hlt
      rw [fmk_at m n k hlt] at hx
      unfold fmk1 at hx
      injection hx with hx
      injection hx with e0 e1 e2 e3 e4
      subst e0 e1 e2 e3 e4
      have hqs : Hid (((m + 5 * (k + 1) : Nat) : Int) = ((m + 5 * k : Nat) : Int) + 5) := by show _ = _; omega
      have hqb : m + 5 * k ≤ 20000000 := by omega
      generalize m + 5 * k = q at *
      have hM := Lib.hid fun W => markT_any q W (by omega)
      generalize mtext (q + 1) = M at *
      have c0 := cell_keeps hb.out d0
      have c1 := cell_keeps hb.out d1
      have c2 := cell_keeps hb.out d2
      have c3 := cell_keeps hb.out d3
      have c4 := cell_keeps hb.out d4
      have q2 : (q : Int) + 1 + 1 = (q : Int) + 2 := by omega
      have q3 : (q : Int) + 2 + 1 = (q : Int) + 3 := by omega
      have q4 : (q : Int) + 3 + 1 = (q : Int) + 4 := by omega
      have q5 : (q : Int) + 4 + 1 = (q : Int) + 5 := by omega
      clear d0 d1 d2 d3 d4
      have hb2 := Lib.hid (grow_trans hb.out (grow_drew wr))
      go_wp2_with fail
      go_region_with (go_at_call 18; refine (hM.out _).mono ?_; rintro e w1 ⟨rfl, hb1⟩; have g1 := cell_keeps (grow_trans (grow_drew wr) hb1) c1; have g2 := cell_keeps (grow_trans (grow_drew wr) hb1) c2; have g3 := cell_keeps (grow_trans (grow_drew wr) hb1) c3; have g4 := cell_keeps (grow_trans (grow_drew wr) hb1) c4; have hb3 := Lib.hid (grow_trans hb2.out hb1); clear hb1)
      all_goals
        go_wp2
        go_roundw
        case rel => exact ⟨k + 1, by omega, by go_num, by rw [hqs.out], hb3.out⟩
        case measure => simp [intOf]; omega
    · obtain rfl : k = n := by omega
      clear hlt
      go_wp2
      go_ret
      exact ⟨rfl, hb.out⟩
end Go.Proofs.Ytnadeddkogapoaa
