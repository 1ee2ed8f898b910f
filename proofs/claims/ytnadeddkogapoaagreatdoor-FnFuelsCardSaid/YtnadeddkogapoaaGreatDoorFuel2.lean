/- Contracts of HeatOf, SpeedIn and DampestFor, the program's and the reference's. Conditions: none but a text's length. -/
import Derived.Test.YtnadeddkogapoaaGreatDoorFuel
namespace Go.Proofs.YtnadeddkogapoaaGreatDoor
open Go.ChangeShapes Go.WideShapes Go.ChangeAt Go.RowKit
set_option linter.unusedVariables false
set_option linter.unusedSimpArgs false
set_option maxRecDepth 100000

theorem below_box {w w1 : World} {o : Obj} (hb : Below (w.alloc o).heap.size (w.alloc o) w1) : Below w.heap.size w w1 := ((Below.refl _ _).alloc (Nat.le_refl _) _).trans (hb.mono (by simp))

set_option maxHeartbeats 1000000 in
theorem SpeedIn_any (i : Int) (n : ByteArray) (r l o m s : Int) (w : World) (hs : n.size ≤ maxLen) :
    Calls Tryz.prog 21 #[.agg #[.int .i64 i, .string n, .int .i64 r, .int .i64 l, .int .i64 o], .int .i64 m, .int .i64 s] w fun e w' =>
      e = .returned (okR (fuelB i n.data.toList r l o && inB m 0 400 && inB s (-45) 45) (speedN r l m s)) ∧ Below w.heap.size w w' := by
  cases h1 : fuelB i n.data.toList r l o
  · go_enter Tryz.func21, Tryz.ntmps21
    go_wp2_with (go_at_call 8; refine (IsFuel_any _ _ _ _ _ _ hs).mono ?_; rintro e w' ⟨rfl, hb⟩)
    go_ret2
    exact ⟨rfl, below_box hb⟩
  · cases h2 : inB m 0 400
    · go_enter Tryz.func21, Tryz.ntmps21
      go_wp2_with (first | (go_at_call 8; refine (IsFuel_any _ _ _ _ _ _ hs).mono ?_; rintro e w' ⟨rfl, hb⟩) | (go_at_call 48; refine (isMoisture_any _ _).mono ?_; rintro e w' ⟨rfl, rfl⟩))
      go_ret2
      exact ⟨rfl, below_box hb⟩
    · cases h3 : inB s (-45) 45
      · go_enter Tryz.func21, Tryz.ntmps21
        go_wp2_with (first | (go_at_call 8; refine (IsFuel_any _ _ _ _ _ _ hs).mono ?_; rintro e w' ⟨rfl, hb⟩) | (go_at_call 48; refine (isMoisture_any _ _).mono ?_; rintro e w' ⟨rfl, rfl⟩) | (go_at_call 53; refine (isSlope_any _ _).mono ?_; rintro e w' ⟨rfl, rfl⟩))
        go_ret2
        exact ⟨rfl, below_box hb⟩
      · obtain ⟨_, _, ⟨r1, r2⟩, ⟨l1, l2⟩, _⟩ := fuelB_iff.1 h1
        obtain ⟨m1, m2⟩ := inB_iff.1 h2
        obtain ⟨s1, s2⟩ := inB_iff.1 h3
        go_enter Tryz.func21, Tryz.ntmps21
        go_wp2_with (first | (go_at_call 8; refine (IsFuel_any _ _ _ _ _ _ hs).mono ?_; rintro e w1 ⟨rfl, hb⟩; have hc := (bcell hb).1) | (go_at_call 48; refine (isMoisture_any _ _).mono ?_; rintro e w' ⟨rfl, rfl⟩) | (go_at_call 53; refine (isSlope_any _ _).mono ?_; rintro e w' ⟨rfl, rfl⟩) | (go_at_call 49; refine (speed_any _ _ _ _ _ _ _ _ r1 r2 l1 l2 m1 m2 s1 s2).mono ?_; rintro e w2 ⟨rfl, hb2⟩))
        go_ret2
        exact ⟨rfl, (below_box hb).trans (hb2.mono (by have := hb.size; simp at this; omega))⟩
end Go.Proofs.YtnadeddkogapoaaGreatDoor
