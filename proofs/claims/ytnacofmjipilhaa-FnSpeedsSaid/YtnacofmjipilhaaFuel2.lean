/- Contracts of HeatOf, SpeedIn and DampestFor, the program's and the reference's. Conditions: none but a text's length. -/
import Derived.Test.YtnacofmjipilhaaFuel
namespace Go.Proofs.Ytnacofmjipilhaa
open Go.ChangeShapes Go.WideShapes Go.ChangeAt Go.RowKit
set_option linter.unusedVariables false
set_option linter.unusedSimpArgs false
set_option maxRecDepth 100000

theorem below_box {w w1 : World} {o : Obj} (hb : Below (w.alloc o).heap.size (w.alloc o) w1) : Below w.heap.size w w1 := ((Below.refl _ _).alloc (Nat.le_refl _) _).trans (hb.mono (by simp))

set_option maxHeartbeats 1000000 in
theorem sHeatOf_any (i : Int) (n : ByteArray) (r l o v : Int) (w : World) (hs : n.size ≤ maxLen) :
    Calls Try.prog 35 #[.agg #[.int .i64 i, .string n, .int .i64 r, .int .i64 l, .int .i64 o], .int .i64 v] w fun e w' =>
      e = .returned (okR (fuelB i n.data.toList r l o && inB v 0 10000) (o * v / 20)) ∧ Below w.heap.size w w' := by
  cases h1 : fuelB i n.data.toList r l o
  · go_enter Try.func35, Try.ntmps35
    go_wp2_with (go_at_call 91; refine (l3One_any _ _ _ _ _ _ hs).mono ?_; rintro e w' ⟨rfl, hb⟩)
    go_ret2
    exact ⟨rfl, below_box hb⟩
  · cases h2 : inB v 0 10000
    · go_enter Try.func35, Try.ntmps35
      go_wp2_with (first | (go_at_call 91; refine (l3One_any _ _ _ _ _ _ hs).mono ?_; rintro e w' ⟨rfl, hb⟩) | (go_at_call 96; refine (l1In_any _ _ _ _).mono ?_; rintro e w' ⟨rfl, rfl⟩))
      go_ret2
      exact ⟨rfl, below_box hb⟩
    · obtain ⟨_, _, _, _, o1, o2⟩ := fuelB_iff.1 h1
      obtain ⟨v1, v2⟩ := inB_iff.1 h2
      obtain ⟨u1, u2⟩ := mul_bound (a := o) (b := v) (x := 500) (y := 10000) (by omega) o2 v1 v2
      go_enter Try.func35, Try.ntmps35
      go_wp2_with (first | (go_at_call 91; refine (l3One_any _ _ _ _ _ _ hs).mono ?_; rintro e w' ⟨rfl, hb⟩; have hc := (bcell hb).1) | (go_at_call 96; refine (l1In_any _ _ _ _).mono ?_; rintro e w' ⟨rfl, rfl⟩))
      go_ret2
      exact ⟨rfl, below_box hb⟩
set_option maxHeartbeats 1000000 in
theorem HeatOf_any (i : Int) (n : ByteArray) (r l o v : Int) (w : World) (hs : n.size ≤ maxLen) :
    Calls Try.prog 34 #[.agg #[.int .i64 i, .string n, .int .i64 r, .int .i64 l, .int .i64 o], .int .i64 v] w fun e w' =>
      e = .returned (okR (fuelB i n.data.toList r l o && inB v 0 10000) (o * v / 20)) ∧ Below w.heap.size w w' := by
  cases h1 : fuelB i n.data.toList r l o
  · go_enter Try.func34, Try.ntmps34
    go_wp2_with (go_at_call 89; refine (IsFuel_any _ _ _ _ _ _ hs).mono ?_; rintro e w' ⟨rfl, hb⟩)
    go_ret2
    exact ⟨rfl, below_box hb⟩
  · cases h2 : inB v 0 10000
    · go_enter Try.func34, Try.ntmps34
      go_wp2_with (first | (go_at_call 89; refine (IsFuel_any _ _ _ _ _ _ hs).mono ?_; rintro e w' ⟨rfl, hb⟩) | (go_at_call 95; refine (in_any _ _ _ _).mono ?_; rintro e w' ⟨rfl, rfl⟩))
      go_ret2
      exact ⟨rfl, below_box hb⟩
    · obtain ⟨_, _, _, _, o1, o2⟩ := fuelB_iff.1 h1
      obtain ⟨v1, v2⟩ := inB_iff.1 h2
      obtain ⟨u1, u2⟩ := mul_bound (a := o) (b := v) (x := 500) (y := 10000) (by omega) o2 v1 v2
      go_enter Try.func34, Try.ntmps34
      go_wp2_with (first | (go_at_call 89; refine (IsFuel_any _ _ _ _ _ _ hs).mono ?_; rintro e w' ⟨rfl, hb⟩; have hc := (bcell hb).1) | (go_at_call 95; refine (in_any _ _ _ _).mono ?_; rintro e w' ⟨rfl, rfl⟩))
      go_ret2
      exact ⟨rfl, below_box hb⟩
set_option maxHeartbeats 1000000 in
theorem sSpeedIn_any (i : Int) (n : ByteArray) (r l o m s : Int) (w : World) (hs : n.size ≤ maxLen) :
    Calls Try.prog 29 #[.agg #[.int .i64 i, .string n, .int .i64 r, .int .i64 l, .int .i64 o], .int .i64 m, .int .i64 s] w fun e w' =>
      e = .returned (okR (fuelB i n.data.toList r l o && inB m 0 400 && inB s (-45) 45) (speedN r l m s)) ∧ Below w.heap.size w w' := by
  cases h1 : fuelB i n.data.toList r l o
  · go_enter Try.func29, Try.ntmps29
    go_wp2_with (go_at_call 91; refine (l3One_any _ _ _ _ _ _ hs).mono ?_; rintro e w' ⟨rfl, hb⟩)
    go_ret2
    exact ⟨rfl, below_box hb⟩
  · cases h2 : inB m 0 400
    · go_enter Try.func29, Try.ntmps29
      go_wp2_with (first | (go_at_call 91; refine (l3One_any _ _ _ _ _ _ hs).mono ?_; rintro e w' ⟨rfl, hb⟩) | (go_at_call 76; refine (l20Moist_any _ _).mono ?_; rintro e w' ⟨rfl, rfl⟩))
      go_ret2
      exact ⟨rfl, below_box hb⟩
    · cases h3 : inB s (-45) 45
      · go_enter Try.func29, Try.ntmps29
        go_wp2_with (first | (go_at_call 91; refine (l3One_any _ _ _ _ _ _ hs).mono ?_; rintro e w' ⟨rfl, hb⟩) | (go_at_call 76; refine (l20Moist_any _ _).mono ?_; rintro e w' ⟨rfl, rfl⟩) | (go_at_call 92; refine (l3Slope_any _ _).mono ?_; rintro e w' ⟨rfl, rfl⟩))
        go_ret2
        exact ⟨rfl, below_box hb⟩
      · obtain ⟨_, _, ⟨r1, r2⟩, ⟨l1, l2⟩, _⟩ := fuelB_iff.1 h1
        obtain ⟨m1, m2⟩ := inB_iff.1 h2
        obtain ⟨s1, s2⟩ := inB_iff.1 h3
        go_enter Try.func29, Try.ntmps29
        go_wp2_with (first | (go_at_call 91; refine (l3One_any _ _ _ _ _ _ hs).mono ?_; rintro e w1 ⟨rfl, hb⟩; have hc := (bcell hb).1) | (go_at_call 76; refine (l20Moist_any _ _).mono ?_; rintro e w' ⟨rfl, rfl⟩) | (go_at_call 92; refine (l3Slope_any _ _).mono ?_; rintro e w' ⟨rfl, rfl⟩) | (go_at_call 77; refine (l3Speed_any _ _ _ _ _ _ _ _ r1 r2 l1 l2 m1 m2 s1 s2).mono ?_; rintro e w2 ⟨rfl, hb2⟩))
        go_ret2
        exact ⟨rfl, (below_box hb).trans (hb2.mono (by have := hb.size; simp at this; omega))⟩
set_option maxHeartbeats 1000000 in
theorem SpeedIn_any (i : Int) (n : ByteArray) (r l o m s : Int) (w : World) (hs : n.size ≤ maxLen) :
    Calls Try.prog 28 #[.agg #[.int .i64 i, .string n, .int .i64 r, .int .i64 l, .int .i64 o], .int .i64 m, .int .i64 s] w fun e w' =>
      e = .returned (okR (fuelB i n.data.toList r l o && inB m 0 400 && inB s (-45) 45) (speedN r l m s)) ∧ Below w.heap.size w w' := by
  cases h1 : fuelB i n.data.toList r l o
  · go_enter Try.func28, Try.ntmps28
    go_wp2_with (go_at_call 89; refine (IsFuel_any _ _ _ _ _ _ hs).mono ?_; rintro e w' ⟨rfl, hb⟩)
    go_ret2
    exact ⟨rfl, below_box hb⟩
  · cases h2 : inB m 0 400
    · go_enter Try.func28, Try.ntmps28
      go_wp2_with (first | (go_at_call 89; refine (IsFuel_any _ _ _ _ _ _ hs).mono ?_; rintro e w' ⟨rfl, hb⟩) | (go_at_call 79; refine (isMoisture_any _ _).mono ?_; rintro e w' ⟨rfl, rfl⟩))
      go_ret2
      exact ⟨rfl, below_box hb⟩
    · cases h3 : inB s (-45) 45
      · go_enter Try.func28, Try.ntmps28
        go_wp2_with (first | (go_at_call 89; refine (IsFuel_any _ _ _ _ _ _ hs).mono ?_; rintro e w' ⟨rfl, hb⟩) | (go_at_call 79; refine (isMoisture_any _ _).mono ?_; rintro e w' ⟨rfl, rfl⟩) | (go_at_call 90; refine (isSlope_any _ _).mono ?_; rintro e w' ⟨rfl, rfl⟩))
        go_ret2
        exact ⟨rfl, below_box hb⟩
      · obtain ⟨_, _, ⟨r1, r2⟩, ⟨l1, l2⟩, _⟩ := fuelB_iff.1 h1
        obtain ⟨m1, m2⟩ := inB_iff.1 h2
        obtain ⟨s1, s2⟩ := inB_iff.1 h3
        go_enter Try.func28, Try.ntmps28
        go_wp2_with (first | (go_at_call 89; refine (IsFuel_any _ _ _ _ _ _ hs).mono ?_; rintro e w1 ⟨rfl, hb⟩; have hc := (bcell hb).1) | (go_at_call 79; refine (isMoisture_any _ _).mono ?_; rintro e w' ⟨rfl, rfl⟩) | (go_at_call 90; refine (isSlope_any _ _).mono ?_; rintro e w' ⟨rfl, rfl⟩) | (go_at_call 80; refine (speed_any _ _ _ _ _ _ _ _ r1 r2 l1 l2 m1 m2 s1 s2).mono ?_; rintro e w2 ⟨rfl, hb2⟩))
        go_ret2
        exact ⟨rfl, (below_box hb).trans (hb2.mono (by have := hb.size; simp at this; omega))⟩
set_option maxHeartbeats 1000000 in
theorem sDampestFor_any (i : Int) (n : ByteArray) (r l o s v : Int) (w : World) (hs : n.size ≤ maxLen) :
    Calls Try.prog 32 #[.agg #[.int .i64 i, .string n, .int .i64 r, .int .i64 l, .int .i64 o], .int .i64 s, .int .i64 v] w fun e w' =>
      e = .returned (optR (if fuelB i n.data.toList r l o && inB s (-45) 45 && inB v 1 10000 then dampAt r l s v 400 else none)) ∧ Below w.heap.size w w' := by
  cases h1 : fuelB i n.data.toList r l o
  · go_enter Try.func32, Try.ntmps32
    go_wp2_with (go_at_call 91; refine (l3One_any _ _ _ _ _ _ hs).mono ?_; rintro e w' ⟨rfl, hb⟩)
    go_ret2
    exact ⟨rfl, below_box hb⟩
  · cases h2 : inB s (-45) 45
    · go_enter Try.func32, Try.ntmps32
      go_wp2_with (first | (go_at_call 91; refine (l3One_any _ _ _ _ _ _ hs).mono ?_; rintro e w' ⟨rfl, hb⟩) | (go_at_call 92; refine (l3Slope_any _ _).mono ?_; rintro e w' ⟨rfl, rfl⟩))
      go_ret2
      exact ⟨rfl, below_box hb⟩
    · cases h3 : inB v 1 10000
      · go_enter Try.func32, Try.ntmps32
        go_wp2_with (first | (go_at_call 91; refine (l3One_any _ _ _ _ _ _ hs).mono ?_; rintro e w' ⟨rfl, hb⟩) | (go_at_call 92; refine (l3Slope_any _ _).mono ?_; rintro e w' ⟨rfl, rfl⟩) | (go_at_call 96; refine (l1In_any _ _ _ _).mono ?_; rintro e w' ⟨rfl, rfl⟩))
        go_ret2
        exact ⟨rfl, below_box hb⟩
      · obtain ⟨_, _, ⟨r1, r2⟩, ⟨l1, l2⟩, _⟩ := fuelB_iff.1 h1
        obtain ⟨s1, s2⟩ := inB_iff.1 h2
        go_enter Try.func32, Try.ntmps32
        go_wp2_with (first | (go_at_call 91; refine (l3One_any _ _ _ _ _ _ hs).mono ?_; rintro e w1 ⟨rfl, hb1⟩) | (go_at_call 92; refine (l3Slope_any _ _).mono ?_; rintro e w' ⟨rfl, rfl⟩) | (go_at_call 96; refine (l1In_any _ _ _ _).mono ?_; rintro e w' ⟨rfl, rfl⟩))
        go_loopw [8] (fun m wr => ∃ k : Int, -1 ≤ k ∧ k ≤ 400 ∧ m = .int .i64 k ∧ Hid (dampAt r l s v 400 = dampAt r l s v k) ∧ Hid (Below (w.alloc (.cells #[.int .i64 i, .string n, .int .i64 r, .int .i64 l, .int .i64 o] 39)).heap.size (w.alloc (.cells #[.int .i64 i, .string n, .int .i64 r, .int .i64 l, .int .i64 o] 39)) wr)) (fun m _ => (intOf m + 1).toNat)
        case atStart => exact ⟨400, by omega, by omega, rfl, rfl, hb1⟩
        case round =>
          obtain ⟨k, k1, k2, rfl, hd, hb⟩ := hrel
          by_cases hk : 0 ≤ k
          · have hc := (bcell hb.out).1
            go_wp2_with (go_at_call 77; refine (l3Speed_any _ _ _ _ _ _ _ _ r1 r2 l1 l2 hk k2 s1 s2).mono ?_; rintro e w2 ⟨rfl, hb2⟩)
            · have hv : v ≤ speedN r l k s := by assumption
              go_ret2
              exact ⟨by rw [hd.out, dampAt_hit hk hv]; rfl, (below_box hb.out).trans (hb2.mono (by have := hb.out.size; simp at this; omega))⟩
            · have hv : ¬ v ≤ speedN r l k s := by omega
              go_roundw
              case rel => exact ⟨k - 1, by omega, by omega, rfl, by show _ = _; rw [hd.out, dampAt_miss hk hv], hb.out.trans (hb2.mono hb.out.size)⟩
              case measure => simp [intOf]; omega
          · go_wp2
            go_ret2
            exact ⟨by rw [hd.out, show dampAt r l s v k = none by simp [dampAt]; omega]; rfl, below_box hb.out⟩
set_option maxHeartbeats 1000000 in
theorem DampestFor_any (i : Int) (n : ByteArray) (r l o s v : Int) (w : World) (hs : n.size ≤ maxLen) :
    Calls Try.prog 31 #[.agg #[.int .i64 i, .string n, .int .i64 r, .int .i64 l, .int .i64 o], .int .i64 s, .int .i64 v] w fun e w' =>
      e = .returned (optR (if fuelB i n.data.toList r l o && inB s (-45) 45 && inB v 1 10000 then dampAt r l s v 400 else none)) ∧ Below w.heap.size w w' := by
  cases h1 : fuelB i n.data.toList r l o
  · go_enter Try.func31, Try.ntmps31
    go_wp2_with (go_at_call 89; refine (IsFuel_any _ _ _ _ _ _ hs).mono ?_; rintro e w' ⟨rfl, hb⟩)
    go_ret2
    exact ⟨rfl, below_box hb⟩
  · cases h2 : inB s (-45) 45
    · go_enter Try.func31, Try.ntmps31
      go_wp2_with (first | (go_at_call 89; refine (IsFuel_any _ _ _ _ _ _ hs).mono ?_; rintro e w' ⟨rfl, hb⟩) | (go_at_call 90; refine (isSlope_any _ _).mono ?_; rintro e w' ⟨rfl, rfl⟩))
      go_ret2
      exact ⟨rfl, below_box hb⟩
    · cases h3 : inB v 1 10000
      · go_enter Try.func31, Try.ntmps31
        go_wp2_with (first | (go_at_call 89; refine (IsFuel_any _ _ _ _ _ _ hs).mono ?_; rintro e w' ⟨rfl, hb⟩) | (go_at_call 90; refine (isSlope_any _ _).mono ?_; rintro e w' ⟨rfl, rfl⟩) | (go_at_call 95; refine (in_any _ _ _ _).mono ?_; rintro e w' ⟨rfl, rfl⟩))
        go_ret2
        exact ⟨rfl, below_box hb⟩
      · obtain ⟨_, _, ⟨r1, r2⟩, ⟨l1, l2⟩, _⟩ := fuelB_iff.1 h1
        obtain ⟨s1, s2⟩ := inB_iff.1 h2
        go_enter Try.func31, Try.ntmps31
        go_wp2_with (first | (go_at_call 89; refine (IsFuel_any _ _ _ _ _ _ hs).mono ?_; rintro e w1 ⟨rfl, hb1⟩) | (go_at_call 90; refine (isSlope_any _ _).mono ?_; rintro e w' ⟨rfl, rfl⟩) | (go_at_call 95; refine (in_any _ _ _ _).mono ?_; rintro e w' ⟨rfl, rfl⟩))
        go_loopw [8] (fun m wr => ∃ k : Int, -1 ≤ k ∧ k ≤ 400 ∧ m = .int .i64 k ∧ Hid (dampAt r l s v 400 = dampAt r l s v k) ∧ Hid (Below (w.alloc (.cells #[.int .i64 i, .string n, .int .i64 r, .int .i64 l, .int .i64 o] 39)).heap.size (w.alloc (.cells #[.int .i64 i, .string n, .int .i64 r, .int .i64 l, .int .i64 o] 39)) wr)) (fun m _ => (intOf m + 1).toNat)
        case atStart => exact ⟨400, by omega, by omega, rfl, rfl, hb1⟩
        case round =>
          obtain ⟨k, k1, k2, rfl, hd, hb⟩ := hrel
          by_cases hk : 0 ≤ k
          · have hc := (bcell hb.out).1
            go_wp2_with (go_at_call 80; refine (speed_any _ _ _ _ _ _ _ _ r1 r2 l1 l2 hk k2 s1 s2).mono ?_; rintro e w2 ⟨rfl, hb2⟩)
            · have hv : v ≤ speedN r l k s := by assumption
              go_ret2
              exact ⟨by rw [hd.out, dampAt_hit hk hv]; rfl, (below_box hb.out).trans (hb2.mono (by have := hb.out.size; simp at this; omega))⟩
            · have hv : ¬ v ≤ speedN r l k s := by omega
              go_roundw
              case rel => exact ⟨k - 1, by omega, by omega, rfl, by show _ = _; rw [hd.out, dampAt_miss hk hv], hb.out.trans (hb2.mono hb.out.size)⟩
              case measure => simp [intOf]; omega
          · go_wp2
            go_ret2
            exact ⟨by rw [hd.out, show dampAt r l s v k = none by simp [dampAt]; omega]; rfl, below_box hb.out⟩
end Go.Proofs.Ytnacofmjipilhaa
