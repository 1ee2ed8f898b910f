/- WindShifts at any arguments; forecasts written over with marks. Conditions: as each states. -/
import Derived.Test.YtabedcpibnnnhaaShift
namespace Go.Proofs.Ytabedcpibnnnhaa
open Go.ChangeShapes Go.WideShapes Go.ChangeAt Go.RowKit Go.Deep
set_option linter.unusedVariables false
set_option linter.unusedSimpArgs false
set_option maxRecDepth 100000

theorem WindShifts_any (v : Value) (ps : List Wx) (t : Int) (w : World) (hs : Sl w 4 v ps.length (wxs ps)) :
    Calls Try.prog 33 #[v, .int .i64 t] w (RetSel w (selR (foreB ps && inB t 1 4) (shO ps t ps.length)) (foreB ps && inB t 1 4)) := by
  have HA := Lib.hid (IsForecast_any v ps w hs)
  obtain ⟨A, c, rfl⟩ := hs.val
  cases hF : foreB ps
  · rw [hF] at HA
    clear hs hF
    go_enter Try.func33, Try.ntmps33
    go_wp2_with (go_at_call 24; refine HA.out.mono ?_; rintro e w1 ⟨rfl, hb1⟩)
    exact bodyPost_ret (v := .tuple #[.slice none 0 0, .bool false]) (by simp [results, Try.results33, go_sem]) rfl ⟨_, rfl, own_nil _ _ _ _, hb1⟩
  · cases hT : inB t 1 4
    · rw [hF] at HA
      clear hs hF
      go_enter Try.func33, Try.ntmps33
      go_wp2_with fail
      with_reducible refine HA.out.mono ?_
      rintro e w1 ⟨rfl, hb1⟩
      have hb1 := Lib.hid hb1
      go_wp2_with (go_at_call 53; refine (in_any _ _ _ _).mono ?_; rintro e w' ⟨rfl, rfl⟩; rw [hT])
      exact bodyPost_ret (v := .tuple #[.slice none 0 0, .bool false]) (by simp [results, Try.results33, go_sem]) rfl ⟨_, rfl, own_nil _ _ _ _, hb1.out⟩
    · exact WindShifts_yes A c ps t w hs hF hT
theorem sWindShifts_any (v : Value) (ps : List Wx) (t : Int) (w : World) (hs : Sl w 4 v ps.length (wxs ps)) :
    Calls Try.prog 34 #[v, .int .i64 t] w (RetSel w (selR (foreB ps && inB t 1 4) (shO ps t ps.length)) (foreB ps && inB t 1 4)) := by
  have HA := Lib.hid fun W hW => l5Good_any v ps W (hs.below (w' := W) hW)
  obtain ⟨A, c, rfl⟩ := hs.val
  have ho0 : Hid ((w.alloc (.cells #[] 3)).ownsRow w.heap.size 3 1 (.slice (some ⟨w.heap.size, 0, none⟩) 0 0) 0 []) := by
    show World.ownsRow _ _ _ _ _ _ _
    have := World.ownsRow_lit (base := w.heap.size) (e := 3) (size := 1) w #[] 0 (Nat.le_refl _) (by unfold maxLen; omega) rfl
    simpa using this
  cases hF : foreB ps
  · rw [hF] at HA
    clear hs hF
    go_enter Try.func34, Try.ntmps34
    go_wp2_with fail
    with_reducible refine (HA.out _ (grow_alloc _ _)).mono ?_
    rintro e w1 ⟨rfl, hb1⟩
    have ho1 := Lib.hid (own_below ho0.out hb1)
    have hb1 := Lib.hid (grow_trans (grow_alloc _ _) hb1)
    go_wp2
    exact bodyPost_ret (v := .tuple #[.slice (some ⟨w.heap.size, 0, none⟩) 0 0, .bool false]) (by simp [results, Try.results34, go_sem]) rfl ⟨_, rfl, ho1.out, hb1.out⟩
  · cases hT : inB t 1 4
    · rw [hF] at HA
      clear hs hF
      go_enter Try.func34, Try.ntmps34
      go_wp2_with fail
      with_reducible refine (HA.out _ (grow_alloc _ _)).mono ?_
      rintro e w1 ⟨rfl, hb1⟩
      have ho1 := Lib.hid (own_below ho0.out hb1)
      have hb1 := Lib.hid (grow_trans (grow_alloc _ _) hb1)
      go_wp2_with (go_at_call 61; refine (l1In_any _ _ _ _).mono ?_; rintro e w' ⟨rfl, rfl⟩; rw [hT])
      exact bodyPost_ret (v := .tuple #[.slice (some ⟨w.heap.size, 0, none⟩) 0 0, .bool false]) (by simp [results, Try.results34, go_sem]) rfl ⟨_, rfl, ho1.out, hb1.out⟩
    · exact sWindShifts_yes A c ps t w hs hF hT
end Go.Proofs.Ytabedcpibnnnhaa
