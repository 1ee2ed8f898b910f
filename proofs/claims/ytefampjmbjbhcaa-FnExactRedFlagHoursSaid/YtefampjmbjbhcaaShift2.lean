/- WindShifts at any arguments; forecasts written over with marks. Conditions: as each states. -/
import Derived.Test.YtefampjmbjbhcaaShift
namespace Go.Proofs.Ytefampjmbjbhcaa
open Go.ChangeShapes Go.WideShapes Go.ChangeAt Go.RowKit Go.Deep
set_option linter.unusedVariables false
set_option linter.unusedSimpArgs false
set_option maxRecDepth 100000

theorem WindShifts_any (v : Value) (ps : List Wx) (t : Int) (w : World) (hs : Sl w 4 v ps.length (wxs ps)) :
    Calls Try.prog 68 #[v, .int .i64 t] w (RetSel w (selR (foreB ps && inB t 1 4) (shO ps t ps.length)) (foreB ps && inB t 1 4)) := by
  have HA := Lib.hid (IsForecast_any v ps w hs)
  obtain ⟨A, c, rfl⟩ := hs.val
  cases hF : foreB ps
  · rw [hF] at HA
    clear hs hF
    go_enter Try.func68, Try.ntmps68
    go_wp2_with (go_at_call 61; refine HA.out.mono ?_; rintro e w1 ⟨rfl, hb1⟩)
    exact bodyPost_ret (v := .tuple #[.slice none 0 0, .bool false]) (by simp [results, Try.results68, go_sem]) rfl ⟨_, rfl, own_nil _ _ _ _, hb1⟩
  · cases hT : inB t 1 4
    · rw [hF] at HA
      clear hs hF
      go_enter Try.func68, Try.ntmps68
      go_wp2_with fail
      with_reducible refine HA.out.mono ?_
      rintro e w1 ⟨rfl, hb1⟩
      have hb1 := Lib.hid hb1
      go_wp2_with (go_at_call 97; refine (in_any _ _ _ _).mono ?_; rintro e w' ⟨rfl, rfl⟩; rw [hT])
      exact bodyPost_ret (v := .tuple #[.slice none 0 0, .bool false]) (by simp [results, Try.results68, go_sem]) rfl ⟨_, rfl, own_nil _ _ _ _, hb1.out⟩
    · exact WindShifts_yes A c ps t w hs hF hT
theorem sWindShifts_any (v : Value) (ps : List Wx) (t : Int) (w : World) (hs : Sl w 4 v ps.length (wxs ps)) :
    Calls Try.prog 69 #[v, .int .i64 t] w (RetSel w (selR (foreB ps && inB t 1 4) (shO ps t ps.length)) (foreB ps && inB t 1 4)) := by
  have HA := Lib.hid fun W hW => l5Good_any v ps W (hs.below (w' := W) hW)
  obtain ⟨A, c, rfl⟩ := hs.val
  have ho0 : Hid ((w.alloc (.cells #[] 3)).ownsRow w.heap.size 3 1 (.slice (some ⟨w.heap.size, 0, none⟩) 0 0) 0 []) := by
    show World.ownsRow _ _ _ _ _ _ _
    have := World.ownsRow_lit (base := w.heap.size) (e := 3) (size := 1) w #[] 0 (Nat.le_refl _) (by unfold maxLen; omega) rfl
    simpa using this
  cases hF : foreB ps
  · rw [hF] at HA
    clear hs hF
    go_enter Try.func69, Try.ntmps69
    go_wp2_with fail
    with_reducible refine (HA.out _ (grow_alloc _ _)).mono ?_
    rintro e w1 ⟨rfl, hb1⟩
    have ho1 := Lib.hid (own_below ho0.out hb1)
    have hb1 := Lib.hid (grow_trans (grow_alloc _ _) hb1)
    go_wp2
    exact bodyPost_ret (v := .tuple #[.slice (some ⟨w.heap.size, 0, none⟩) 0 0, .bool false]) (by simp [results, Try.results69, go_sem]) rfl ⟨_, rfl, ho1.out, hb1.out⟩
  · cases hT : inB t 1 4
    · rw [hF] at HA
      clear hs hF
      go_enter Try.func69, Try.ntmps69
      go_wp2_with fail
      with_reducible refine (HA.out _ (grow_alloc _ _)).mono ?_
      rintro e w1 ⟨rfl, hb1⟩
      have ho1 := Lib.hid (own_below ho0.out hb1)
      have hb1 := Lib.hid (grow_trans (grow_alloc _ _) hb1)
      go_wp2_with (go_at_call 98; refine (l1In_any _ _ _ _).mono ?_; rintro e w' ⟨rfl, rfl⟩; rw [hT])
      exact bodyPost_ret (v := .tuple #[.slice (some ⟨w.heap.size, 0, none⟩) 0 0, .bool false]) (by simp [results, Try.results69, go_sem]) rfl ⟨_, rfl, ho1.out, hb1.out⟩
    · exact sWindShifts_yes A c ps t w hs hF hT
set_option maxHeartbeats 4000000 in
theorem markWeatherS_any (v : Value) (m : Int) (n base : Nat) (cs0 : List Value) (w : World) (h : w.ownsRow base 88 4 v n cs0) (h1 : 0 ≤ m) (h2 : m ≤ 1099511627776) (hn : n ≤ 1048576) :
    Calls Try.prog 37 #[v, .int .i64 m] w fun e w' => e = .returned (.int .i64 (m + 4 * n)) ∧ w.grownBy w' v.ownBlock := by
  obtain ⟨A, c, rfl, hA⟩ := own_form h
  rcases Nat.eq_zero_or_pos n with rfl | hpos
  · clear h hA
    go_enter Try.func37, Try.ntmps37
    go_wp2
    refine wp_loop_rounds 1 ?_
    rw [rounds_succ]
    go_wp2
    go_ret
    exact ⟨by simp, World.grownBy.refl _ _⟩
  · obtain ⟨g, rfl, hbg, hg⟩ := hA hpos
    have Hh := Lib.hid h
    clear h hA
    go_enter Try.func37, Try.ntmps37
    go_wp2
    go_loopw [1, 5] (fun q i wr => ∃ k : Nat, k ≤ n ∧ i = .int .i64 k ∧ q = .int .i64 (m + 4 * k) ∧ Hid (w.grownBy wr (some g)) ∧ Hid (∃ cs, wr.ownsRow base 88 4 (.slice (some ⟨g, 0, none⟩) n c) n cs)) (fun _ i _ => n - (intOf i).toNat)
    case atStart => exact ⟨0, Nat.zero_le _, rfl, by simp, World.grownBy.refl _ _, _, Hh.out⟩
    case round =>
      obtain ⟨k, hk, rfl, rfl, hgr, hcs⟩ := hrel
      by_cases hlt : k < n
      · obtain ⟨cs, ho⟩ := hcs.out
        have hl := ho.1
        obtain ⟨u0, hu0⟩ : ∃ u, cs[k * 4]? = some u := ⟨_, List.getElem?_eq_getElem (by omega)⟩
        obtain ⟨u1, hu1⟩ : ∃ u, cs[k * 4 + 1]? = some u := ⟨_, List.getElem?_eq_getElem (by omega)⟩
        obtain ⟨u2, hu2⟩ : ∃ u, cs[k * 4 + 2]? = some u := ⟨_, List.getElem?_eq_getElem (by omega)⟩
        obtain ⟨u3, hu3⟩ : ∃ u, cs[k * 4 + 3]? = some u := ⟨_, List.getElem?_eq_getElem (by omega)⟩
        have d0 := ho.cellAt (k * 4) (by omega)
        have d1 := ho.cellAt (k * 4 + 1) (by omega)
        have d2 := ho.cellAt (k * 4 + 2) (by omega)
        have d3 := ho.cellAt (k * 4 + 3) (by omega)
        rw [hu0] at d0
        rw [hu1] at d1
        rw [hu2] at d2
        rw [hu3] at d3
        have f0 := ho.frozenAt (k * 4)
        have f1 := ho.frozenAt (k * 4 + 1)
        have f2 := ho.frozenAt (k * 4 + 2)
        have f3 := ho.frozenAt (k * 4 + 3)
        have Ho := Lib.hid ho
        clear hu0 hu1 hu2 hu3 hl hcs ho
        go_wp2
        go_roundw
        case rel =>
          have s1 := Ho.out.stored (k * 4) (.int .i64 (m + 4 * k))
          have s2 := s1.1.stored (k * 4 + 1) (.int .i64 (m + 4 * k + 1))
          have s3 := s2.1.stored (k * 4 + 2) (.int .i64 (m + 4 * k + 1 + 1))
          have s4 := s3.1.stored (k * 4 + 3) (.int .i64 (m + 4 * k + 1 + 1 + 1))
          exact ⟨k + 1, by omega, by go_num, by simp; omega, grownBy_trans (grownBy_trans (grownBy_trans (grownBy_trans hgr.out s1.2) s2.2) s3.2) s4.2, _, s4.1⟩
        case measure => simp [intOf]; omega
      · obtain rfl : k = n := by omega
        clear hcs
        go_wp2
        go_ret
        exact ⟨rfl, hgr.out⟩
end Go.Proofs.Ytefampjmbjbhcaa
