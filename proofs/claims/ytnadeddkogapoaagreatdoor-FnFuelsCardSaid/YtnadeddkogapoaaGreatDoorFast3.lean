/- FastestFuel in the program. Conditions: as each states. -/
import Derived.Test.YtnadeddkogapoaaGreatDoorFast2
namespace Go.Proofs.YtnadeddkogapoaaGreatDoor
open Go.ChangeShapes Go.WideShapes Go.ChangeAt Go.RowKit Go.Deep
set_option linter.unusedVariables false
set_option linter.unusedSimpArgs false
set_option maxRecDepth 100000

set_option maxHeartbeats 4000000 in
theorem FastestFuel_any (v : Value) (ps : List Fu) (m : Int) (w : World) (hs : Sl w 5 v ps.length (fus ps)) (hm : ∀ p ∈ ps, p.n.size ≤ maxLen) :
    Calls Tryz.prog 24 #[v, .int .i64 m] w fun e w' => e = .returned (fastR ps m) ∧ Below w.heap.size w w' := by
  have hb0 : Hid (Below w.heap.size w (w.alloc (.cells #[.int .i64 m] 3))) := grow_alloc _ _
  have hc0 : Hid ((w.alloc (.cells #[.int .i64 m] 3)).cell? ⟨w.heap.size, 0, none⟩ = some (.int .i64 m)) := by show _ = _; simp [go_sem]
  have HA := Lib.hid (AreFuels_any v ps _ (hs.below hb0.out) hm)
  have HR : Hid (fastR ps m = triV (areB ps && inB m 0 400 && decide (0 < ps.length)) (idF ps (bst (spU ps m) ps.length)) (spU ps m (bst (spU ps m) ps.length))) := rfl
  have HV : Hid (areB ps = true → ∀ (k : Nat) (i r l o : Int) (n : ByteArray), ps[k]? = some ⟨i, n, r, l, o⟩ → (1 ≤ r ∧ r ≤ 1000) ∧ (10 ≤ l ∧ l ≤ 400)) := fun h k i r l o n hx => ⟨(are_at h hx).1, (are_at h hx).2.1⟩
  have HMX : Hid (areB ps = true → 0 ≤ m → m ≤ 400 → 0 < ps.length → ∀ W, Below w.heap.size w W → W.cell? ⟨w.heap.size, 0, none⟩ = some (.int .i64 m) → Calls Tryz.prog 55 #[v, .func (.func 56) #[] #[.pointer (some ⟨w.heap.size, 0, none⟩)]] W fun e w' => (∃ i n r l o, ps[bst (spU ps m) ps.length]? = some ⟨i, n, r, l, o⟩ ∧ e = .returned (fuV i n r l o)) ∧ Below W.heap.size W w') := by
    show _ → _
    intro hA m1 m2 hN W hW hc
    refine MaxFunc_any v ps 56 #[.pointer (some ⟨w.heap.size, 0, none⟩)] (spU ps m) W (hs.below hW) hN callFunc_fst1 ?_
    intro W' j k i n r l o i' n' r' l' o' hj hk hW'
    have h1 := are_at hA hj
    have h2 := are_at hA hk
    have := fst1_any i n r l o i' n' r' l' o' m w.heap.size W' (cell_below0 hc hW') h1.1 h1.2.1 h2.1 h2.2.1 m1 m2
    rw [spU_at hj, spU_at hk]
    simpa using this
  obtain ⟨A, c, rfl⟩ := hs.val
  generalize fastR ps m = R at *
  cases hA : areB ps with
  | false =>
    rw [hA] at HA HR
    have hR : R = triV false 0 0 := by rw [HR.out]; simp [triV]
    subst hR
    clear HR HV hs hm hA HMX
    go_enter Tryz.func24, Tryz.ntmps24
    go_wp2_with fail
    with_reducible refine HA.out.mono ?_
    rintro e w1 ⟨rfl, hb1⟩
    have hb1 := grow_trans hb0.out hb1
    go_wp2
    exact bodyPost_ret (v := .tuple #[.int .i64 0, .int .i64 0, .bool false]) (by simp [results, Tryz.results24, go_sem]) rfl ⟨rfl, hb1⟩
  | true =>
    cases hM : inB m 0 400 with
    | false =>
      rw [hA] at HA HR
      rw [hM] at HR
      have hR : R = triV false 0 0 := by rw [HR.out]; simp [triV]
      subst hR
      clear HR HV hs hm hA HMX
      go_enter Tryz.func24, Tryz.ntmps24
      go_wp2_with fail
      with_reducible refine HA.out.mono ?_
      rintro e w1 ⟨rfl, hb1⟩
      have hc1 := cell_below0 hc0.out hb1
      have hb1 := Lib.hid (grow_trans hb0.out hb1)
      go_wp2_with (go_at_call 48; refine (isMoisture_any _ _).mono ?_; rintro e w' ⟨rfl, rfl⟩; rw [hM])
      exact bodyPost_ret (v := .tuple #[.int .i64 0, .int .i64 0, .bool false]) (by simp [results, Tryz.results24, go_sem]) rfl ⟨rfl, hb1.out⟩
    | true =>
      obtain ⟨m1, m2⟩ := inB_iff.1 hM
      have HMX2 := Lib.hid (HMX.out hA m1 m2)
      have HV2 := Lib.hid (HV.out hA)
      rw [hA] at HA HR
      rw [hM] at HR
      have hmx := hs.len
      unfold maxLen at hmx
      clear HV hA hm HMX hs
      have HSP := Lib.hid fun k i r l o n => spU_at (ps := ps) (m := m) (k := k) (i := i) (r := r) (l := l) (o := o) (n := n)
      have HID := Lib.hid fun k i r l o n => idF_at (ps := ps) (k := k) (i := i) (r := r) (l := l) (o := o) (n := n)
      generalize hN : ps.length = N at *
      clear hN
      rcases Nat.eq_zero_or_pos N with rfl | hNp
      · have hR : R = triV false 0 0 := by rw [HR.out]; simp [triV]
        subst hR
        clear HR
        go_enter Tryz.func24, Tryz.ntmps24
        go_wp2_with fail
        with_reducible refine HA.out.mono ?_
        rintro e w1 ⟨rfl, hb1⟩
        have hc1 := cell_below0 hc0.out hb1
        have hb1 := Lib.hid (grow_trans hb0.out hb1)
        go_wp2_with (go_at_call 48; refine (isMoisture_any _ _).mono ?_; rintro e w' ⟨rfl, rfl⟩; rw [hM])
        exact bodyPost_ret (v := .tuple #[.int .i64 0, .int .i64 0, .bool false]) (by simp [results, Tryz.results24, go_sem]) rfl ⟨rfl, hb1.out⟩
      · have hR : R = .tuple #[.int .i64 (idF ps (bst (spU ps m) N)), .int .i64 (spU ps m (bst (spU ps m) N)), .bool true] := by rw [HR.out]; simp [triV, hNp]
        subst hR
        clear HR
        have hN0 : ¬ (N : Int) = 0 := by omega
        have hN0' : ((N : Int) == 0) = false := by simpa using hN0
        go_enter Tryz.func24, Tryz.ntmps24
        go_wp2_with fail
        with_reducible refine HA.out.mono ?_
        rintro e w1 ⟨rfl, hb1⟩
        have hc1 := cell_below0 hc0.out hb1
        have hb1 := Lib.hid (grow_trans hb0.out hb1)
        have HX := Lib.hid (HMX2.out hNp w1 hb1.out hc1)
        go_wp2_with (go_at_call 48; refine (isMoisture_any _ _).mono ?_; rintro e w' ⟨rfl, rfl⟩; rw [hM])
        with_reducible refine HX.out.mono ?_
        rintro e w2 ⟨⟨i, n, r, l, o, hx, rfl⟩, hb2⟩
        have hc2 := cell_below0 hc1 hb2
        have hb2 := Lib.hid (grow_trans hb1.out hb2)
        obtain ⟨⟨r1, r2⟩, l1, l2⟩ := HV2.out _ i r l o n hx
        have E1 := Lib.hid (HSP.out _ i r l o n hx)
        have E2 := Lib.hid (HID.out _ i r l o n hx)
        have HC := Lib.hid fun W => speed_any i n r l o m 0 W r1 r2 l1 l2 m1 m2 (by omega) (by omega)
        have hwb := hb2.out.size
        have hwc := World.block_lt_of_cell? w2 _ hc2
        simp at hwc
        have hwne : ¬ w.heap.size = w2.heap.size := by omega
        have hwne2 : w.heap.size < w2.heap.size + 1 := by omega
        have hbd : Hid (Below w.heap.size w (w2.alloc (.cells #[.int .i64 i, .string n, .int .i64 r, .int .i64 l, .int .i64 o] 25)).drew) := (hb2.out.alloc hb2.out.size _).drew
        have hcd : (w2.alloc (.cells #[.int .i64 i, .string n, .int .i64 r, .int .i64 l, .int .i64 o] 25)).cell? ⟨w.heap.size, 0, none⟩ = some (.int .i64 m) := cell_below0 hc2 (grow_alloc _ _)
        clear hx HX HMX2 HV2 HSP HID
        generalize speedN r l m 0 = sp at *
        have hq := fun n1 : Later (w2.alloc (.cells #[.int .i64 i, .string n, .int .i64 r, .int .i64 l, .int .i64 o] 25)) => n1.cell
        go_wp2_with fail
        refine wp_region_later (by kernel_rfl) (by kernel_rfl) ?_
        repeat (go_big_quiet_step ((first | (go_at_call 49; exact later_of (HC.out _)))))
        refine wpQuiet_nil ?_
        rintro _ ⟨wq, rfl⟩
        have hb3 : Below w.heap.size w wq.w := grow_trans (hb2.out.alloc hb2.out.size _) wq.h
        go_wp2
        exact bodyPost_ret (v := .tuple #[.int .i64 i, .int .i64 sp, .bool true]) (by simp [results, Tryz.results24, go_sem]) rfl ⟨by rw [E1.out, E2.out], hb3⟩
end Go.Proofs.YtnadeddkogapoaaGreatDoor
