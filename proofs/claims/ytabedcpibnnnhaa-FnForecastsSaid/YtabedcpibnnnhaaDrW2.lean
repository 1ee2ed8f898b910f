/- The arguments that FnForecasts draws. Conditions: as each states. -/
import Derived.Test.YtabedcpibnnnhaaDrW
namespace Go.Proofs.Ytabedcpibnnnhaa
open Go.ChangeShapes Go.WideShapes Go.ChangeAt Go.RowKit Go.Deep
set_option linter.unusedVariables false
set_option linter.unusedSimpArgs false
set_option maxRecDepth 100000

/-- A forecast in memory, behind a draw. -/
def IsFc (w' : World) (v : Value) (l : List Wx) : Prop := Sl w' 4 v l.length (wxs l) ∧ l.length ≤ 25
theorem fc_kept {w w1 w2 : World} {v : Value} {l : List Wx} {o : Obj} (h : Sl w1 4 v l.length (wxs l)) (ho : ∀ q, v.ownBlock = some q → (w.alloc o).heap.size ≤ q) (hg : w1.grownBy w2 (some w.heap.size)) : Sl w2 4 v l.length (wxs l) :=
  h.kept hg (.inr (fun e => by have := ho _ e; simp at this; omega))
set_option maxHeartbeats 16000000 in
theorem DrawIsForecast_any (V : Value) (zs : List Int) (w : World) (h1 : Sl w 1 V zs.length (octs zs)) (h2 : ∀ z ∈ zs, 0 ≤ z ∧ z ≤ 255) :
    Calls Try.prog 49 #[V] w fun e w' => ∃ v l, e = .returned (v) ∧ IsFc w' v l ∧ Below w.heap.size w w' := by
  obtain ⟨A, cc, rfl⟩ := h1.val
  have hC0 := Cur.new h1 h2
  have hF := Lib.hid (forecast_any _ _ _ hC0 (by omega))
  clear hC0
  go_enter Try.func49, Try.ntmps49
  go_wp2_with fail
  refine hF.out.mono ?_
  rintro e w1 ⟨v, l, rfl, hs, hl, ho, hc, hg⟩
  obtain ⟨AA, ca, rfl⟩ := hs.val
  replace hs := Lib.hid hs
  replace ho := Lib.hid ho
  replace hc := Lib.hid hc
  replace hg := Lib.hid hg
  clear hF
  have hs2 := Lib.hid (⟨hs.out, hl⟩ : IsFc _ _ l)
  have hZ := Lib.hid (fin_belowB hg.out)
  go_wp2
  exact bodyPost_ret (v := .slice AA l.length ca) (by simp [results, Try.results49, go_sem]) rfl ⟨_, l, rfl, hs2.out, hZ.out⟩
set_option maxHeartbeats 16000000 in
theorem DrawWorstDirection_any (V : Value) (zs : List Int) (w : World) (h1 : Sl w 1 V zs.length (octs zs)) (h2 : ∀ z ∈ zs, 0 ≤ z ∧ z ≤ 255) :
    Calls Try.prog 21 #[V] w fun e w' => ∃ v l, e = .returned (v) ∧ IsFc w' v l ∧ Below w.heap.size w w' := by
  have hF := Lib.hid (DrawIsForecast_any V zs w h1 h2)
  obtain ⟨A, cc, rfl⟩ := h1.val
  clear h1
  go_enter Try.func21, Try.ntmps21
  go_wp2_with fail
  refine hF.out.mono ?_
  rintro e w1 ⟨v, l, rfl, hs, hb⟩
  obtain ⟨AA, ca, rfl⟩ := hs.1.val
  replace hs := Lib.hid hs
  replace hb := Lib.hid hb
  clear hF
  go_wp2
  exact bodyPost_ret (v := .slice AA l.length ca) (by simp [results, Try.results21, go_sem]) rfl ⟨_, l, rfl, hs.out, hb.out⟩
set_option maxHeartbeats 16000000 in
theorem DrawMeanPush_any (V : Value) (zs : List Int) (w : World) (h1 : Sl w 1 V zs.length (octs zs)) (h2 : ∀ z ∈ zs, 0 ≤ z ∧ z ≤ 255) :
    Calls Try.prog 36 #[V] w fun e w' => ∃ v l to, e = .returned (.tuple #[v, .int .i64 to]) ∧ IsFc w' v l ∧ Below w.heap.size w w' := by
  obtain ⟨A, cc, rfl⟩ := h1.val
  have hC0 := Cur.new h1 h2
  have hF := Lib.hid (forecast_any _ _ _ hC0 (by omega))
  clear hC0
  go_enter Try.func36, Try.ntmps36
  go_wp2_with fail
  refine hF.out.mono ?_
  rintro e w1 ⟨v, l, rfl, hs, hl, ho, hc, hg⟩
  obtain ⟨AA, ca, rfl⟩ := hs.val
  replace hs := Lib.hid hs
  replace ho := Lib.hid ho
  replace hc := Lib.hid hc
  replace hg := Lib.hid hg
  clear hF
  have hM := Lib.hid (way_any _ _ _ hc.out (by omega))
  go_wp2_with fail
  refine hM.out.mono ?_
  rintro e w2 ⟨to, hto, rfl, hc', hg'⟩
  clear hM hto
  replace hs := Lib.hid (fc_kept hs.out ho.out hg')
  replace hg := Lib.hid (grownBy_trans hg.out hg')
  replace hc := Lib.hid hc'
  clear hc' hg'
  have hs2 := Lib.hid (⟨hs.out, hl⟩ : IsFc _ _ l)
  have hZ := Lib.hid (fin_belowB hg.out)
  go_wp2
  exact bodyPost_ret (v := .tuple #[.slice AA l.length ca, .int .i64 to]) (by simp [results, Try.results36, go_sem]) rfl ⟨_, l, to, rfl, hs2.out, hZ.out⟩
set_option maxHeartbeats 16000000 in
theorem DrawWindShifts_any (V : Value) (zs : List Int) (w : World) (h1 : Sl w 1 V zs.length (octs zs)) (h2 : ∀ z ∈ zs, 0 ≤ z ∧ z ≤ 255) :
    Calls Try.prog 32 #[V] w fun e w' => ∃ v l t, e = .returned (.tuple #[v, .int .i64 t]) ∧ IsFc w' v l ∧ Below w.heap.size w w' := by
  obtain ⟨A, cc, rfl⟩ := h1.val
  have hC0 := Cur.new h1 h2
  have hF := Lib.hid (forecast_any _ _ _ hC0 (by omega))
  clear hC0
  go_enter Try.func32, Try.ntmps32
  go_wp2_with fail
  refine hF.out.mono ?_
  rintro e w1 ⟨v, l, rfl, hs, hl, ho, hc, hg⟩
  obtain ⟨AA, ca, rfl⟩ := hs.val
  replace hs := Lib.hid hs
  replace ho := Lib.hid ho
  replace hc := Lib.hid hc
  replace hg := Lib.hid hg
  clear hF
  have hne : w1.heap.size ≠ w.heap.size := by have := hc.out.lt; omega
  have hb := grow_alloc w1 (.cells (([1, 2, 3, 4, 0, 5] : List Int).map (Value.int .i64)).toArray 3)
  have HP := pick_any _ _ 24 _ (hc.out.below hb) (by omega) (by omega)
  have HS := among_held w1 w.heap.size 6 [1, 2, 3, 4, 0, 5] rfl (by omega) hne
  simp only [List.map_cons, List.map_nil] at HP HS hb
  replace HP := Lib.hid HP
  replace HS := Lib.hid HS
  have HB := Lib.hid hb
  have hwn := Lib.hid hne
  clear hb hne hc
  go_wp2_with fail
  refine HP.out.mono ?_
  rintro e w1a ⟨vx, rfl, ⟨xt, rfl, x0, x1⟩, hc', hg'⟩
  have hlit : Hid (Sl w1a 1 (.slice (some ⟨w1.heap.size, 0, none⟩) 6 6) 6 (([1, 2, 3, 4, 0, 5] : List Int).map (Value.int .i64))) := HS.out w1a hg'
  have hgq := grownBy_trans (grownBy_of_below (r := some w.heap.size) HB.out) hg'
  replace hs := Lib.hid (fc_kept hs.out ho.out hgq)
  replace hg := Lib.hid (grownBy_trans hg.out hgq)
  have hc := Lib.hid hc'
  clear HP HS HB hgq hc' hg'
  rcases (show xt / 11 = 0 ∨ xt / 11 = 1 ∨ xt / 11 = 2 by omega) with hx | hx | hx
  · skip
    have HA := Lib.hid (among_cut _ _ _ 4 6 [1, 2, 3, 4, 0, 5] _ rfl hc.out (by omega) hlit.out hwn.out (by omega) (by omega))
    go_wp2_with fail
    with_reducible refine HA.out.mono ?_
    rintro e w1b ⟨t, ht, rfl, hc', hg'⟩
    clear HA ht hlit hwn hx
    replace hs := Lib.hid (fc_kept hs.out ho.out hg')
    replace hg := Lib.hid (grownBy_trans hg.out hg')
    replace hc := Lib.hid hc'
    clear hc' hg'
    have hs2 := Lib.hid (⟨hs.out, hl⟩ : IsFc _ _ l)
    have hZ := Lib.hid (fin_belowB hg.out)
    go_wp2
    exact bodyPost_ret (v := .tuple #[.slice AA l.length ca, .int .i64 t]) (by simp [results, Try.results32, go_sem]) rfl ⟨_, l, t, rfl, hs2.out, hZ.out⟩
  · skip
    have HA := Lib.hid (among_cut _ _ _ 5 6 [1, 2, 3, 4, 0, 5] _ rfl hc.out (by omega) hlit.out hwn.out (by omega) (by omega))
    go_wp2_with fail
    with_reducible refine HA.out.mono ?_
    rintro e w1b ⟨t, ht, rfl, hc', hg'⟩
    clear HA ht hlit hwn hx
    replace hs := Lib.hid (fc_kept hs.out ho.out hg')
    replace hg := Lib.hid (grownBy_trans hg.out hg')
    replace hc := Lib.hid hc'
    clear hc' hg'
    have hs2 := Lib.hid (⟨hs.out, hl⟩ : IsFc _ _ l)
    have hZ := Lib.hid (fin_belowB hg.out)
    go_wp2
    exact bodyPost_ret (v := .tuple #[.slice AA l.length ca, .int .i64 t]) (by simp [results, Try.results32, go_sem]) rfl ⟨_, l, t, rfl, hs2.out, hZ.out⟩
  · skip
    have HA := Lib.hid (among_cut _ _ _ 6 6 [1, 2, 3, 4, 0, 5] _ rfl hc.out (by omega) hlit.out hwn.out (by omega) (by omega))
    go_wp2_with fail
    with_reducible refine HA.out.mono ?_
    rintro e w1b ⟨t, ht, rfl, hc', hg'⟩
    clear HA ht hlit hwn hx
    replace hs := Lib.hid (fc_kept hs.out ho.out hg')
    replace hg := Lib.hid (grownBy_trans hg.out hg')
    replace hc := Lib.hid hc'
    clear hc' hg'
    have hs2 := Lib.hid (⟨hs.out, hl⟩ : IsFc _ _ l)
    have hZ := Lib.hid (fin_belowB hg.out)
    go_wp2
    exact bodyPost_ret (v := .tuple #[.slice AA l.length ca, .int .i64 t]) (by simp [results, Try.results32, go_sem]) rfl ⟨_, l, t, rfl, hs2.out, hZ.out⟩
set_option maxHeartbeats 16000000 in
theorem DrawRedFlagHours_any (V : Value) (zs : List Int) (w : World) (h1 : Sl w 1 V zs.length (octs zs)) (h2 : ∀ z ∈ zs, 0 ≤ z ∧ z ≤ 255) :
    Calls Try.prog 28 #[V] w fun e w' => ∃ v l sp hu, e = .returned (.tuple #[v, .int .i64 sp, .int .i64 hu]) ∧ IsFc w' v l ∧ Below w.heap.size w w' := by
  obtain ⟨A, cc, rfl⟩ := h1.val
  have hC0 := Cur.new h1 h2
  have hF := Lib.hid (forecast_any _ _ _ hC0 (by omega))
  clear hC0
  go_enter Try.func28, Try.ntmps28
  go_wp2_with fail
  refine hF.out.mono ?_
  rintro e w1 ⟨v, l, rfl, hs, hl, ho, hc, hg⟩
  obtain ⟨AA, ca, rfl⟩ := hs.val
  replace hs := Lib.hid hs
  replace ho := Lib.hid ho
  replace hc := Lib.hid hc
  replace hg := Lib.hid hg
  clear hF
  have hne : w1.heap.size ≠ w.heap.size := by have := hc.out.lt; omega
  have hb := grow_alloc w1 (.cells (([0, 10, 25, 120, -1, 121] : List Int).map (Value.int .i64)).toArray 3)
  have HP := pick_any _ _ 24 _ (hc.out.below hb) (by omega) (by omega)
  have HS := among_held w1 w.heap.size 6 [0, 10, 25, 120, -1, 121] rfl (by omega) hne
  simp only [List.map_cons, List.map_nil] at HP HS hb
  replace HP := Lib.hid HP
  replace HS := Lib.hid HS
  have HB := Lib.hid hb
  have hwn := Lib.hid hne
  clear hb hne hc
  go_wp2_with fail
  refine HP.out.mono ?_
  rintro e w1a ⟨vx, rfl, ⟨xsp, rfl, x0, x1⟩, hc', hg'⟩
  have hlit : Hid (Sl w1a 1 (.slice (some ⟨w1.heap.size, 0, none⟩) 6 6) 6 (([0, 10, 25, 120, -1, 121] : List Int).map (Value.int .i64))) := HS.out w1a hg'
  have hgq := grownBy_trans (grownBy_of_below (r := some w.heap.size) HB.out) hg'
  replace hs := Lib.hid (fc_kept hs.out ho.out hgq)
  replace hg := Lib.hid (grownBy_trans hg.out hgq)
  have hc := Lib.hid hc'
  clear HP HS HB hgq hc' hg'
  rcases (show xsp / 11 = 0 ∨ xsp / 11 = 1 ∨ xsp / 11 = 2 by omega) with hx | hx | hx
  · skip
    have HA := Lib.hid (among_cut _ _ _ 4 6 [0, 10, 25, 120, -1, 121] _ rfl hc.out (by omega) hlit.out hwn.out (by omega) (by omega))
    go_wp2_with fail
    with_reducible refine HA.out.mono ?_
    rintro e w1b ⟨sp, hsp, rfl, hc', hg'⟩
    clear HA hsp hlit hwn hx
    replace hs := Lib.hid (fc_kept hs.out ho.out hg')
    replace hg := Lib.hid (grownBy_trans hg.out hg')
    replace hc := Lib.hid hc'
    clear hc' hg'
    have hne : w1b.heap.size ≠ w.heap.size := by have := hc.out.lt; omega
    have hb := grow_alloc w1b (.cells (([0, 25, 60, 100, -1, 101] : List Int).map (Value.int .i64)).toArray 3)
    have HP := pick_any _ _ 24 _ (hc.out.below hb) (by omega) (by omega)
    have HS := among_held w1b w.heap.size 6 [0, 25, 60, 100, -1, 101] rfl (by omega) hne
    simp only [List.map_cons, List.map_nil] at HP HS hb
    replace HP := Lib.hid HP
    replace HS := Lib.hid HS
    have HB := Lib.hid hb
    have hwn := Lib.hid hne
    clear hb hne hc
    go_wp2_with fail
    refine HP.out.mono ?_
    rintro e w1ba ⟨vx, rfl, ⟨xhu, rfl, x0, x1⟩, hc', hg'⟩
    have hlit : Hid (Sl w1ba 1 (.slice (some ⟨w1b.heap.size, 0, none⟩) 6 6) 6 (([0, 25, 60, 100, -1, 101] : List Int).map (Value.int .i64))) := HS.out w1ba hg'
    have hgq := grownBy_trans (grownBy_of_below (r := some w.heap.size) HB.out) hg'
    replace hs := Lib.hid (fc_kept hs.out ho.out hgq)
    replace hg := Lib.hid (grownBy_trans hg.out hgq)
    have hc := Lib.hid hc'
    clear HP HS HB hgq hc' hg'
    rcases (show xhu / 11 = 0 ∨ xhu / 11 = 1 ∨ xhu / 11 = 2 by omega) with hx | hx | hx
    · skip
      have HA := Lib.hid (among_cut _ _ _ 4 6 [0, 25, 60, 100, -1, 101] _ rfl hc.out (by omega) hlit.out hwn.out (by omega) (by omega))
      go_wp2_with fail
      with_reducible refine HA.out.mono ?_
      rintro e w1bb ⟨hu, hhu, rfl, hc', hg'⟩
      clear HA hhu hlit hwn hx
      replace hs := Lib.hid (fc_kept hs.out ho.out hg')
      replace hg := Lib.hid (grownBy_trans hg.out hg')
      replace hc := Lib.hid hc'
      clear hc' hg'
      have hs2 := Lib.hid (⟨hs.out, hl⟩ : IsFc _ _ l)
      have hZ := Lib.hid (fin_belowB hg.out)
      go_wp2
      exact bodyPost_ret (v := .tuple #[.slice AA l.length ca, .int .i64 sp, .int .i64 hu]) (by simp [results, Try.results28, go_sem]) rfl ⟨_, l, sp, hu, rfl, hs2.out, hZ.out⟩
    · skip
      have HA := Lib.hid (among_cut _ _ _ 5 6 [0, 25, 60, 100, -1, 101] _ rfl hc.out (by omega) hlit.out hwn.out (by omega) (by omega))
      go_wp2_with fail
      with_reducible refine HA.out.mono ?_
      rintro e w1bb ⟨hu, hhu, rfl, hc', hg'⟩
      clear HA hhu hlit hwn hx
      replace hs := Lib.hid (fc_kept hs.out ho.out hg')
      replace hg := Lib.hid (grownBy_trans hg.out hg')
      replace hc := Lib.hid hc'
      clear hc' hg'
      have hs2 := Lib.hid (⟨hs.out, hl⟩ : IsFc _ _ l)
      have hZ := Lib.hid (fin_belowB hg.out)
      go_wp2
      exact bodyPost_ret (v := .tuple #[.slice AA l.length ca, .int .i64 sp, .int .i64 hu]) (by simp [results, Try.results28, go_sem]) rfl ⟨_, l, sp, hu, rfl, hs2.out, hZ.out⟩
    · skip
      have HA := Lib.hid (among_cut _ _ _ 6 6 [0, 25, 60, 100, -1, 101] _ rfl hc.out (by omega) hlit.out hwn.out (by omega) (by omega))
      go_wp2_with fail
      with_reducible refine HA.out.mono ?_
      rintro e w1bb ⟨hu, hhu, rfl, hc', hg'⟩
      clear HA hhu hlit hwn hx
      replace hs := Lib.hid (fc_kept hs.out ho.out hg')
      replace hg := Lib.hid (grownBy_trans hg.out hg')
      replace hc := Lib.hid hc'
      clear hc' hg'
      have hs2 := Lib.hid (⟨hs.out, hl⟩ : IsFc _ _ l)
      have hZ := Lib.hid (fin_belowB hg.out)
      go_wp2
      exact bodyPost_ret (v := .tuple #[.slice AA l.length ca, .int .i64 sp, .int .i64 hu]) (by simp [results, Try.results28, go_sem]) rfl ⟨_, l, sp, hu, rfl, hs2.out, hZ.out⟩
  · skip
    have HA := Lib.hid (among_cut _ _ _ 5 6 [0, 10, 25, 120, -1, 121] _ rfl hc.out (by omega) hlit.out hwn.out (by omega) (by omega))
    go_wp2_with fail
    with_reducible refine HA.out.mono ?_
    rintro e w1b ⟨sp, hsp, rfl, hc', hg'⟩
    clear HA hsp hlit hwn hx
    replace hs := Lib.hid (fc_kept hs.out ho.out hg')
    replace hg := Lib.hid (grownBy_trans hg.out hg')
    replace hc := Lib.hid hc'
    clear hc' hg'
    have hne : w1b.heap.size ≠ w.heap.size := by have := hc.out.lt; omega
    have hb := grow_alloc w1b (.cells (([0, 25, 60, 100, -1, 101] : List Int).map (Value.int .i64)).toArray 3)
    have HP := pick_any _ _ 24 _ (hc.out.below hb) (by omega) (by omega)
    have HS := among_held w1b w.heap.size 6 [0, 25, 60, 100, -1, 101] rfl (by omega) hne
    simp only [List.map_cons, List.map_nil] at HP HS hb
    replace HP := Lib.hid HP
    replace HS := Lib.hid HS
    have HB := Lib.hid hb
    have hwn := Lib.hid hne
    clear hb hne hc
    go_wp2_with fail
    refine HP.out.mono ?_
    rintro e w1ba ⟨vx, rfl, ⟨xhu, rfl, x0, x1⟩, hc', hg'⟩
    have hlit : Hid (Sl w1ba 1 (.slice (some ⟨w1b.heap.size, 0, none⟩) 6 6) 6 (([0, 25, 60, 100, -1, 101] : List Int).map (Value.int .i64))) := HS.out w1ba hg'
    have hgq := grownBy_trans (grownBy_of_below (r := some w.heap.size) HB.out) hg'
    replace hs := Lib.hid (fc_kept hs.out ho.out hgq)
    replace hg := Lib.hid (grownBy_trans hg.out hgq)
    have hc := Lib.hid hc'
    clear HP HS HB hgq hc' hg'
    rcases (show xhu / 11 = 0 ∨ xhu / 11 = 1 ∨ xhu / 11 = 2 by omega) with hx | hx | hx
    · skip
      have HA := Lib.hid (among_cut _ _ _ 4 6 [0, 25, 60, 100, -1, 101] _ rfl hc.out (by omega) hlit.out hwn.out (by omega) (by omega))
      go_wp2_with fail
      with_reducible refine HA.out.mono ?_
      rintro e w1bb ⟨hu, hhu, rfl, hc', hg'⟩
      clear HA hhu hlit hwn hx
      replace hs := Lib.hid (fc_kept hs.out ho.out hg')
      replace hg := Lib.hid (grownBy_trans hg.out hg')
      replace hc := Lib.hid hc'
      clear hc' hg'
      have hs2 := Lib.hid (⟨hs.out, hl⟩ : IsFc _ _ l)
      have hZ := Lib.hid (fin_belowB hg.out)
      go_wp2
      exact bodyPost_ret (v := .tuple #[.slice AA l.length ca, .int .i64 sp, .int .i64 hu]) (by simp [results, Try.results28, go_sem]) rfl ⟨_, l, sp, hu, rfl, hs2.out, hZ.out⟩
    · skip
      have HA := Lib.hid (among_cut _ _ _ 5 6 [0, 25, 60, 100, -1, 101] _ rfl hc.out (by omega) hlit.out hwn.out (by omega) (by omega))
      go_wp2_with fail
      with_reducible refine HA.out.mono ?_
      rintro e w1bb ⟨hu, hhu, rfl, hc', hg'⟩
      clear HA hhu hlit hwn hx
      replace hs := Lib.hid (fc_kept hs.out ho.out hg')
      replace hg := Lib.hid (grownBy_trans hg.out hg')
      replace hc := Lib.hid hc'
      clear hc' hg'
      have hs2 := Lib.hid (⟨hs.out, hl⟩ : IsFc _ _ l)
      have hZ := Lib.hid (fin_belowB hg.out)
      go_wp2
      exact bodyPost_ret (v := .tuple #[.slice AA l.length ca, .int .i64 sp, .int .i64 hu]) (by simp [results, Try.results28, go_sem]) rfl ⟨_, l, sp, hu, rfl, hs2.out, hZ.out⟩
    · skip
      have HA := Lib.hid (among_cut _ _ _ 6 6 [0, 25, 60, 100, -1, 101] _ rfl hc.out (by omega) hlit.out hwn.out (by omega) (by omega))
      go_wp2_with fail
      with_reducible refine HA.out.mono ?_
      rintro e w1bb ⟨hu, hhu, rfl, hc', hg'⟩
      clear HA hhu hlit hwn hx
      replace hs := Lib.hid (fc_kept hs.out ho.out hg')
      replace hg := Lib.hid (grownBy_trans hg.out hg')
      replace hc := Lib.hid hc'
      clear hc' hg'
      have hs2 := Lib.hid (⟨hs.out, hl⟩ : IsFc _ _ l)
      have hZ := Lib.hid (fin_belowB hg.out)
      go_wp2
      exact bodyPost_ret (v := .tuple #[.slice AA l.length ca, .int .i64 sp, .int .i64 hu]) (by simp [results, Try.results28, go_sem]) rfl ⟨_, l, sp, hu, rfl, hs2.out, hZ.out⟩
  · skip
    have HA := Lib.hid (among_cut _ _ _ 6 6 [0, 10, 25, 120, -1, 121] _ rfl hc.out (by omega) hlit.out hwn.out (by omega) (by omega))
    go_wp2_with fail
    with_reducible refine HA.out.mono ?_
    rintro e w1b ⟨sp, hsp, rfl, hc', hg'⟩
    clear HA hsp hlit hwn hx
    replace hs := Lib.hid (fc_kept hs.out ho.out hg')
    replace hg := Lib.hid (grownBy_trans hg.out hg')
    replace hc := Lib.hid hc'
    clear hc' hg'
    have hne : w1b.heap.size ≠ w.heap.size := by have := hc.out.lt; omega
    have hb := grow_alloc w1b (.cells (([0, 25, 60, 100, -1, 101] : List Int).map (Value.int .i64)).toArray 3)
    have HP := pick_any _ _ 24 _ (hc.out.below hb) (by omega) (by omega)
    have HS := among_held w1b w.heap.size 6 [0, 25, 60, 100, -1, 101] rfl (by omega) hne
    simp only [List.map_cons, List.map_nil] at HP HS hb
    replace HP := Lib.hid HP
    replace HS := Lib.hid HS
    have HB := Lib.hid hb
    have hwn := Lib.hid hne
    clear hb hne hc
    go_wp2_with fail
    refine HP.out.mono ?_
    rintro e w1ba ⟨vx, rfl, ⟨xhu, rfl, x0, x1⟩, hc', hg'⟩
    have hlit : Hid (Sl w1ba 1 (.slice (some ⟨w1b.heap.size, 0, none⟩) 6 6) 6 (([0, 25, 60, 100, -1, 101] : List Int).map (Value.int .i64))) := HS.out w1ba hg'
    have hgq := grownBy_trans (grownBy_of_below (r := some w.heap.size) HB.out) hg'
    replace hs := Lib.hid (fc_kept hs.out ho.out hgq)
    replace hg := Lib.hid (grownBy_trans hg.out hgq)
    have hc := Lib.hid hc'
    clear HP HS HB hgq hc' hg'
    rcases (show xhu / 11 = 0 ∨ xhu / 11 = 1 ∨ xhu / 11 = 2 by omega) with hx | hx | hx
    · skip
      have HA := Lib.hid (among_cut _ _ _ 4 6 [0, 25, 60, 100, -1, 101] _ rfl hc.out (by omega) hlit.out hwn.out (by omega) (by omega))
      go_wp2_with fail
      with_reducible refine HA.out.mono ?_
      rintro e w1bb ⟨hu, hhu, rfl, hc', hg'⟩
      clear HA hhu hlit hwn hx
      replace hs := Lib.hid (fc_kept hs.out ho.out hg')
      replace hg := Lib.hid (grownBy_trans hg.out hg')
      replace hc := Lib.hid hc'
      clear hc' hg'
      have hs2 := Lib.hid (⟨hs.out, hl⟩ : IsFc _ _ l)
      have hZ := Lib.hid (fin_belowB hg.out)
      go_wp2
      exact bodyPost_ret (v := .tuple #[.slice AA l.length ca, .int .i64 sp, .int .i64 hu]) (by simp [results, Try.results28, go_sem]) rfl ⟨_, l, sp, hu, rfl, hs2.out, hZ.out⟩
    · skip
      have HA := Lib.hid (among_cut _ _ _ 5 6 [0, 25, 60, 100, -1, 101] _ rfl hc.out (by omega) hlit.out hwn.out (by omega) (by omega))
      go_wp2_with fail
      with_reducible refine HA.out.mono ?_
      rintro e w1bb ⟨hu, hhu, rfl, hc', hg'⟩
      clear HA hhu hlit hwn hx
      replace hs := Lib.hid (fc_kept hs.out ho.out hg')
      replace hg := Lib.hid (grownBy_trans hg.out hg')
      replace hc := Lib.hid hc'
      clear hc' hg'
      have hs2 := Lib.hid (⟨hs.out, hl⟩ : IsFc _ _ l)
      have hZ := Lib.hid (fin_belowB hg.out)
      go_wp2
      exact bodyPost_ret (v := .tuple #[.slice AA l.length ca, .int .i64 sp, .int .i64 hu]) (by simp [results, Try.results28, go_sem]) rfl ⟨_, l, sp, hu, rfl, hs2.out, hZ.out⟩
    · skip
      have HA := Lib.hid (among_cut _ _ _ 6 6 [0, 25, 60, 100, -1, 101] _ rfl hc.out (by omega) hlit.out hwn.out (by omega) (by omega))
      go_wp2_with fail
      with_reducible refine HA.out.mono ?_
      rintro e w1bb ⟨hu, hhu, rfl, hc', hg'⟩
      clear HA hhu hlit hwn hx
      replace hs := Lib.hid (fc_kept hs.out ho.out hg')
      replace hg := Lib.hid (grownBy_trans hg.out hg')
      replace hc := Lib.hid hc'
      clear hc' hg'
      have hs2 := Lib.hid (⟨hs.out, hl⟩ : IsFc _ _ l)
      have hZ := Lib.hid (fin_belowB hg.out)
      go_wp2
      exact bodyPost_ret (v := .tuple #[.slice AA l.length ca, .int .i64 sp, .int .i64 hu]) (by simp [results, Try.results28, go_sem]) rfl ⟨_, l, sp, hu, rfl, hs2.out, hZ.out⟩
end Go.Proofs.Ytabedcpibnnnhaa
