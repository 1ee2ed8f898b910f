/- Copies of forecasts; their validity in the program and in the reference. Conditions: as each states. -/
import Derived.Test.YtefampjmbjbhcaaWeath
namespace Go.Proofs.Ytefampjmbjbhcaa
open Go.ChangeShapes Go.WideShapes Go.ChangeAt Go.RowKit
set_option linter.unusedVariables false
set_option linter.unusedSimpArgs false
set_option maxRecDepth 100000

set_option maxHeartbeats 4000000 in
theorem toWeatherS_any (v : Value) (ps : List Wx) (w : World) (hs : Sl w 4 v ps.length (wxs ps)) (hn : ps.length ≤ 1048576) :
    Calls Try.prog 33 #[v] w (RetOwn w 88 4 ps.length (wxs ps)) := by
  obtain ⟨A, c, rfl⟩ := hs.val
  obtain ⟨i0, hi0, hz0, hz1, hz2⟩ := info_parts info_weather
  have hfl := flat_length encW_length ps
  generalize hN : ps.length = N at hs hn hfl ⊢
  have HN := Lib.hid hN
  have Hfl := Lib.hid hfl
  clear hN hfl
  have hby : i0.bytes * N ≤ 281474976710656 := by rw [hz2]; omega
  have hmx : N ≤ maxLen := by unfold maxLen; omega
  go_enter Try.func33, Try.ntmps33
  go_wp2_with (at_make; refine wpList_make_full _ rfl _ _ 52 rfl w.heap.size 88 i0 (wxV 0 0 0 0) 4 Try.underlying52 hi0 hz0 hz1 _ _ _ _ N rfl rfl rfl rfl hby hmx (Nat.le_refl _) ?_)
  intro w1 hown hgrow
  have hb1 : Below w.heap.size w w1 := (Below.refl _ _).grown hgrow (Nat.le_refl _) (by simp)
  go_wp2
  go_loopw [4] (fun i wr => ∃ k : Nat, k ≤ N ∧ i = .int .i64 k ∧ Hid (Below w.heap.size w wr) ∧ Hid (∃ cs, wr.ownsRow w.heap.size 88 4 (.slice (some ⟨w.heap.size, 0, none⟩) N N) N cs ∧ ∀ j, j < k * 4 → cs[j]? = (wxs ps)[j]?)) (fun i _ => N - (intOf i).toNat)
  case atStart => exact ⟨0, Nat.zero_le _, rfl, hb1, _, hown, fun j hj => by omega⟩
  case round =>
    obtain ⟨k, hk, rfl, hb, hcs⟩ := hrel
    by_cases hlt : k < N
    · obtain ⟨b, off, f, s, g, r, rfl, hx, hc0, hc1, hc2, hc3⟩ := (hs.below hb.out).wx HN.out hlt
      obtain ⟨cs, ho, hp⟩ := hcs.out
      have hl := ho.1
      have Hx := Lib.hid hx
      have Hp := Lib.hid hp
      have Ho := Lib.hid ho
      clear hx hp hl hcs ho
      go_wp2_with fail
      with_reducible refine (toWeather_any _ _ _ _ _).mono ?_
      rintro e w2 ⟨rfl, hb2⟩
      have o2 := own_below Ho.out hb2
      have hl := o2.1
      obtain ⟨u0, hu0⟩ : ∃ u, cs[k * 4]? = some u := ⟨_, List.getElem?_eq_getElem (by omega)⟩
      obtain ⟨u1, hu1⟩ : ∃ u, cs[k * 4 + 1]? = some u := ⟨_, List.getElem?_eq_getElem (by omega)⟩
      obtain ⟨u2, hu2⟩ : ∃ u, cs[k * 4 + 2]? = some u := ⟨_, List.getElem?_eq_getElem (by omega)⟩
      obtain ⟨u3, hu3⟩ : ∃ u, cs[k * 4 + 3]? = some u := ⟨_, List.getElem?_eq_getElem (by omega)⟩
      have d0 := o2.cellAt (k * 4) (by omega)
      have d1 := o2.cellAt (k * 4 + 1) (by omega)
      have d2 := o2.cellAt (k * 4 + 2) (by omega)
      have d3 := o2.cellAt (k * 4 + 3) (by omega)
      rw [hu0] at d0
      rw [hu1] at d1
      rw [hu2] at d2
      rw [hu3] at d3
      have f0 := o2.frozenAt (k * 4)
      have f1 := o2.frozenAt (k * 4 + 1)
      have f2 := o2.frozenAt (k * 4 + 2)
      have f3 := o2.frozenAt (k * 4 + 3)
      have O2 := Lib.hid o2
      have Hl := Lib.hid hl
      clear hu0 hu1 hu2 hu3 o2 hl
      go_wp2
      go_roundw
      case rel =>
        refine ⟨k + 1, by omega, by go_num, ((((grow_trans hb.out hb2).setCell (Nat.le_refl _) _).setCell (Nat.le_refl _) _).setCell (Nat.le_refl _) _).setCell (Nat.le_refl _) _, (((cs.set (k * 4) (.int .i64 f)).set (k * 4 + 1) (.int .i64 s)).set (k * 4 + 2) (.int .i64 g)).set (k * 4 + 3) (.int .i64 r), ((((O2.out.stored (k * 4) _).1.stored (k * 4 + 1) _).1.stored (k * 4 + 2) _).1.stored (k * 4 + 3) _).1, ?_⟩
        have hk2 : (k + 1) * 4 = k * 4 + 1 + 1 + 1 + 1 := by omega
        rw [hk2]
        have e0 : (wxs ps)[k * 4]? = some (.int .i64 f) := flat_at encW_length Hx.out 0 _ rfl
        have e1 : (wxs ps)[k * 4 + 1]? = some (.int .i64 s) := flat_at encW_length Hx.out 1 _ rfl
        have e2 : (wxs ps)[k * 4 + 2]? = some (.int .i64 g) := flat_at encW_length Hx.out 2 _ rfl
        have e3 : (wxs ps)[k * 4 + 3]? = some (.int .i64 r) := flat_at encW_length Hx.out 3 _ rfl
        have := Hl.out
        exact prefix_set (prefix_set (prefix_set (prefix_set Hp.out (by omega) e0) (by simp; omega) e1) (by simp; omega) e2) (by simp; omega) e3
      case measure => simp [intOf]; omega
    · obtain ⟨cs, ho, hp⟩ := hcs.out
      have hcs' : cs = wxs ps := prefix_all (n := N * 4) (fun j hj => hp j (by omega)) (by have := ho.1; omega) Hfl.out
      subst hcs'
      have Ho := Lib.hid ho
      clear ho hp hcs
      go_wp2
      go_ret
      exact ⟨_, rfl, Ho.out, hb.out⟩
theorem all_no {ps : List Wx} {k : Nat} {x : Wx} (hx : ps[k]? = some x) (h : wxB x = false) : foreB ps = false := by
  unfold foreB
  rw [Bool.and_eq_false_iff]
  right
  rw [List.all_eq_false]
  exact ⟨x, List.mem_of_getElem? hx, by simp [h]⟩
theorem all_yes {ps : List Wx} (h : ∀ (j : Nat) (x : Wx), ps[j]? = some x → wxB x = true) : foreB ps = inB ps.length 1 24 := by
  have : ps.all wxB = true := by
    rw [List.all_eq_true]
    intro x hx
    obtain ⟨j, hj, rfl⟩ := List.mem_iff_getElem.1 hx
    exact h j _ (List.getElem?_eq_getElem hj)
  unfold foreB
  rw [this, Bool.and_true]
set_option maxHeartbeats 4000000 in
theorem l5Good_any (v : Value) (ps : List Wx) (w : World) (hs : Sl w 4 v ps.length (wxs ps)) :
    Calls Try.prog 99 #[v] w fun e w' => e = .returned (.bool (foreB ps)) ∧ Below w.heap.size w w' := by
  have hmx := hs.len
  unfold maxLen at hmx
  obtain ⟨A, c, rfl⟩ := hs.val
  generalize hN : ps.length = N at hs hmx
  have HN := Lib.hid hN
  have Hs := Lib.hid hs
  clear hN hs
  go_enter Try.func99, Try.ntmps99
  go_wp2
  go_loopw [3] (fun i wr => ∃ k : Nat, k ≤ N ∧ i = .int .i64 k ∧ Hid (Below w.heap.size w wr) ∧ Hid (∀ j x, j < k → ps[j]? = some x → wxB x = true)) (fun i _ => N - (intOf i).toNat)
  case atStart => exact ⟨0, Nat.zero_le _, rfl, Below.refl _ _, fun j x hj => by omega⟩
  case round =>
    obtain ⟨k, hk, rfl, hb, hn⟩ := hrel
    by_cases hlt : k < N
    · obtain ⟨b, off, f, s, g, r, rfl, hx, c0, c1, c2, c3⟩ := (Hs.out.below hb.out).wx HN.out hlt
      have Hx := Lib.hid hx
      clear hx
      cases q1 : windB f s
      · have Hr : Hid (foreB ps = false) := all_no Hx.out (by simp [wxB, q1])
        go_wp2_with fail
        with_reducible refine (l5Wind_any _ _ _).mono ?_
        rintro e w1 ⟨rfl, hb1⟩
        rw [q1]
        go_wp2
        go_ret
        exact ⟨by rw [Hr.out]; rfl, (grow_trans hb.out (grow_alloc _ _)).trans (hb1.mono (by have := hb.out.size; simp; omega))⟩
      · cases q2 : inB g s 200
        · have Hr : Hid (foreB ps = false) := all_no Hx.out (by simp [wxB, q2])
          go_wp2_with fail
          with_reducible refine (l5Wind_any _ _ _).mono ?_
          rintro e w1 ⟨rfl, hb1⟩
          rw [q1]
          have hc := (bcell hb1).1
          go_wp2_with (go_at_call 98; refine (l1In_any _ _ _ _).mono ?_; rintro e w' ⟨rfl, rfl⟩; rw [q2])
          go_ret
          exact ⟨by rw [Hr.out]; rfl, (grow_trans hb.out (grow_alloc _ _)).trans (hb1.mono (by have := hb.out.size; simp; omega))⟩
        · cases q3 : inB r 0 100
          · have Hr : Hid (foreB ps = false) := all_no Hx.out (by simp [wxB, q3])
            go_wp2_with fail
            with_reducible refine (l5Wind_any _ _ _).mono ?_
            rintro e w1 ⟨rfl, hb1⟩
            rw [q1]
            have hc := (bcell hb1).1
            go_wp2_with (go_at_call 98; refine (l1In_any _ _ _ _).mono ?_; rintro e w' ⟨rfl, rfl⟩; first | rw [q2] | rw [q3])
            go_ret
            exact ⟨by rw [Hr.out]; rfl, (grow_trans hb.out (grow_alloc _ _)).trans (hb1.mono (by have := hb.out.size; simp; omega))⟩
          · have Hq : Hid (wxB ⟨f, s, g, r⟩ = true) := by show _ = _; simp [wxB, q1, q2, q3]
            go_wp2_with fail
            with_reducible refine (l5Wind_any _ _ _).mono ?_
            rintro e w1 ⟨rfl, hb1⟩
            rw [q1]
            have hc := (bcell hb1).1
            go_wp2_with (go_at_call 98; refine (l1In_any _ _ _ _).mono ?_; rintro e w' ⟨rfl, rfl⟩; first | rw [q2] | rw [q3])
            go_roundw
            case rel =>
              refine ⟨k + 1, by omega, by go_num, (grow_trans hb.out (grow_alloc _ _)).trans (hb1.mono (by have := hb.out.size; simp; omega)), fun j x hj hy => ?_⟩
              by_cases e : j = k
              · subst e
                rw [Hx.out] at hy
                cases hy
                exact Hq.out
              · exact hn.out j x (by omega) hy
            case measure => simp [intOf]; omega
    · have Hr : Hid (foreB ps = inB N 1 24) := by
        show _ = _
        rw [all_yes (fun j x hx => hn.out j x (by have := (List.getElem?_eq_some_iff.1 hx).1; have := HN.out; omega) hx), HN.out]
      go_wp2_with (go_at_call 98; refine (l1In_any _ _ _ _).mono ?_; rintro e w' ⟨rfl, rfl⟩)
      go_ret
      exact ⟨by rw [Hr.out]; rfl, hb.out⟩
set_option maxHeartbeats 1000000 in
theorem isWeather_any (f s g h : Int) (w : World) :
    Calls Try.prog 119 #[wxV f s g h] w fun e w' => e = .returned (.bool (wxB ⟨f, s, g, h⟩)) ∧ Below w.heap.size w w' := by
  have Hr : Hid (wxB ⟨f, s, g, h⟩ = (windB f s && inB g s 200 && inB h 0 100)) := rfl
  cases q1 : windB f s
  · go_enter Try.func119, Try.ntmps119
    go_wp2_with fail
    with_reducible refine (IsBreeze_any _ _ _).mono ?_
    rintro e w1 ⟨rfl, hb1⟩
    rw [q1]
    go_wp2
    go_ret
    exact ⟨by rw [Hr.out, q1]; rfl, grow_trans (grow_alloc _ _) hb1⟩
  · cases q2 : inB g s 200
    all_goals
      go_enter Try.func119, Try.ntmps119
      go_wp2_with fail
      with_reducible refine (IsBreeze_any _ _ _).mono ?_
      rintro e w1 ⟨rfl, hb1⟩
      rw [q1]
      have hc := (bcell hb1).1
      go_wp2_with (go_at_call 97; refine (in_any _ _ _ _).mono ?_; rintro e w' ⟨rfl, rfl⟩; first | rw [q2] | skip)
      go_ret
      exact ⟨by rw [Hr.out, q1, q2]; simp, grow_trans (grow_alloc _ _) hb1⟩
end Go.Proofs.Ytefampjmbjbhcaa
