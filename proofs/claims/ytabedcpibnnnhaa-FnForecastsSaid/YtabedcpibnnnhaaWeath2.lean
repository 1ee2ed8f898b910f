/- Copies of forecasts; their validity in the program and in the reference. Conditions: as each states. -/
import Derived.Test.YtabedcpibnnnhaaWeath
namespace Go.Proofs.Ytabedcpibnnnhaa
open Go.ChangeShapes Go.WideShapes Go.ChangeAt Go.RowKit
set_option linter.unusedVariables false
set_option linter.unusedSimpArgs false
set_option maxRecDepth 100000

theorem all_no {ps : List Wx} {k : Nat} {x : Wx} (hx : ps[k]? = some x) (h : wxB x = false) : foreB ps = false := by
  unfold foreB
  rw [Bool.and_eq_false_iff]
  right
  rw [List.all_eq_false]
  exact ⟨x, List.mem_of_getElem? hx, by simp [h]⟩
theorem all_yes {ps : List Wx} (h : ∀ (j : Nat) (x : Wx), ps[j]? = some x → wxB x = true) : foreB ps = inB ps.length 1 24 := by
  have : ps.all wxB = true := by
    rw [List.all_eq_true]
    intro x hx
    obtain ⟨j, hj, rfl⟩ := List.mem_iff_getElem.1 hx
    exact h j _ (List.getElem?_eq_getElem hj)
  unfold foreB
  rw [this, Bool.and_true]
set_option maxHeartbeats 4000000 in
theorem l5Good_any (v : Value) (ps : List Wx) (w : World) (hs : Sl w 4 v ps.length (wxs ps)) :
    Calls Try.prog 51 #[v] w fun e w' => e = .returned (.bool (foreB ps)) ∧ Below w.heap.size w w' := by
  have hmx := hs.len
  unfold maxLen at hmx
  obtain ⟨A, c, rfl⟩ := hs.val
  generalize hN : ps.length = N at hs hmx
  have HN := Lib.hid hN
  have Hs := Lib.hid hs
  clear hN hs
  go_enter Try.func51, Try.ntmps51
  go_wp2
  go_loopw [3] (fun i wr => ∃ k : Nat, k ≤ N ∧ i = .int .i64 k ∧ Hid (Below w.heap.size w wr) ∧ Hid (∀ j x, j < k → ps[j]? = some x → wxB x = true)) (fun i _ => N - (intOf i).toNat)
  case atStart => exact ⟨0, Nat.zero_le _, rfl, Below.refl _ _, fun j x hj => by omega⟩
  case round =>
    obtain ⟨k, hk, rfl, hb, hn⟩ := hrel
    by_cases hlt : k < N
    · obtain ⟨b, off, f, s, g, r, rfl, hx, c0, c1, c2, c3⟩ := (Hs.out.below hb.out).wx HN.out hlt
      have Hx := Lib.hid hx
      clear hx
      cases q1 : windB f s
      · have Hr : Hid (foreB ps = false) := all_no Hx.out (by simp [wxB, q1])
        go_wp2_with fail
        with_reducible refine (l5Wind_any _ _ _).mono ?_
        rintro e w1 ⟨rfl, hb1⟩
        rw [q1]
        go_wp2
        go_ret
        exact ⟨by rw [Hr.out]; rfl, (grow_trans hb.out (grow_alloc _ _)).trans (hb1.mono (by have := hb.out.size; simp; omega))⟩
      · cases q2 : inB g s 200
        · have Hr : Hid (foreB ps = false) := all_no Hx.out (by simp [wxB, q2])
          go_wp2_with fail
          with_reducible refine (l5Wind_any _ _ _).mono ?_
          rintro e w1 ⟨rfl, hb1⟩
          rw [q1]
          have hc := (bcell hb1).1
          go_wp2_with (go_at_call 61; refine (l1In_any _ _ _ _).mono ?_; rintro e w' ⟨rfl, rfl⟩; rw [q2])
          go_ret
          exact ⟨by rw [Hr.out]; rfl, (grow_trans hb.out (grow_alloc _ _)).trans (hb1.mono (by have := hb.out.size; simp; omega))⟩
        · cases q3 : inB r 0 100
          · have Hr : Hid (foreB ps = false) := all_no Hx.out (by simp [wxB, q3])
            go_wp2_with fail
            with_reducible refine (l5Wind_any _ _ _).mono ?_
            rintro e w1 ⟨rfl, hb1⟩
            rw [q1]
            have hc := (bcell hb1).1
            go_wp2_with (go_at_call 61; refine (l1In_any _ _ _ _).mono ?_; rintro e w' ⟨rfl, rfl⟩; first | rw [q2] | rw [q3])
            go_ret
            exact ⟨by rw [Hr.out]; rfl, (grow_trans hb.out (grow_alloc _ _)).trans (hb1.mono (by have := hb.out.size; simp; omega))⟩
          · have Hq : Hid (wxB ⟨f, s, g, r⟩ = true) := by show _ = _; simp [wxB, q1, q2, q3]
            go_wp2_with fail
            with_reducible refine (l5Wind_any _ _ _).mono ?_
            rintro e w1 ⟨rfl, hb1⟩
            rw [q1]
            have hc := (bcell hb1).1
            go_wp2_with (go_at_call 61; refine (l1In_any _ _ _ _).mono ?_; rintro e w' ⟨rfl, rfl⟩; first | rw [q2] | rw [q3])
            go_roundw
            case rel =>
              refine ⟨k + 1, by omega, by go_num, (grow_trans hb.out (grow_alloc _ _)).trans (hb1.mono (by have := hb.out.size; simp; omega)), fun j x hj hy => ?_⟩
              by_cases e : j = k
              · subst e
                rw [Hx.out] at hy
                cases hy
                exact Hq.out
              · exact hn.out j x (by omega) hy
            case measure => simp [intOf]; omega
    · have Hr : Hid (foreB ps = inB N 1 24) := by
        show _ = _
        rw [all_yes (fun j x hx => hn.out j x (by have := (List.getElem?_eq_some_iff.1 hx).1; have := HN.out; omega) hx), HN.out]
      go_wp2_with (go_at_call 61; refine (l1In_any _ _ _ _).mono ?_; rintro e w' ⟨rfl, rfl⟩)
      go_ret
      exact ⟨by rw [Hr.out]; rfl, hb.out⟩
set_option maxHeartbeats 1000000 in
theorem isWeather_any (f s g h : Int) (w : World) :
    Calls Try.prog 55 #[wxV f s g h] w fun e w' => e = .returned (.bool (wxB ⟨f, s, g, h⟩)) ∧ Below w.heap.size w w' := by
  have Hr : Hid (wxB ⟨f, s, g, h⟩ = (windB f s && inB g s 200 && inB h 0 100)) := rfl
  cases q1 : windB f s
  · go_enter Try.func55, Try.ntmps55
    go_wp2_with fail
    with_reducible refine (IsBreeze_any _ _ _).mono ?_
    rintro e w1 ⟨rfl, hb1⟩
    rw [q1]
    go_wp2
    go_ret
    exact ⟨by rw [Hr.out, q1]; rfl, grow_trans (grow_alloc _ _) hb1⟩
  · cases q2 : inB g s 200
    all_goals
      go_enter Try.func55, Try.ntmps55
      go_wp2_with fail
      with_reducible refine (IsBreeze_any _ _ _).mono ?_
      rintro e w1 ⟨rfl, hb1⟩
      rw [q1]
      have hc := (bcell hb1).1
      go_wp2_with (go_at_call 53; refine (in_any _ _ _ _).mono ?_; rintro e w' ⟨rfl, rfl⟩; first | rw [q2] | skip)
      go_ret
      exact ⟨by rw [Hr.out, q1, q2]; simp, grow_trans (grow_alloc _ _) hb1⟩
end Go.Proofs.Ytabedcpibnnnhaa
