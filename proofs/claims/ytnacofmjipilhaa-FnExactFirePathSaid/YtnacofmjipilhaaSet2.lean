/- Whether a list rises within bounds, in the reference. Conditions: none. -/
import Derived.Test.YtnacofmjipilhaaSet
namespace Go.Proofs.Ytnacofmjipilhaa
open Go.ChangeShapes Go.WideShapes Go.ChangeAt Go.RowKit
set_option linter.unusedVariables false
set_option linter.unusedSimpArgs false
set_option maxRecDepth 100000

set_option maxHeartbeats 4000000 in
theorem l1Rising_any (v : Value) (zs : List Int) (lo hi : Int) (w : World) (h : Sl w 1 v zs.length (ints zs)) :
    Calls Try.prog 160 #[v, .int .i64 lo, .int .i64 hi] w fun e w' => e = .returned (.bool (setB zs lo hi)) ∧ Below w.heap.size w w' := by
  have hmx := h.len
  unfold maxLen at hmx
  obtain ⟨A, c, rfl⟩ := h.val
  generalize hN : zs.length = N at h hmx
  have HN := Lib.hid hN
  have Hs := Lib.hid h
  clear hN h
  go_enter Try.func160, Try.ntmps160
  go_wp2
  go_loopw [7] (fun i wr => ∃ k : Nat, k ≤ N ∧ i = .int .i64 k ∧ Hid (Below w.heap.size w wr) ∧ Hid (∀ j, j < k → (inB (zs.getD j 0) lo hi && upAt zs j) = true)) (fun i _ => N - (intOf i).toNat)
  case atStart => exact ⟨0, Nat.zero_le _, rfl, Below.refl _ _, fun j hj => by omega⟩
  case round =>
    obtain ⟨k, hk, rfl, hb, hn⟩ := hrel
    by_cases hlt : k < N
    · obtain ⟨b, off, z, rfl, hz, hcell⟩ := (Hs.out.below hb.out).at1 HN.out hlt
      have Hz : Hid (zs.getD k 0 = z) := by show _ = _; rw [List.getD_eq_getElem?_getD, hz]; rfl
      have hlz : (k : Int) < (N : Int) := by omega
      cases q1 : inB z lo hi
      · have Hr := Lib.hid (setB_no (zs := zs) (lo := lo) (hi := hi) (i := k) (by have := HN.out; omega) (by rw [Hz.out, q1]; rfl))
        have HT : Hid (∀ W, Calls Try.prog 96 #[.int .i64 z, .int .i64 lo, .int .i64 hi] W fun e w' => e = .returned (.bool false) ∧ W = w') := fun W => by have := l1In_any z lo hi W; rwa [q1] at this
        clear hz
        go_wp2_with fail
        go_quiet ((go_at_call 96; with_reducible exact quiet_same (HT.out _)))
        go_wp2
        go_ret
        exact ⟨by rw [Hr.out]; rfl, hb.out.trans ⟨rfl, rfl, rfl, Nat.le_refl _, fun _ _ => rfl⟩⟩
      · have HT : Hid (∀ W, Calls Try.prog 96 #[.int .i64 z, .int .i64 lo, .int .i64 hi] W fun e w' => e = .returned (.bool true) ∧ W = w') := fun W => by have := l1In_any z lo hi W; rwa [q1] at this
        rcases Nat.eq_zero_or_pos k with hk0 | hpos
        · clear hz
          have g1 : decide ((0 : Int) < (k : Int)) = false := by simpa using hk0
          have g2 : decide (0 < k) = false := by simpa using hk0
          have Hu : Hid ((inB (zs.getD k 0) lo hi && upAt zs k) = true) := by show _ = _; rw [Hz.out, q1, hk0]; rfl
          have Hk0 := Lib.hid hk0
          clear hk0
          go_wp2_with fail
          go_quiet ((go_at_call 96; with_reducible exact quiet_same (HT.out _)))
          go_wp2
          go_roundw
          case rel =>
            refine ⟨k + 1, by omega, by go_num, hb.out.trans ⟨rfl, rfl, rfl, Nat.le_refl _, fun _ _ => rfl⟩, ?_⟩
            show ∀ j, j < k + 1 → _
            intro j hj
            have hj0 : j = k := by have := Hk0.out; omega
            subst hj0
            exact Hu.out
          case measure => simp [intOf]; omega
        · obtain ⟨j, rfl⟩ : ∃ j, k = j + 1 := ⟨k - 1, by omega⟩
          obtain ⟨b', off', y, e', hy, hcell'⟩ := (Hs.out.below hb.out).at1 HN.out (show j < N by omega)
          cases e'
          have Hu : Hid ((inB (zs.getD (j + 1) 0) lo hi && upAt zs (j + 1)) = decide (y < z)) := by
            show _ = _
            rw [Hz.out, q1]
            simp [upAt, List.getD_eq_getElem?_getD, hz, hy]
          clear hz hy
          have g1 : decide ((0 : Int) < ((j + 1 : Nat) : Int)) = true := by simp <;> omega
          have g2 : decide (0 < j + 1) = true := by simp
          by_cases hq : y < z
          · have hqd : decide (z ≤ y) = false := by simpa using hq
            go_wp2_with fail
            go_quiet ((go_at_call 96; with_reducible exact quiet_same (HT.out _)))
            go_wp2
            go_roundw
            case rel =>
              refine ⟨j + 1 + 1, by omega, by go_num, hb.out.trans ⟨rfl, rfl, rfl, Nat.le_refl _, fun _ _ => rfl⟩, fun i hi => ?_⟩
              by_cases e : i = j + 1
              · subst e; rw [Hu.out]; simpa using hq
              · exact hn.out i (by omega)
            case measure => simp [intOf]; omega
          · have Hr := Lib.hid (setB_no (zs := zs) (lo := lo) (hi := hi) (i := j + 1) (by have := HN.out; omega) (by rw [Hu.out]; simpa using hq))
            have hqd : decide (z ≤ y) = true := by simpa using hq
            go_wp2_with fail
            go_quiet ((go_at_call 96; with_reducible exact quiet_same (HT.out _)))
            go_wp2
            go_ret
            exact ⟨by rw [Hr.out]; rfl, hb.out.trans ⟨rfl, rfl, rfl, Nat.le_refl _, fun _ _ => rfl⟩⟩
    · have Hr := Lib.hid (setB_yes (zs := zs) (lo := lo) (hi := hi) (fun i hi => hn.out i (by have := HN.out; omega)))
      go_wp2
      go_ret
      exact ⟨by rw [Hr.out]; rfl, hb.out⟩
end Go.Proofs.Ytnacofmjipilhaa
