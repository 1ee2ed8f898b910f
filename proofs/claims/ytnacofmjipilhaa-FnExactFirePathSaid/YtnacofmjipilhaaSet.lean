/- Lists of numbers: whether one is in a list, whether a list rises. Conditions: as each states. -/
import Derived.Test.YtnacofmjipilhaaTerr
import Derived.Test.YtnacofmjipilhaaCell
namespace Go.Proofs.Ytnacofmjipilhaa
open Go.ChangeShapes Go.WideShapes Go.ChangeAt Go.RowKit
set_option linter.unusedVariables false
set_option linter.unusedSimpArgs false
set_option maxRecDepth 100000

/-- A number is in a list. -/
def hasB (zs : List Int) (c : Int) : Bool := zs.any fun z => z == c
theorem hasB_yes {zs : List Int} {c : Int} {k : Nat} (h : zs[k]? = some c) : hasB zs c = true := by
  unfold hasB; rw [List.any_eq_true]; exact ⟨c, List.mem_of_getElem? h, by simp⟩
theorem hasB_no {zs : List Int} {c : Int} (h : ∀ (j : Nat) (z : Int), zs[j]? = some z → z ≠ c) : hasB zs c = false := by
  unfold hasB; rw [List.any_eq_false]
  intro z hz
  obtain ⟨j, hj, rfl⟩ := List.mem_iff_getElem.1 hz
  simpa using h j _ (List.getElem?_eq_getElem hj)
/-- One element of a list is greater than the one before it. -/
def upAt (zs : List Int) (i : Nat) : Bool := match i with | 0 => true | j + 1 => decide (zs.getD j 0 < zs.getD (j + 1) 0)
/-- A list rises. -/
def risB (zs : List Int) : Bool := (List.range zs.length).all (upAt zs)
theorem risB_no {zs : List Int} {i : Nat} (hi : i < zs.length) (h : upAt zs i = false) : risB zs = false := by
  unfold risB; rw [List.all_eq_false]; exact ⟨i, by simpa using hi, by simp [h]⟩
theorem risB_yes {zs : List Int} (h : ∀ i, i < zs.length → upAt zs i = true) : risB zs = true := by
  unfold risB; rw [List.all_eq_true]; intro i hi; exact h i (by simpa using hi)
set_option maxHeartbeats 1000000 in
theorem l1Has_any (v : Value) (zs : List Int) (x : Int) (w : World) (h : Sl w 1 v zs.length (ints zs)) :
    Calls Try.prog 161 #[v, .int .i64 x] w fun e w' => e = .returned (.bool (hasB zs x)) ∧ w = w' := by
  have hmx := h.len
  unfold maxLen at hmx
  obtain ⟨A, c, rfl⟩ := h.val
  generalize hN : zs.length = N at h hmx
  have HN := Lib.hid hN
  have Hs := Lib.hid h
  clear hN h
  go_enter Try.func161, Try.ntmps161
  go_wp2
  go_loop [5] (fun i => ∃ k : Nat, k ≤ N ∧ i = .int .i64 k ∧ Hid (∀ (j : Nat) (z : Int), j < k → zs[j]? = some z → z ≠ x)) (fun i => N - (intOf i).toNat)
  case atStart => exact ⟨0, Nat.zero_le _, rfl, fun j z hj => by omega⟩
  case round =>
    obtain ⟨k, hk, rfl, hn⟩ := hrel
    by_cases hlt : k < N
    · obtain ⟨b, off, z, rfl, hz, hcell⟩ := Hs.out.at1 HN.out hlt
      have Hz := Lib.hid hz
      clear hz
      by_cases hq : z = x
      · subst hq
        have Hr := Lib.hid (hasB_yes Hz.out)
        go_wp2
        go_ret
        exact ⟨by rw [Hr.out]; rfl, rfl⟩
      · go_wp2
        go_round
        case rel =>
          refine ⟨k + 1, by omega, by go_num, fun j y hj hy => ?_⟩
          by_cases e : j = k
          · subst e
            rw [Hz.out] at hy
            cases hy
            exact hq
          · exact hn.out j y (by omega) hy
        case measure => simp [intOf]; omega
    · have Hr := Lib.hid (hasB_no (zs := zs) (c := x) (fun j z hz => hn.out j z (by have := (List.getElem?_eq_some_iff.1 hz).1; have := HN.out; omega) hz))
      go_wp2
      go_ret
      exact ⟨by rw [Hr.out]; rfl, rfl⟩
set_option maxHeartbeats 2000000 in
theorem isRising_any (v : Value) (zs : List Int) (w : World) (h : Sl w 1 v zs.length (ints zs)) :
    Calls Try.prog 167 #[v] w fun e w' => e = .returned (.bool (risB zs)) ∧ Below w.heap.size w w' := by
  have hmx := h.len
  unfold maxLen at hmx
  obtain ⟨A, c, rfl⟩ := h.val
  generalize hN : zs.length = N at h hmx
  have HN := Lib.hid hN
  have Hs := Lib.hid h
  clear hN h
  go_enter Try.func167, Try.ntmps167
  go_wp2
  go_loopw [3] (fun i wr => ∃ k : Nat, 1 ≤ k ∧ (k ≤ N ∨ k = 1) ∧ i = .int .i64 k ∧ Hid (Below w.heap.size w wr) ∧ Hid (∀ j, j < k → upAt zs j = true)) (fun i _ => N - (intOf i).toNat)
  case atStart =>
    refine ⟨1, Nat.le_refl _, .inr rfl, rfl, Below.refl _ _, ?_⟩
    show ∀ j, j < 1 → upAt zs j = true
    intro j hj
    have hj0 : j = 0 := by omega
    subst hj0
    rfl
  case round =>
    obtain ⟨k, hk1, hk, rfl, hb, hn⟩ := hrel
    by_cases hlt : k < N
    · obtain ⟨j, rfl⟩ : ∃ j, k = j + 1 := ⟨k - 1, by omega⟩
      obtain ⟨b, off, z, rfl, hz, hcell⟩ := (Hs.out.below hb.out).at1 HN.out hlt
      obtain ⟨b', off', y, e', hy, hcell'⟩ := (Hs.out.below hb.out).at1 HN.out (show j < N by omega)
      cases e'
      have Hu : Hid (upAt zs (j + 1) = decide (y < z)) := by
        show _ = _
        simp [upAt, List.getD_eq_getElem?_getD, hz, hy]
      clear hz hy
      have hlz : ((j + 1 : Nat) : Int) < (N : Int) := by omega
      by_cases hq : y < z
      · have hqd : decide (z ≤ y) = false := by simpa using hq
        go_wp2_with fail
        go_quiet (fail)
        go_wp2
        go_roundw
        case rel =>
          refine ⟨j + 1 + 1, by omega, .inl (by omega), by go_num, hb.out.trans ⟨rfl, rfl, rfl, Nat.le_refl _, fun _ _ => rfl⟩, fun i hi => ?_⟩
          by_cases e : i = j + 1
          · subst e; rw [Hu.out]; simpa using hq
          · exact hn.out i (by omega)
        case measure => simp [intOf]; omega
      · have Hr := Lib.hid (risB_no (zs := zs) (i := j + 1) (by have := HN.out; omega) (by rw [Hu.out]; simpa using hq))
        have hqd : decide (z ≤ y) = true := by simpa using hq
        go_wp2_with fail
        go_quiet (fail)
        go_wp2
        go_ret
        exact ⟨by rw [Hr.out]; rfl, hb.out.trans ⟨rfl, rfl, rfl, Nat.le_refl _, fun _ _ => rfl⟩⟩
    · have Hr := Lib.hid (risB_yes (zs := zs) (fun i hi => hn.out i (by have := HN.out; omega)))
      go_wp2
      go_ret
      exact ⟨by rw [Hr.out]; rfl, hb.out⟩
/-- A list rises within bounds. -/
def setB (zs : List Int) (lo hi : Int) : Bool := (List.range zs.length).all fun i => inB (zs.getD i 0) lo hi && upAt zs i
theorem setB_no {zs : List Int} {lo hi : Int} {i : Nat} (hi' : i < zs.length) (h : (inB (zs.getD i 0) lo hi && upAt zs i) = false) : setB zs lo hi = false := by
  unfold setB; rw [List.all_eq_false]; exact ⟨i, by simpa using hi', by rw [h]; simp⟩
theorem setB_yes {zs : List Int} {lo hi : Int} (h : ∀ i, i < zs.length → (inB (zs.getD i 0) lo hi && upAt zs i) = true) : setB zs lo hi = true := by
  unfold setB; rw [List.all_eq_true]; intro i hi'; exact h i (by simpa using hi')
end Go.Proofs.Ytnacofmjipilhaa
