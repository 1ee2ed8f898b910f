/- The program's has and filter over numbers. Conditions: as each states. -/
import Derived.Test.YtefampjmbjbhcaaSet2
import Derived.Test.YtefampjmbjbhcaaSel
namespace Go.Proofs.Ytefampjmbjbhcaa
open Go.ChangeShapes Go.WideShapes Go.ChangeAt Go.RowKit Go.Deep
set_option linter.unusedVariables false
set_option linter.unusedSimpArgs false
set_option maxRecDepth 100000

set_option maxHeartbeats 1000000 in
theorem Index_int_any (v : Value) (zs : List Int) (x : Int) (w : World) (h : Sl w 1 v zs.length (ints zs)) :
    Calls Try.prog 182 #[v, .int .i64 x] w fun e w' => e = .returned (.int .i64 (idxOf (fun z => z == x) zs)) ∧ w = w' := by
  have hmx := h.len
  unfold maxLen at hmx
  obtain ⟨A, c, rfl⟩ := h.val
  generalize hN : zs.length = N at h hmx
  have HN := Lib.hid hN
  have Hs := Lib.hid h
  clear hN h
  go_enter Try.func182, Try.ntmps182
  go_wp2
  go_loop [8] (fun i => ∃ k : Nat, k ≤ N ∧ i = .int .i64 k ∧ Hid (∀ (j : Nat) (z : Int), j < k → zs[j]? = some z → (z == x) = false)) (fun i => N - (intOf i).toNat)
  case atStart => exact ⟨0, Nat.zero_le _, rfl, fun j z hj => by omega⟩
  case round =>
    obtain ⟨k, hk, rfl, hn⟩ := hrel
    by_cases hlt : k < N
    · obtain ⟨b, off, z, rfl, hz, hcell⟩ := Hs.out.at1 HN.out hlt
      have Hz := Lib.hid hz
      clear hz
      by_cases hq : z = x
      · subst hq
        have Hr := Lib.hid (idxOf_hit (p := fun y => y == z) Hz.out (by simp) hn.out)
        go_wp2
        go_ret
        exact ⟨by rw [Hr.out]; rfl, rfl⟩
      · have hq' : ¬ x = z := fun e => hq e.symm
        go_wp2
        go_round
        case rel =>
          refine ⟨k + 1, by omega, by go_num, fun j y hj hy => ?_⟩
          by_cases e : j = k
          · subst e
            rw [Hz.out] at hy
            cases hy
            simpa using hq
          · exact hn.out j y (by omega) hy
        case measure => simp [intOf]; omega
    · have Hr := Lib.hid (idxOf_miss (p := fun z => z == x) (xs := zs) (fun j z hz => hn.out j z (by have := (List.getElem?_eq_some_iff.1 hz).1; have := HN.out; omega) hz))
      go_wp2
      go_ret
      exact ⟨by rw [Hr.out]; rfl, rfl⟩
theorem has_any (v : Value) (zs : List Int) (x : Int) (w : World) (h : Sl w 1 v zs.length (ints zs)) :
    Calls Try.prog 83 #[v, .int .i64 x] w fun e w' => e = .returned (.bool (hasB zs x)) ∧ w = w' := by
  have Hr : Hid (decide (0 ≤ idxOf (fun z => z == x) zs) = hasB zs x) := idxOf_any _ _
  have Hc : Hid (Calls Try.prog 145 #[v, .int .i64 x] w fun e w' => e = .returned (.bool (hasB zs x)) ∧ w = w') := by
    have Hi := Lib.hid (Index_int_any v zs x w h)
    clear h
    show Calls _ _ _ _ _
    go_enter Try.func145, Try.ntmps145
    go_wp2_with (go_at_call 182; refine Hi.out.mono ?_; rintro e w1 ⟨rfl, rfl⟩)
    go_ret
    exact ⟨by rw [← Hr.out]; rfl, rfl⟩
  clear h
  go_enter Try.func83, Try.ntmps83
  go_wp2_with (go_at_call 145; refine Hc.out.mono ?_; rintro e w1 ⟨rfl, rfl⟩)
  go_ret
  exact ⟨rfl, rfl⟩
theorem filt_yes {zs : List Int} {p : Int → Bool} {k : Nat} {z : Int} (h : zs[k]? = some z) (hp : p z = true) : (zs.take (k + 1)).filter p = (zs.take k).filter p ++ [z] := by
  obtain ⟨hk, rfl⟩ := List.getElem?_eq_some_iff.1 h
  rw [List.take_succ_eq_append_getElem hk, List.filter_append]; simp [hp]
theorem filt_no {zs : List Int} {p : Int → Bool} {k : Nat} {z : Int} (h : zs[k]? = some z) (hp : p z = false) : (zs.take (k + 1)).filter p = (zs.take k).filter p := by
  obtain ⟨hk, rfl⟩ := List.getElem?_eq_some_iff.1 h
  rw [List.take_succ_eq_append_getElem hk, List.filter_append]; simp [hp]
theorem filt_le (zs : List Int) (p : Int → Bool) (k : Nat) : ((zs.take k).filter p).length ≤ k := Nat.le_trans (List.length_filter_le _ _) (by simp; omega)
theorem own_add {B : Nat} {e : TypeId} {w1 : World} {v : Value} {xs ys : List Int} {x : Int} (hy : ys = xs ++ [x]) (h : w1.ownsRow B e 1 v (xs.length + 1) (ints xs ++ [.int .i64 x])) : w1.ownsRow B e 1 v ys.length (ints ys) := by
  rw [hy]; simpa using h
end Go.Proofs.Ytefampjmbjbhcaa
