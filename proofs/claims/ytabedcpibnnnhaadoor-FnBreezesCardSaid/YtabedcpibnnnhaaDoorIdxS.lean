/- The place of a string in a list, in the program. Conditions: as each states. -/
import Derived.Test.YtabedcpibnnnhaaDoorBrzP
import Derived.Test.YtabedcpibnnnhaaDoorFilt
namespace Go.Proofs.YtabedcpibnnnhaaDoor
open Go.ChangeShapes Go.WideShapes Go.ChangeAt Go.RowKit Go.Deep
set_option linter.unusedVariables false
set_option linter.unusedSimpArgs false
set_option maxRecDepth 100000

theorem ix_idx (x : ByteArray) : idxOf (fun z : ByteArray => decide (z = x)) (dirS.map bs) = ixD x.data.toList := by
  unfold idxOf ixD
  have : (dirS.map bs).findIdx? (fun z : ByteArray => decide (z = x)) = dirS.idxOf? x.data.toList := by
    rw [List.findIdx?_map]
    unfold List.idxOf?
    congr 1
    funext d
    show decide (bs d = x) = (d == x.data.toList)
    by_cases h : bs d = x
    · rw [decide_eq_true h, ← h]
      have : (bs d).data.toList = d := by unfold bs; simp
      rw [this]; simp
    · rw [decide_eq_false h]
      symm
      rw [beq_eq_false_iff_ne]
      intro e
      exact h (by rw [e]; exact bs_data' x)
  rw [this]
  cases dirS.idxOf? x.data.toList <;> rfl
set_option maxHeartbeats 1000000 in
theorem Index_str_any (v : Value) (zs : List ByteArray) (x : ByteArray) (w : World) (h : Sl w 1 v zs.length (strs zs)) :
    Calls Tryd.prog 67 #[v, .string x] w fun e w' => e = .returned (.int .i64 (idxOf (fun z => decide (z = x)) zs)) ∧ w = w' := by
  have hmx := h.len
  unfold maxLen at hmx
  obtain ⟨A, c, rfl⟩ := h.val
  generalize hN : zs.length = N at h hmx
  have HN := Lib.hid hN
  have Hs := Lib.hid h
  clear hN h
  go_enter Tryd.func67, Tryd.ntmps67
  go_wp2
  go_loop [8] (fun i => ∃ k : Nat, k ≤ N ∧ i = .int .i64 k ∧ Hid (∀ (j : Nat) (z : ByteArray), j < k → zs[j]? = some z → decide (z = x) = false)) (fun i => N - (intOf i).toNat)
  case atStart => exact ⟨0, Nat.zero_le _, rfl, fun j z hj => by omega⟩
  case round =>
    obtain ⟨k, hk, rfl, hn⟩ := hrel
    by_cases hlt : k < N
    · obtain ⟨b, off, z, rfl, hz, hcell⟩ := Hs.out.at1 HN.out hlt
      have Hz := Lib.hid hz
      clear hz
      by_cases hq : z = x
      · subst hq
        have Hr := Lib.hid (idxOf_hit (p := fun y => decide (y = z)) Hz.out (by simp) hn.out)
        go_wp2
        go_ret
        exact ⟨by rw [Hr.out]; rfl, rfl⟩
      · have hq' := bytes_ne (a := x) (b := z) (fun e => hq e.symm)
        go_wp2
        go_round
        case rel =>
          refine ⟨k + 1, by omega, by go_num, fun j y hj hy => ?_⟩
          by_cases e : j = k
          · subst e
            rw [Hz.out] at hy
            cases hy
            simpa using hq
          · exact hn.out j y (by omega) hy
        case measure => simp [intOf]; omega
    · have Hr := Lib.hid (idxOf_miss (p := fun z => decide (z = x)) (xs := zs) (fun j z hz => hn.out j z (by have := (List.getElem?_eq_some_iff.1 hz).1; have := HN.out; omega) hz))
      go_wp2
      go_ret
      exact ⟨by rw [Hr.out]; rfl, rfl⟩
end Go.Proofs.YtabedcpibnnnhaaDoor
