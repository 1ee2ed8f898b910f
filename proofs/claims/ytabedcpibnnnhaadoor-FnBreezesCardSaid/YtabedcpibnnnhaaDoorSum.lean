/- Contracts of the checksum's functions. Conditions: none but a text's length. -/
import Derived.Test.YtabedcpibnnnhaaDoorNum
namespace Go.Proofs.YtabedcpibnnnhaaDoor
open Go.ChangeShapes Go.WideShapes Go.ChangeAt Go.RowKit
set_option linter.unusedVariables false
set_option linter.unusedSimpArgs false
set_option maxRecDepth 100000

set_option maxHeartbeats 1000000 in
theorem l1Sum_any (s : ByteArray) (w : World) (hs : s.size ≤ maxLen) :
    Calls Tryd.prog 82 #[.string s] w fun e w' => e = .returned (.int .i64 (sumL s.data.toList)) ∧ w = w' := by
  unfold maxLen at hs
  go_enter Tryd.func82, Tryd.ntmps82
  go_wp2
  go_loop [3, 4] (fun n i => ∃ k : Nat, k ≤ s.size ∧ i = .int .i64 k ∧ n = .int .i64 (sumL (s.data.toList.take k))) (fun _ i => s.size - (intOf i).toNat)
  case atStart => exact ⟨0, Nat.zero_le _, rfl, rfl⟩
  case round =>
    obtain ⟨k, hk, rfl, rfl⟩ := hrel
    by_cases hlt : k < s.size
    · have HS := Lib.hid (sumL_snoc s k hlt)
      obtain ⟨b1, b2⟩ := sumL_bd (s.data.toList.take k)
      generalize sumL (s.data.toList.take k) = h at b1 b2 HS ⊢
      have b3 : s[k].toNat < 256 := UInt8.toNat_lt _
      go_wp2
      go_round
      case rel => exact ⟨k + 1, by omega, by go_num, by rw [HS.out]⟩
      case measure => simp [intOf]; omega
    · have HS := Lib.hid (take_all s k hlt)
      go_wp2
      go_ret
      exact ⟨ret_int (by rw [HS.out]), rfl⟩
set_option maxHeartbeats 1000000 in
theorem Checksum_any (s : ByteArray) (w : World) (hs : s.size ≤ maxLen) :
    Calls Tryd.prog 48 #[.string s] w fun e w' => e = .returned (okR (decide (s.size ≤ 4000)) (sumL s.data.toList)) ∧ w = w' := by
  by_cases h : s.size ≤ 4000
  · go_enter Tryd.func48, Tryd.ntmps48
    go_wp2
    go_loop [4, 11] (fun n i => ∃ k : Nat, k ≤ s.size ∧ i = .int .i64 k ∧ n = .int .i64 (sumL (s.data.toList.take k))) (fun _ i => s.size - (intOf i).toNat)
    case atStart => exact ⟨0, Nat.zero_le _, rfl, rfl⟩
    case round =>
      obtain ⟨k, hk, rfl, rfl⟩ := hrel
      by_cases hlt : k < s.size
      · have HS := Lib.hid (sumL_snoc s k hlt)
        obtain ⟨b1, b2⟩ := sumL_bd (s.data.toList.take k)
        generalize sumL (s.data.toList.take k) = h at b1 b2 HS ⊢
        have b3 : s[k].toNat < 256 := UInt8.toNat_lt _
        go_wp2
        go_round
        case rel => exact ⟨k + 1, by omega, by go_num, by rw [HS.out]⟩
        case measure => simp [intOf]; omega
      · have HS := Lib.hid (take_all s k hlt)
        go_wp2
        go_ret2
        exact ⟨by simp only [HS.out]; rfl, rfl⟩
  · have Hr : Hid (okR (decide (s.size ≤ 4000)) (sumL s.data.toList) = .tuple #[.int .i64 0, .bool false]) := by show _ = _; simp [okR, h]
    go_enter Tryd.func48, Tryd.ntmps48
    go_wp2
    go_ret2
    exact ⟨by rw [Hr.out]; rfl, rfl⟩
end Go.Proofs.YtabedcpibnnnhaaDoor
