/- A byte stands in a text: the reference's search. Conditions: as each states. -/
import Derived.Test.YtabedcpibnnnhaaDoorQueue
import Derived.Lib.IndexAny
namespace Go.Proofs.YtabedcpibnnnhaaDoor
open Go.ChangeShapes Go.WideShapes Go.ChangeAt Go.RowKit Go.Deep
set_option linter.unusedVariables false
set_option linter.unusedSimpArgs false
set_option maxRecDepth 100000

/-- A byte stands in a text. -/
def hasC (s : ByteArray) (c : UInt8) : Bool := s.data.toList.contains c
theorem app_size (a b : ByteArray) : (a ++ b).size = a.size + b.size := ByteArray.size_append
theorem one_size (c : UInt8) : (⟨#[c]⟩ : ByteArray).size = 1 := rfl
theorem mem_of_at {s : ByteArray} {k : Nat} (h : k < s.size) {c : UInt8} (e : s[k] = c) : hasC s c = true := by
  unfold hasC
  rw [List.contains_iff_mem, ← e]
  exact Array.mem_toList_iff.2 (Array.getElem_mem (xs := s.data) (i := k) h)
theorem not_mem_of {s : ByteArray} {c : UInt8} (h : ∀ k (hk : k < s.size), s[k] ≠ c) : hasC s c = false := by
  unfold hasC
  rw [Bool.eq_false_iff]
  intro hc
  rw [List.contains_iff_mem] at hc
  obtain ⟨k, hk, e⟩ := List.mem_iff_getElem.1 hc
  have e2 : s.data[k]'(by simpa using hk) = c := by simpa using e
  exact h k (by simpa using hk) e2
theorem u8_ne {a b : UInt8} (h : a ≠ b) : a.toNat ≠ b.toNat := fun e => h (UInt8.toNat_inj.1 e)
set_option maxHeartbeats 1000000 in
theorem l1Stands_any (s : ByteArray) (c : UInt8) (w : World) (hs : s.size ≤ maxLen) :
    Calls Tryd.prog 50 #[.string s, .int .u8 c.toNat] w fun e w' => e = .returned (.bool (hasC s c)) ∧ w = w' := by
  unfold maxLen at hs
  go_enter Tryd.func50, Tryd.ntmps50
  go_wp2
  go_loop [5] (fun i => ∃ k : Nat, k ≤ s.size ∧ i = .int .i64 k ∧ Hid (∀ j (h : j < s.size), j < k → s[j] ≠ c)) (fun i => s.size - (intOf i).toNat)
  case atStart => exact ⟨0, Nat.zero_le _, rfl, fun j h hj => by omega⟩
  case round =>
    obtain ⟨k, hk, rfl, hp⟩ := hrel
    by_cases hlt : k < s.size
    · by_cases hq : s[k] = c
      · have HR := Lib.hid (mem_of_at hlt hq)
        have hq' : s[k].toNat = c.toNat := by rw [hq]
        go_wp2
        go_ret
        exact ⟨by rw [HR.out]; rfl, rfl⟩
      · have hq' : s[k].toNat ≠ c.toNat := u8_ne hq
        have hq2 : ¬ ((s[k].toNat : Int) = (c.toNat : Int)) := by omega
        have hq3 : ((s[k].toNat : Int) == (c.toNat : Int)) = false := by simpa using hq2
        go_wp2
        go_round
        case rel => exact ⟨k + 1, by omega, by go_num, fun j h hj => by
          by_cases e : j = k
          · subst e; exact hq
          · exact hp.out j h (by omega)⟩
        case measure => simp [intOf]; omega
    · have HR := Lib.hid (not_mem_of (s := s) (c := c) (fun j hj => hp.out j hj (by omega)))
      go_wp2
      go_ret
      exact ⟨by rw [HR.out]; rfl, rfl⟩
end Go.Proofs.YtabedcpibnnnhaaDoor
