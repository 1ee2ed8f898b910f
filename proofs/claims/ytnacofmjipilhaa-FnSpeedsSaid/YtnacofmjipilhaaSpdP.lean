/- Speeds: damper fuel, steeper slopes, the dampest moisture. Plain law; no program in sight. -/
import Derived.Test.YtnacofmjipilhaaPure
namespace Go.Proofs.Ytnacofmjipilhaa
open Go.RowKit
set_option linter.unusedVariables false
theorem div_mono {a b c : Int} (h : a ≤ b) (hc : 0 < c) : a / c ≤ b / c := Int.ediv_le_ediv hc h
theorem flat_mono {r l m : Int} (hr : 1 ≤ r) (hl : 10 ≤ l) : r * (l - (m + 1)) / l ≤ r * (l - m) / l :=
  div_mono (Int.mul_le_mul_of_nonneg_left (by omega) (by omega)) (by omega)
theorem speed_nonneg {r l m s : Int} (r1 : 1 ≤ r) (r2 : r ≤ 1000) (l1 : 10 ≤ l) (l2 : l ≤ 400) (m1 : 0 ≤ m) (s1 : -45 ≤ s) : 0 ≤ speedN r l m s := by
  unfold speedN
  split
  · omega
  · rename_i h
    have hf := (flat_bound r1 r2 l1 l2 m1 h).2.1
    split
    · exact Int.ediv_nonneg (Int.mul_nonneg hf (by omega)) (by omega)
    · exact Int.ediv_nonneg (by omega) (by omega)
/-- Fire is not faster in damper fuel. -/
theorem speed_damp {r l m s : Int} (r1 : 1 ≤ r) (r2 : r ≤ 1000) (l1 : 10 ≤ l) (l2 : l ≤ 400) (m1 : 0 ≤ m) (s1 : -45 ≤ s) : speedN r l (m + 1) s ≤ speedN r l m s := by
  have h0 := speed_nonneg r1 r2 l1 l2 m1 s1
  by_cases h1 : l ≤ m + 1
  · have : speedN r l (m + 1) s = 0 := by unfold speedN; rw [if_pos h1]
    omega
  · have hm := flat_mono (m := m) r1 l1
    have h2 : ¬ l ≤ m := by omega
    unfold speedN
    rw [if_neg h1, if_neg h2]
    by_cases hs : 0 ≤ s
    · rw [if_pos hs, if_pos hs]
      exact div_mono (Int.mul_le_mul_of_nonneg_right hm (by omega)) (by omega)
    · rw [if_neg hs, if_neg hs]
      exact div_mono (by omega) (by omega)
/-- Fire is not slower on a steeper slope upwards. -/
theorem speed_steep {r l m s : Int} (r1 : 1 ≤ r) (r2 : r ≤ 1000) (l1 : 10 ≤ l) (l2 : l ≤ 400) (m1 : 0 ≤ m) (s1 : -45 ≤ s) : speedN r l m s ≤ speedN r l m (s + 1) := by
  unfold speedN
  split
  · omega
  · rename_i h
    have hf := (flat_bound r1 r2 l1 l2 m1 h).2.1
    generalize r * (l - m) / l = v at *
    by_cases h2 : 0 ≤ s
    · rw [if_pos h2, if_pos (by omega)]
      exact div_mono (Int.mul_le_mul_of_nonneg_left (by omega) hf) (by omega)
    · rw [if_neg h2]
      split
      · obtain rfl : s = -1 := by omega
        have : v * (100 + 4 * (-1 + 1)) = 100 * v := by omega
        rw [this]
        omega
      · have hd : 0 < 100 - 2 * (s + 1) := by omega
        refine (Int.le_ediv_iff_mul_le hd).2 ?_
        have h3 : 100 * v / (100 - 2 * s) * (100 - 2 * (s + 1)) ≤ 100 * v / (100 - 2 * s) * (100 - 2 * s) := Int.mul_le_mul_of_nonneg_left (by omega) (Int.ediv_nonneg (by omega) (by omega))
        have h4 := Int.ediv_mul_le (100 * v) (show (100 - 2 * s) ≠ 0 by omega)
        omega
theorem damp_some {r l s v k : Int} : ∀ {n : Nat}, dampF r l s v n = some k → 0 ≤ k ∧ k ≤ n ∧ v ≤ speedN r l k s ∧ (k < n → ¬ v ≤ speedN r l (k + 1) s)
  | 0, h => by
    unfold dampF at h
    split at h
    · cases h; exact ⟨by omega, by omega, by assumption, fun h => by omega⟩
    · cases h
  | n + 1, h => by
    unfold dampF at h
    split at h
    · cases h; exact ⟨by omega, by omega, by assumption, fun h => by omega⟩
    · rename_i hn
      obtain ⟨a, b, c, d⟩ := damp_some h
      refine ⟨a, by omega, c, fun hk => ?_⟩
      by_cases e : k < n
      · exact d e
      · obtain rfl : k = n := by omega
        exact hn
end Go.Proofs.Ytnacofmjipilhaa
