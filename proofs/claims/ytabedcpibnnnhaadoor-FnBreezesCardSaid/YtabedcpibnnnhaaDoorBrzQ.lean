/- Winds: what a text tells of its breeze, turns and pushes. Plain law. Conditions: as each states. -/
import Derived.Test.YtabedcpibnnnhaaDoorBrzP
namespace Go.Proofs.YtabedcpibnnnhaaDoor
open Go.ChangeShapes Go.WideShapes Go.ChangeAt Go.RowKit Go.Deep
set_option linter.unusedVariables false
set_option linter.unusedSimpArgs false
set_option maxRecDepth 100000

theorem tab_anti {k : Int} (h : k = 0 ∨ k = 1 ∨ k = 2 ∨ k = 3 ∨ k = 4) : tabN (4 - k) = - tabN k := by
  rcases h with rfl | rfl | rfl | rfl | rfl <;> decide
theorem turn_back {a b : Int} (h1 : 0 ≤ a) (h2 : a ≤ 7) (h3 : 0 ≤ b) (h4 : b ≤ 7) : turnN a ((b + 4) % 8) = 4 - turnN a b := by
  unfold turnN; omega
theorem push_back {f s to : Int} (h1 : 0 ≤ f) (h2 : f ≤ 7) (h3 : 0 ≤ to) (h4 : to ≤ 7) : pushN f s ((to + 4) % 8) = - pushN f s to := by
  unfold pushN
  have a1 : 0 ≤ (f + 4) % 8 := by omega
  have a2 : (f + 4) % 8 ≤ 7 := by omega
  rw [turn_back a1 a2 h3 h4, tab_anti (turn_cases a1 a2 h3 h4), Int.mul_neg, Int.neg_tdiv]
theorem push_le {f s to : Int} (h : 0 ≤ s) (h' : s ≤ 120) : pushN f s to ≤ s := by
  unfold pushN
  have h1 := tab_le (turnN ((f + 4) % 8) to)
  have h2 : s * tabN (turnN ((f + 4) % 8) to) ≤ s * 100 := Int.mul_le_mul_of_nonneg_left h1.2 h
  have h3 := Int.tdiv_le_tdiv (show (0 : Int) < 100 by omega) h2
  rw [Int.mul_tdiv_cancel _ (by omega)] at h3
  exact h3
theorem turn_comm (a b : Int) : turnN a b = turnN b a := by unfold turnN; omega
theorem turn_zero {a b : Int} (h1 : 0 ≤ a) (h2 : a ≤ 7) (h3 : 0 ≤ b) (h4 : b ≤ 7) : turnN a b = 0 ↔ a = b := by unfold turnN; omega
theorem brz_not_calm {f k : Int} (hk : k ≠ 0) : ¬ bs (brzL f k) = calmS := by
  intro h
  have h1 := splitS_bs (brzL f k) 32
  rw [brz_words f k hk, h] at h1
  have h2 : (splitS calmS 32).map (·.data.toList) = [[99, 97, 108, 109]] := by
    have := splitS_bs [99, 97, 108, 109] 32
    rw [spL_free (by decide)] at this
    exact this
  rw [h2] at h1
  have := congrArg List.length h1
  simp at this
/-- A valid breeze's text tells the breeze. -/
theorem brV_text {f k : Int} (h : windB f k = true) : brV (bs (brzL f k)) = brR true f k := by
  obtain ⟨⟨f1, f2⟩, ⟨k1, k2⟩, hz⟩ := windB_iff.1 h
  by_cases hk : k = 0
  · subst hk
    obtain rfl : f = 0 := by omega
    have e : bs (brzL 0 0) = calmS := by unfold brzL; rw [if_pos rfl]; rfl
    rw [e, br_calm]
  · obtain ⟨_, _, e1, e2⟩ := brz_parse h hk rfl
    have h1 : brF (bs (brzL f k)) = f := e1
    have h2 : brK (bs (brzL f k)) = k := e2
    have := br_some (s := bs (brzL f k)) (brz_not_calm hk) (by rw [h1, h2]; exact h) (by rw [h1, h2])
    rw [this, h1, h2]
theorem turnR_comm (a b : Int) : turnR a b = turnR b a := by
  unfold turnR
  rw [Bool.and_comm, turn_comm]
end Go.Proofs.YtabedcpibnnnhaaDoor
