/- Cells of a terrain: columns, rows, steps apart; the functions that tell of them. Conditions: none; each function's own stand at it. -/
import Derived.Test.YtnadeddkogapoaaTerr
import Derived.Test.YtnadeddkogapoaaWind
namespace Go.Proofs.Ytnadeddkogapoaa
open Go.ChangeShapes Go.WideShapes Go.ChangeAt Go.RowKit Go.Deep
set_option linter.unusedVariables false
set_option linter.unusedSimpArgs false
set_option maxRecDepth 100000

/-- What a valid terrain's sizes are. -/
theorem terr_dims {x y : Int} {zs : List Int} (h : terrB x y zs = true) : (1 ≤ x ∧ x ≤ 5) ∧ (1 ≤ y ∧ y ≤ 5) ∧ (zs.length : Int) = x * y ∧ (zs.length : Int) ≤ 25 := by
  simp only [terrB, Bool.and_eq_true, decide_eq_true_eq] at h
  obtain ⟨⟨⟨h1, h2⟩, h3⟩, _⟩ := h
  have h1 := inB_iff.1 h1
  have h2 := inB_iff.1 h2
  have := mul_bound (a := x) (b := y) (x := 5) (y := 5) (by omega) h1.2 (by omega) h2.2
  exact ⟨h1, h2, h3, by omega⟩
/-- The steps between two cells, at a width. -/
def apartN (x a b : Int) : Int := max (max (a % x - b % x) (b % x - a % x)) (max (a / x - b / x) (b / x - a / x))
theorem cell_bds {x c : Int} (h1 : 1 ≤ x) (h2 : x ≤ 5) (h3 : 0 ≤ c) (h4 : c ≤ 25) : (0 ≤ c % x ∧ c % x ≤ 4) ∧ 0 ≤ c / x ∧ c / x ≤ 25 :=
  ⟨⟨Int.emod_nonneg _ (by omega), by have := Int.emod_lt_of_pos c (show 0 < x by omega); omega⟩, Int.ediv_nonneg h3 (by omega), by have := Int.ediv_le_self x h3; omega⟩
theorem apartN_bd {x a b : Int} (h1 : 1 ≤ x) (h2 : x ≤ 5) (h3 : 0 ≤ a) (h4 : a ≤ 25) (h5 : 0 ≤ b) (h6 : b ≤ 25) : 0 ≤ apartN x a b ∧ apartN x a b ≤ 25 := by
  have := cell_bds h1 h2 h3 h4
  have := cell_bds h1 h2 h5 h6
  unfold apartN
  generalize a % x = p at *
  generalize b % x = q at *
  generalize a / x = r at *
  generalize b / x = s at *
  omega
end Go.Proofs.Ytnadeddkogapoaa
