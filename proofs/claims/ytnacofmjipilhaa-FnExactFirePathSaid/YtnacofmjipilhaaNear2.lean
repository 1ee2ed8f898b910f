/- NeighborsOf, in the program and in the reference. Conditions: none; each stands at any arguments. -/
import Derived.Test.YtnacofmjipilhaaNear
namespace Go.Proofs.Ytnacofmjipilhaa
open Go.ChangeShapes Go.WideShapes Go.ChangeAt Go.RowKit Go.Deep
set_option linter.unusedVariables false
set_option linter.unusedSimpArgs false
set_option maxRecDepth 100000

theorem cell_in' {x y : Int} {zs : List Int} {c : Int} (h : terrB x y zs = true) (hc : inB c 0 (zs.length - 1) = true) : 1 ≤ x ∧ x ≤ 5 ∧ 0 ≤ c ∧ c ≤ 25 ∧ (zs.length : Int) ≤ 25 := by
  obtain ⟨⟨x1, x2⟩, _, _, hn⟩ := terr_dims h
  obtain ⟨c1, c2⟩ := inB_iff.1 hc
  omega
end Go.Proofs.Ytnacofmjipilhaa
