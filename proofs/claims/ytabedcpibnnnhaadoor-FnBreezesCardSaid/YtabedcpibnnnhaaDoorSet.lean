/- Lists of numbers: whether one is in a list, whether a list rises. Conditions: as each states. -/
import Derived.Test.YtabedcpibnnnhaaDoorTerr
import Derived.Test.YtabedcpibnnnhaaDoorCell
namespace Go.Proofs.YtabedcpibnnnhaaDoor
open Go.ChangeShapes Go.WideShapes Go.ChangeAt Go.RowKit
set_option linter.unusedVariables false
set_option linter.unusedSimpArgs false
set_option maxRecDepth 100000

/-- A number is in a list. -/
def hasB (zs : List Int) (c : Int) : Bool := zs.any fun z => z == c
theorem hasB_yes {zs : List Int} {c : Int} {k : Nat} (h : zs[k]? = some c) : hasB zs c = true := by
  unfold hasB; rw [List.any_eq_true]; exact ⟨c, List.mem_of_getElem? h, by simp⟩
theorem hasB_no {zs : List Int} {c : Int} (h : ∀ (j : Nat) (z : Int), zs[j]? = some z → z ≠ c) : hasB zs c = false := by
  unfold hasB; rw [List.any_eq_false]
  intro z hz
  obtain ⟨j, hj, rfl⟩ := List.mem_iff_getElem.1 hz
  simpa using h j _ (List.getElem?_eq_getElem hj)
/-- One element of a list is greater than the one before it. -/
def upAt (zs : List Int) (i : Nat) : Bool := match i with | 0 => true | j + 1 => decide (zs.getD j 0 < zs.getD (j + 1) 0)
/-- A list rises. -/
def risB (zs : List Int) : Bool := (List.range zs.length).all (upAt zs)
theorem risB_no {zs : List Int} {i : Nat} (hi : i < zs.length) (h : upAt zs i = false) : risB zs = false := by
  unfold risB; rw [List.all_eq_false]; exact ⟨i, by simpa using hi, by simp [h]⟩
theorem risB_yes {zs : List Int} (h : ∀ i, i < zs.length → upAt zs i = true) : risB zs = true := by
  unfold risB; rw [List.all_eq_true]; intro i hi; exact h i (by simpa using hi)
/-- A list rises within bounds. -/
def setB (zs : List Int) (lo hi : Int) : Bool := (List.range zs.length).all fun i => inB (zs.getD i 0) lo hi && upAt zs i
theorem setB_no {zs : List Int} {lo hi : Int} {i : Nat} (hi' : i < zs.length) (h : (inB (zs.getD i 0) lo hi && upAt zs i) = false) : setB zs lo hi = false := by
  unfold setB; rw [List.all_eq_false]; exact ⟨i, by simpa using hi', by rw [h]; simp⟩
theorem setB_yes {zs : List Int} {lo hi : Int} (h : ∀ i, i < zs.length → (inB (zs.getD i 0) lo hi && upAt zs i) = true) : setB zs lo hi = true := by
  unfold setB; rw [List.all_eq_true]; intro i hi'; exact h i (by simpa using hi')
end Go.Proofs.YtabedcpibnnnhaaDoor
