/- The program's has and filter over numbers. Conditions: as each states. -/
import Derived.Test.YtabedcpibnnnhaaDoorSet2
import Derived.Test.YtabedcpibnnnhaaDoorSel
namespace Go.Proofs.YtabedcpibnnnhaaDoor
open Go.ChangeShapes Go.WideShapes Go.ChangeAt Go.RowKit Go.Deep
set_option linter.unusedVariables false
set_option linter.unusedSimpArgs false
set_option maxRecDepth 100000

theorem filt_yes {zs : List Int} {p : Int → Bool} {k : Nat} {z : Int} (h : zs[k]? = some z) (hp : p z = true) : (zs.take (k + 1)).filter p = (zs.take k).filter p ++ [z] := by
  obtain ⟨hk, rfl⟩ := List.getElem?_eq_some_iff.1 h
  rw [List.take_succ_eq_append_getElem hk, List.filter_append]; simp [hp]
theorem filt_no {zs : List Int} {p : Int → Bool} {k : Nat} {z : Int} (h : zs[k]? = some z) (hp : p z = false) : (zs.take (k + 1)).filter p = (zs.take k).filter p := by
  obtain ⟨hk, rfl⟩ := List.getElem?_eq_some_iff.1 h
  rw [List.take_succ_eq_append_getElem hk, List.filter_append]; simp [hp]
theorem filt_le (zs : List Int) (p : Int → Bool) (k : Nat) : ((zs.take k).filter p).length ≤ k := Nat.le_trans (List.length_filter_le _ _) (by simp; omega)
theorem own_add {B : Nat} {e : TypeId} {w1 : World} {v : Value} {xs ys : List Int} {x : Int} (hy : ys = xs ++ [x]) (h : w1.ownsRow B e 1 v (xs.length + 1) (ints xs ++ [.int .i64 x])) : w1.ownsRow B e 1 v ys.length (ints ys) := by
  rw [hy]; simpa using h
end Go.Proofs.YtabedcpibnnnhaaDoor
