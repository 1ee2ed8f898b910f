/- Contracts of the functions that size and copy slices of strings. Conditions: lengths up to 1048576. -/
import Derived.Test.YtabedcpibnnnhaaDoorStrs
namespace Go.Proofs.YtabedcpibnnnhaaDoor
open Go.ChangeShapes Go.WideShapes Go.ChangeAt Go.RowKit Go.Deep
set_option linter.unusedVariables false
set_option linter.unusedSimpArgs false
set_option maxRecDepth 100000

/-- The bytes of strings. -/
def ssum (ss : List ByteArray) : Nat := (ss.map ByteArray.size).sum
def sszN (ss : List ByteArray) : Nat := ss.length + ssum ss
theorem sszN_len (ss : List ByteArray) : ss.length ≤ sszN ss := by unfold sszN; omega
theorem ssum_succ {ss : List ByteArray} {k : Nat} {p : ByteArray} (h : ss[k]? = some p) : ssum (ss.take (k + 1)) = ssum (ss.take k) + p.size := by
  obtain ⟨hk, rfl⟩ := List.getElem?_eq_some_iff.1 h
  unfold ssum
  rw [List.take_succ_eq_append_getElem hk, List.map_append, List.sum_append]; simp
theorem ssum_take (ss : List ByteArray) (k : Nat) : ssum (ss.take k) ≤ ssum ss := by
  unfold ssum
  conv => rhs; rw [← List.take_append_drop k ss]
  rw [List.map_append, List.sum_append]; omega
theorem ssum_mem {ss : List ByteArray} {p : ByteArray} (h : p ∈ ss) : p.size ≤ ssum ss := by
  obtain ⟨k, hk, rfl⟩ := List.mem_iff_getElem.1 h
  have h1 := ssum_succ (List.getElem?_eq_getElem hk)
  have h2 := ssum_take ss (k + 1)
  omega
theorem info_str : (Tryd.prog.info? 9).map (fun i => (i.zero, i.size, i.bytes)) = some (some (.string ⟨#[]⟩), 1, 16) := by kernel_rfl
end Go.Proofs.YtabedcpibnnnhaaDoor
