/- An argument that is a slice of strings, opened. Conditions: none. -/
import Derived.Test.YtddnghfioghidaaOpen
import Derived.Test.YtddnghfioghidaaStrs
namespace Go.Proofs.Ytddnghfioghidaa
open Go.ChangeShapes Go.WideShapes Go.ChangeAt Go.RowKit Go.Deep
set_option linter.unusedVariables false
set_option linter.unusedSimpArgs false
set_option maxRecDepth 100000

theorem cells_str1 : Try.prog.cellsOf 9 = 1 := by kernel_rfl
section
variable {H : Type} {enc : TypeId × Value → H} {W : World} {base b0 : Nat} {v : Value} {d : DataW H} {ps : List MemPlace}
theorem open_ss (hv : Value.okWide Try.prog W .any b0 22 v) (h : DataW.Trod enc Try.prog W base (fun _ => true) true 22 v d ps) :
    ∃ zs : List ByteArray, Sl W 1 v zs.length (zs.map Value.string) ∧ ∀ z ∈ zs, z.size ≤ maxLen := by
  obtain ⟨n, C, hs, hC⟩ := open_slk Try.underlying22 cells_str1 hv h
  obtain ⟨zs, h1, h2, h3⟩ := list_of (enc := fun s : ByteArray => [Value.string s]) (p := fun x => x.size ≤ maxLen) (C := C) n (fun i hi => by
    obtain ⟨hl, y, m, ht⟩ := hC i hi
    match C i, hl, ht with
    | [c0], _, ht =>
      obtain ⟨s, e1, _, hs⟩ := DataW.trod_string Try.underlying9 ht
      simp at e1
      subst e1
      exact ⟨s, rfl, hs⟩)
  subst h1
  rw [h2, flatMap_one] at hs
  exact ⟨zs, hs, h3⟩
end
end Go.Proofs.Ytddnghfioghidaa
