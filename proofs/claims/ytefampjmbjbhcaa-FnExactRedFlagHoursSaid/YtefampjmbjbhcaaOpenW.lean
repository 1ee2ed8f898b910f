/- An argument that is a slice of weathers, opened. Conditions: none. -/
import Derived.Test.YtefampjmbjbhcaaOpen
import Derived.Test.YtefampjmbjbhcaaWeath
namespace Go.Proofs.Ytefampjmbjbhcaa
open Go.ChangeShapes Go.WideShapes Go.ChangeAt Go.RowKit Go.Deep
set_option linter.unusedVariables false
set_option linter.unusedSimpArgs false
set_option maxRecDepth 100000

section
variable {H : Type} {enc : TypeId × Value → H} {W : World} {base b0 : Nat} {v : Value} {d : DataW H} {ps : List MemPlace}
theorem trod_part {P : Program} {spare : Nat → Bool} {held : Bool} {t : TypeId} {fs : Array Field} {fuel : Nat} {cs l : List Value} {x : DataW H × List MemPlace} (hs : P.underlying t = some (.struct fs)) (h : DataW.trod enc P W base spare held fuel t cs = some x)
    (j : Nat) (f : Field) (hf : fs[j]? = some f) (k : Nat) (h1 : P.cellsOf f.type = k) (hl : (cs.drop f.offset).take k = l) : ∃ y n, DataW.trod enc P W base spare held n f.type l = some y := by
  obtain ⟨xs, n, _, _, _, hlen, hg⟩ := DataW.trod_struct hs h
  have hj : j < fs.size := (Array.getElem?_eq_some_iff.1 hf).1
  have g := hg j f hf
  have hx : xs[j]? = some (xs[j]'(by omega)) := List.getElem?_eq_getElem (by omega)
  rw [h1, hl, hx] at g
  exact ⟨_, _, g⟩
theorem cells_weather : Try.prog.cellsOf 117 = 4 := by kernel_rfl
theorem cells_wind : Try.prog.cellsOf 115 = 2 := by kernel_rfl
theorem cells_one : Try.prog.cellsOf 3 = 1 := by kernel_rfl
theorem open_weathers (hv : Value.okWide Try.prog W .any b0 47 v) (h : DataW.Trod enc Try.prog W base (fun _ => true) true 47 v d ps) :
    ∃ zs : List Wx, Sl W 4 v zs.length (wxs zs) := by
  obtain ⟨n, C, hs, hC⟩ := open_slk Try.underlying47 cells_weather hv h
  obtain ⟨zs, h1, h2, _⟩ := list_of (enc := encW) (p := fun _ => True) (C := C) n (fun i hi => by
    obtain ⟨hl, y, m, ht⟩ := hC i hi
    match C i, hl, ht with
    | [c0, c1, c2, c3], _, ht =>
      obtain ⟨_, _, g0⟩ := trod_part Try.underlying117 ht 0 _ rfl 2 cells_wind (l := [c0, c1]) rfl
      obtain ⟨_, _, g2⟩ := trod_one Try.underlying117 ht 1 _ rfl cells_one c2 rfl
      obtain ⟨_, _, g3⟩ := trod_one Try.underlying117 ht 2 _ rfl cells_one c3 rfl
      obtain ⟨_, _, k0⟩ := trod_one Try.underlying115 g0 0 _ rfl cells_one c0 rfl
      obtain ⟨_, _, k1⟩ := trod_one Try.underlying115 g0 1 _ rfl cells_one c1 rfl
      obtain ⟨a, e0, _⟩ := DataW.trod_int Try.underlying3 k0
      obtain ⟨b, e1, _⟩ := DataW.trod_int Try.underlying3 k1
      obtain ⟨c, e2, _⟩ := DataW.trod_int Try.underlying3 g2
      obtain ⟨e, e3, _⟩ := DataW.trod_int Try.underlying3 g3
      simp at e0 e1 e2 e3
      subst e0 e1 e2 e3
      exact ⟨⟨a, b, c, e⟩, rfl, trivial⟩)
  subst h1
  rw [h2] at hs
  exact ⟨zs, hs⟩
end
end Go.Proofs.Ytefampjmbjbhcaa
