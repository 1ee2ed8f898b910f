/- An argument that is a slice of fuels, opened. Conditions: none. -/
import Derived.Test.YtnadeddkogapoaaOpen
import Derived.Test.YtnadeddkogapoaaFus
namespace Go.Proofs.Ytnadeddkogapoaa
open Go.ChangeShapes Go.WideShapes Go.ChangeAt Go.RowKit Go.Deep
set_option linter.unusedVariables false
set_option linter.unusedSimpArgs false
set_option maxRecDepth 100000

section
variable {H : Type} {enc : TypeId × Value → H} {W : World} {base b0 : Nat} {v : Value} {d : DataW H} {ps : List MemPlace}
theorem open_fuels (hv : Value.okWide Try.prog W .any b0 22 v) (h : DataW.Trod enc Try.prog W base (fun _ => true) true 22 v d ps) :
    ∃ zs : List Fu, Sl W 5 v zs.length (fus zs) ∧ ∀ z ∈ zs, z.n.size ≤ maxLen := by
  obtain ⟨n, C, hs, hC⟩ := open_slk Try.underlying22 cells_fuel hv h
  obtain ⟨zs, h1, h2, h3⟩ := list_of (enc := encU) (p := fun x => x.n.size ≤ maxLen) (C := C) n (fun i hi => by
    obtain ⟨hl, y, m, ht⟩ := hC i hi
    match C i, hl, ht with
    | [c0, c1, c2, c3, c4], _, ht =>
      obtain ⟨_, _, k0⟩ := trod_one Try.underlying24 ht 0 _ rfl cells_int c0 rfl
      obtain ⟨_, _, k1⟩ := trod_one Try.underlying24 ht 1 _ rfl cells_string c1 rfl
      obtain ⟨_, _, k2⟩ := trod_one Try.underlying24 ht 2 _ rfl cells_int c2 rfl
      obtain ⟨_, _, k3⟩ := trod_one Try.underlying24 ht 3 _ rfl cells_int c3 rfl
      obtain ⟨_, _, k4⟩ := trod_one Try.underlying24 ht 4 _ rfl cells_int c4 rfl
      obtain ⟨a, e0, _⟩ := DataW.trod_int Try.underlying3 k0
      obtain ⟨s, e1, _, hs⟩ := DataW.trod_string Try.underlying9 k1
      obtain ⟨b, e2, _⟩ := DataW.trod_int Try.underlying3 k2
      obtain ⟨c, e3, _⟩ := DataW.trod_int Try.underlying3 k3
      obtain ⟨e, e4, _⟩ := DataW.trod_int Try.underlying3 k4
      simp at e0 e1 e2 e3 e4
      subst e0 e1 e2 e3 e4
      exact ⟨⟨a, s, b, c, e⟩, rfl, hs⟩)
  subst h1
  rw [h2] at hs
  exact ⟨zs, hs, h3⟩
end
end Go.Proofs.Ytnadeddkogapoaa
