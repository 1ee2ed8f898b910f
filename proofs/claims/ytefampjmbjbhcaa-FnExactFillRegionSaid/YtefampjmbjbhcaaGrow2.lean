/- GrowRegion in the reference. Conditions: none. -/
import Derived.Test.YtefampjmbjbhcaaGrow
namespace Go.Proofs.Ytefampjmbjbhcaa
open Go.ChangeShapes Go.WideShapes Go.ChangeAt Go.RowKit Go.Deep
set_option linter.unusedVariables false
set_option linter.unusedSimpArgs false
set_option maxRecDepth 100000

theorem TB.kept {w w' : World} {B : Nat} {x y : Int} {u : Value} {row : Option Nat} (h : TB w B x y u) (hg : w.grownBy w' row) (hne : some B ≠ row) : TB w' B x y u :=
  ⟨hg.cell h.1 hne, hg.cell h.2.1 hne, hg.cell h.2.2 hne⟩
theorem all_take {l : List Int} {p : Int → Bool} {i : Nat} {z : Int} (h : l[i]? = some z) : (l.take (i + 1)).all p = ((l.take i).all p && p z) := by
  obtain ⟨hk, rfl⟩ := List.getElem?_eq_some_iff.1 h
  rw [List.take_succ_eq_append_getElem hk, List.all_append]; simp
theorem any_take {l : List Int} {p : Int → Bool} {i : Nat} {z : Int} (h : l[i]? = some z) : (l.take (i + 1)).any p = ((l.take i).any p || p z) := by
  obtain ⟨hk, rfl⟩ := List.getElem?_eq_some_iff.1 h
  rw [List.take_succ_eq_append_getElem hk, List.any_append]; simp
theorem Rise.lenN {l : List Int} {N : Nat} (h : Rise l) (hb : ∀ z ∈ l, 0 ≤ z ∧ z ≤ (N : Int) - 1) : l.length ≤ N := by
  have := h.len (a := 0) (b := N) (by omega) (fun z hz => by have := hb z hz; omega)
  omega
theorem selN_in {p : Nat → Bool} {N : Nat} : ∀ z ∈ selN p N, 0 ≤ z ∧ z ≤ (N : Int) - 1 := by
  intro z hz
  obtain ⟨k, hk, _, rfl⟩ := selN_mem.1 hz
  omega
theorem puts_in {xs ys : List Int} {N : Nat} (hx : ∀ z ∈ xs, 0 ≤ z ∧ z ≤ (N : Int) - 1) (hy : ∀ z ∈ ys, 0 ≤ z ∧ z ≤ (N : Int) - 1) : ∀ z ∈ putsL xs ys, 0 ≤ z ∧ z ≤ (N : Int) - 1 := by
  intro z hz
  rcases mem_putsL.1 hz with h | h
  · exact hy z h
  · exact hx z h
/-- The region with the neighbors of its first cells. -/
def growL (x : Int) (N : Nat) (xs : List Int) (k : Nat) : List Int := putsL xs ((xs.take k).flatMap fun c => selN (nearP x c) N)
theorem growL_in {x : Int} {N : Nat} {xs : List Int} {k : Nat} (hx : ∀ z ∈ xs, 0 ≤ z ∧ z ≤ (N : Int) - 1) : ∀ z ∈ growL x N xs k, 0 ≤ z ∧ z ≤ (N : Int) - 1 := by
  refine puts_in hx fun z hz => ?_
  obtain ⟨c, _, h⟩ := List.mem_flatMap.1 hz
  exact selN_in z h
theorem growL_succ {x : Int} {N : Nat} {xs : List Int} {k : Nat} {z : Int} (h : xs[k]? = some z) : growL x N xs (k + 1) = putsL (growL x N xs k) (selN (nearP x z) N) := by
  obtain ⟨hk, rfl⟩ := List.getElem?_eq_some_iff.1 h
  unfold growL
  rw [List.take_succ_eq_append_getElem hk, List.flatMap_append, putsL_append]; simp
end Go.Proofs.Ytefampjmbjbhcaa
