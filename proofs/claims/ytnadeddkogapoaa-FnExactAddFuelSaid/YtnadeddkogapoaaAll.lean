/- Contracts of slices.IndexFunc, slices.ContainsFunc and the program's all at ints, at whatever function value that answers by a plain predicate and leaves what was there. Conditions: as each states. -/
import Derived.Test.YtnadeddkogapoaaSlice
import Derived.Shelf.Abstract
namespace Go.Proofs.Ytnadeddkogapoaa
open Go.ChangeShapes Go.WideShapes Go.ChangeAt Go.RowKit
set_option linter.unusedVariables false
set_option linter.unusedSimpArgs false
set_option maxRecDepth 100000

/-- What is asked of a predicate's function value: at every later world and every element it answers by p and leaves what was there. -/
def Pays {α : Type} (enc : α → Value) (g : Nat) (lb : Array Value) (p : α → Bool) (w : World) : Prop :=
  ∀ (W : World) (x : α), Below w.heap.size w W → Calls Try.prog g (#[enc x] ++ lb) W fun e w' => e = .returned (.bool (p x)) ∧ Below W.heap.size W w'
theorem Pays.later {α : Type} {enc : α → Value} {g : Nat} {lb : Array Value} {p : α → Bool} {w w1 : World} (h : Pays enc g lb p w) (hb : Below w.heap.size w w1) : Pays enc g lb p w1 :=
  fun W x hW => h W x (grow_trans hb hW)
/-- The first index at which a predicate holds, or -1. -/
def idxOf {α : Type} (p : α → Bool) (xs : List α) : Int := match xs.findIdx? p with | some i => i | none => -1
theorem idxOf_any {α : Type} (p : α → Bool) (xs : List α) : decide (0 ≤ idxOf p xs) = xs.any p := by
  unfold idxOf
  cases h : xs.findIdx? p with
  | none =>
    rw [List.findIdx?_eq_none_iff] at h
    have : xs.any p = false := by rw [List.any_eq_false]; intro x hx; simp [h x hx]
    rw [this]; decide
  | some i =>
    obtain ⟨hi, hp, _⟩ := List.findIdx?_eq_some_iff_getElem.1 h
    have : xs.any p = true := by rw [List.any_eq_true]; exact ⟨_, List.getElem_mem hi, hp⟩
    rw [this]; simp
theorem idxOf_hit {α : Type} {p : α → Bool} {xs : List α} {k : Nat} {x : α} (hx : xs[k]? = some x) (hp : p x = true) (hn : ∀ (j : Nat) (y : α), j < k → xs[j]? = some y → p y = false) : idxOf p xs = k := by
  have : xs.findIdx? p = some k := by
    obtain ⟨hk, rfl⟩ := List.getElem?_eq_some_iff.1 hx
    exact List.findIdx?_eq_some_iff_getElem.2 ⟨hk, hp, fun j hj => by simp [hn j _ hj (List.getElem?_eq_getElem (by omega))]⟩
  simp [idxOf, this]
theorem idxOf_miss {α : Type} {p : α → Bool} {xs : List α} (hn : ∀ (j : Nat) (y : α), xs[j]? = some y → p y = false) : idxOf p xs = -1 := by
  have : xs.findIdx? p = none := by
    rw [List.findIdx?_eq_none_iff]
    intro x hx
    obtain ⟨j, hj, rfl⟩ := List.mem_iff_getElem.1 hx
    exact hn j _ (List.getElem?_eq_getElem hj)
  simp [idxOf, this]

end Go.Proofs.Ytnadeddkogapoaa
