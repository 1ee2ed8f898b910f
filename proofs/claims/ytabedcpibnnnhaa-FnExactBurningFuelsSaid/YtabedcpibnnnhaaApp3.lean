/- Heads and tails of slices whose elements have several cells; a slice of one element just made. Conditions: as each states. -/
import Derived.Test.YtabedcpibnnnhaaQueue
import Derived.Deep.RegionHeldLaw
namespace Go.Proofs.Ytabedcpibnnnhaa
open Go.ChangeShapes Go.WideShapes Go.ChangeAt Go.RowKit Go.Deep
set_option linter.unusedVariables false
set_option linter.unusedSimpArgs false
set_option maxRecDepth 100000

theorem Sl.cutK {w : World} {K k n : Nat} {A : Option Addr} {c : Nat} {xs : List Value} (h : Sl w K (.slice A n c) n xs) (hk : k ≤ n) : Sl w K (.slice A k c) k (xs.take (k * K)) := by
  obtain ⟨A', c', e, h1, h2, h3, h4⟩ := h
  injection e with e1 _ e2
  subst e1 e2
  have hle : k * K ≤ n * K := Nat.mul_le_mul_right _ hk
  refine ⟨A, c, rfl, by omega, h2, by rw [List.length_take]; omega, fun hp => ?_⟩
  rw [List.length_take] at hp
  obtain ⟨b, off, rfl, hc⟩ := h4 (by omega)
  refine ⟨b, off, rfl, fun j u hu => ?_⟩
  rw [List.getElem?_take] at hu
  split at hu
  · exact hc j u hu
  · cases hu
theorem Sl.fromK {w : World} {K k n : Nat} {A : Option Addr} {c : Nat} {xs : List Value} (h : Sl w K (.slice A n c) n xs) (hk : k ≤ n) : Sl w K (.slice (if c = k then A else A.map (·.add (k * K))) (n - k) (c - k)) (n - k) (xs.drop (k * K)) := by
  obtain ⟨A', c', e, h1, h2, h3, h4⟩ := h
  injection e with e1 _ e2
  subst e1 e2
  refine ⟨_, _, rfl, by omega, by omega, by rw [List.length_drop, h3, ← Nat.sub_mul], fun hp => ?_⟩
  rw [List.length_drop] at hp
  obtain ⟨b, off, rfl, hc⟩ := h4 (by omega)
  by_cases e : c = k
  · exfalso
    have : n = k := by omega
    subst this
    omega
  · refine ⟨b, off + k * K, by simp [e, Addr.add_lit], fun j u hu => ?_⟩
    rw [List.getElem?_drop] at hu
    rw [Nat.add_assoc]
    exact hc _ u hu
theorem lit_one (w : World) (t : TypeId) (vs : List Value) (hv : vs.length ≤ 100) : Sl (w.alloc (.cells vs.toArray t)) vs.length (.slice (some ⟨w.heap.size, 0, none⟩) 1 1) 1 vs :=
  Sl.of_own (base := 0) (by
    have := World.ownsRow_lit (base := 0) (e := t) (size := vs.length) w vs.toArray 1 (Nat.zero_le _) (by unfold maxLen; omega) (by simp)
    simpa using this)
theorem Qw.emptyK {W : World} {g base K : Nat} {e : TypeId} (h : W.heap[g]? = some (.cells #[] e (0, 0))) (hb : base ≤ g) : Qw W base e K (.slice (some ⟨g, 0, none⟩) 0 0) 0 [] :=
  ⟨by simp, .inr ⟨g, 0, 0, #[], rfl, hb, h, Nat.le_refl _, by unfold maxLen; omega, by simp, by simp⟩⟩
end Go.Proofs.Ytabedcpibnnnhaa
