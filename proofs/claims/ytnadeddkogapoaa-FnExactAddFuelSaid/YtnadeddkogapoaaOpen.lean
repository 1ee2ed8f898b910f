/- The arguments that are slices, opened: a slice of ints, of structs, a terrain. Conditions: none. -/
import Derived.Test.YtnadeddkogapoaaSlice
namespace Go.Proofs.Ytnadeddkogapoaa
open Go.ChangeShapes Go.WideShapes Go.ChangeAt Go.RowKit Go.Deep
set_option linter.unusedVariables false
set_option linter.unusedSimpArgs false
set_option maxRecDepth 100000

section
variable {H : Type} {enc : TypeId × Value → H} {P : Program} {W : World} {base b0 : Nat} {v : Value} {d : DataW H} {ps : List MemPlace} {held : Bool}

theorem add_lit' (b off : Nat) (i : Nat) : (⟨b, off, none⟩ : Addr).add i = ⟨b, off + i, none⟩ := by
  unfold Addr.add; split <;> simp_all

/-- A slice of whatever elements, opened: each element's cells with their reading. -/
theorem open_slc {t e : TypeId} {k : Nat} (ht : P.underlying t = some (.slice e)) (hk : P.cellsOf e = k) {fuel : Nat} {x : DataW H × List MemPlace} (hf : DataW.trod enc P W base (fun _ => true) held fuel t [v] = some x) :
    ∃ (n : Nat) (C : Nat → List Value), Sl W k v n ((List.range n).flatMap C) ∧ ∀ i, i < n → (C i).length = k ∧ ∃ y m, DataW.trod enc P W base (fun _ => true) held m e (C i) = some y := by
  rcases open_slice ht hf with ⟨hcs, _⟩ | ⟨a, len, cap, m, n, D, Pl, hcs, _, hl, hm, hmm, _, hx⟩
  · simp at hcs
    subst hcs
    exact ⟨0, fun _ => [], ⟨none, 0, rfl, Nat.le_refl _, by unfold maxLen; omega, by simp, by simp⟩, fun i hi => by omega⟩
  · simp at hcs
    subst hcs
    simp only [if_true] at hmm
    subst hmm
    rw [hk] at hx
    have hC : ∃ C : Nat → List Value, ∀ i, i < len → W.cells? base (a.add (i * k)) k = some (C i) ∧ ∃ y m, DataW.trod enc P W base (fun _ => true) held m e (C i) = some y := by
      refine ⟨fun i => (W.cells? base (a.add (i * k)) k).getD [], fun i hi => ?_⟩
      obtain ⟨cs', h1, h2⟩ := hx i (by omega)
      simp only [h1, Option.getD_some]
      exact ⟨trivial, _, _, h2⟩
    obtain ⟨C, hC⟩ := hC
    have hlen : ∀ i, i < len → (C i).length = k := fun i hi => (World.cells?_some (hC i hi).1).2.1
    refine ⟨_, C, ⟨some a, _, rfl, hl, hm, ?_, fun hp => ?_⟩, fun i hi => ⟨hlen i hi, (hC i hi).2⟩⟩
    · have : ∀ (l : List Nat), (∀ i ∈ l, (C i).length = k) → (l.flatMap C).length = l.length * k := by
        intro l
        induction l with
        | nil => intro _; simp
        | cons x xs ih => intro hh; rw [List.flatMap_cons, List.length_append, ih (fun i hi => hh i (by simp [hi])), hh x (by simp), List.length_cons, Nat.succ_mul]; omega
      rw [this _ (fun i hi => hlen i (by simpa using hi)), List.length_range]
    · have hlp : 0 < len := by
        rcases Nat.eq_zero_or_pos len with h0 | h0
        · subst h0; simp at hp
        · exact h0
      have hkp : 0 < k := by
        rcases Nat.eq_zero_or_pos k with h0 | h0
        · exfalso
          have : (List.range len).flatMap C = [] := by
            rw [List.flatMap_eq_nil_iff]
            intro i hi
            exact List.eq_nil_of_length_eq_zero (by rw [hlen i (by simpa using hi), h0])
          rw [this] at hp; simp at hp
        · exact h0
      have h00 := (World.cells?_some (hC 0 hlp).1).2.2 0 hkp
      have hspot : a.spot = none := by
        have hz : (a.add (0 * k)).add 0 = a := by simp [Addr.add]
        rw [hz] at h00
        have hl0 := hlen 0 hlp
        rw [List.getElem?_eq_getElem (by omega)] at h00
        unfold World.cell? at h00
        split at h00
        · split at h00
          · cases h00
          · rename_i hs; simpa using hs
        · cases h00
      obtain ⟨b, off, sp⟩ := a
      simp only at hspot
      subst hspot
      refine ⟨b, off, rfl, fun j u hu => ?_⟩
      -- the j-th cell lies in element j / k at place j % k
      have key : ∀ n, n ≤ len → ∀ j u, ((List.range n).flatMap C)[j]? = some u → W.cell? ⟨b, off + j, none⟩ = some u := by
        intro n
        induction n with
        | zero => intro _ j u hu; simp at hu
        | succ n ih =>
          intro hn j u hu
          rw [List.range_succ, List.flatMap_append] at hu
          have hl' : ((List.range n).flatMap C).length = n * k := by
            have : ∀ (l : List Nat), (∀ i ∈ l, (C i).length = k) → (l.flatMap C).length = l.length * k := by
              intro l
              induction l with
              | nil => intro _; simp
              | cons x xs ih => intro hh; rw [List.flatMap_cons, List.length_append, ih (fun i hi => hh i (by simp [hi])), hh x (by simp), List.length_cons, Nat.succ_mul]; omega
            rw [this _ (fun i hi => hlen i (by have := List.mem_range.1 hi; omega)), List.length_range]
          rcases Nat.lt_or_ge j (n * k) with hj | hj
          · rw [List.getElem?_append_left (by omega)] at hu
            exact ih (by omega) j u hu
          · rw [List.getElem?_append_right (by omega), hl'] at hu
            simp only [List.flatMap_cons, List.flatMap_nil, List.append_nil] at hu
            obtain ⟨_, _, hat⟩ := World.cells?_some (hC n (by omega)).1
            have hjk : j - n * k < k := by have h1 := (List.getElem?_eq_some_iff.1 hu).1; have h2 := hlen n (by omega); omega
            have := hat (j - n * k) hjk
            rw [hu, add_lit', add_lit'] at this
            rwa [show off + n * k + (j - n * k) = off + j by omega] at this
      exact key len (Nat.le_refl _) j u hu

theorem open_slk {t e : TypeId} {k : Nat} (ht : P.underlying t = some (.slice e)) (hk : P.cellsOf e = k) (hv : Value.okWide P W .any b0 t v) (h : DataW.Trod enc P W base (fun _ => true) held t v d ps) :
    ∃ (n : Nat) (C : Nat → List Value), Sl W k v n ((List.range n).flatMap C) ∧ ∀ i, i < n → (C i).length = k ∧ ∃ y m, DataW.trod enc P W base (fun _ => true) held m e (C i) = some y := by
  obtain ⟨a0, len, cap, rfl⟩ := okWide_slice ht hv
  obtain ⟨fuel, hf⟩ := h
  exact open_slc ht hk (by simpa [Value.cells] using hf)

/-- Elements read one by one are a list. -/
theorem list_of {α : Type} {enc : α → List Value} {p : α → Prop} {C : Nat → List Value} : ∀ n, (∀ i, i < n → ∃ x, C i = enc x ∧ p x) → ∃ xs : List α, xs.length = n ∧ (List.range n).flatMap C = xs.flatMap enc ∧ ∀ x ∈ xs, p x
  | 0, _ => ⟨[], rfl, rfl, by simp⟩
  | n + 1, h => by
    obtain ⟨xs, h1, h2, h3⟩ := list_of n (fun i hi => h i (by omega))
    obtain ⟨x, hx, hp⟩ := h n (by omega)
    refine ⟨xs ++ [x], by simp [h1], ?_, ?_⟩
    · rw [List.range_succ, List.flatMap_append, h2, List.flatMap_append]
      simp [hx]
    · intro y hy
      rcases List.mem_append.1 hy with hy | hy
      · exact h3 y hy
      · rw [List.mem_singleton.1 hy]; exact hp
theorem flatMap_one {α : Type} (f : α → Value) (xs : List α) : xs.flatMap (fun x => [f x]) = xs.map f := by
  induction xs with
  | nil => rfl
  | cons x xs ih => rw [List.flatMap_cons, ih]; rfl

end
end Go.Proofs.Ytnadeddkogapoaa
