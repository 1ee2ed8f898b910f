/- Slices in memory: a slice value that reads as a list of cells; rows that a call owns; no program in sight. Conditions: none. -/
import Derived.Test.YtnadeddkogapoaaBase
import Derived.Test.YtnadeddkogapoaaPure
import Derived.OwnWalk
namespace Go.Proofs.Ytnadeddkogapoaa
open Go.RowKit
set_option linter.unusedVariables false
set_option linter.unusedSimpArgs false
set_option maxRecDepth 100000

/-- A slice value of n elements of k cells each; its cells lie in memory. -/
def Sl (w : World) (k : Nat) (v : Value) (n : Nat) (cs : List Value) : Prop :=
  ∃ A c, v = .slice A n c ∧ n ≤ c ∧ c ≤ maxLen ∧ cs.length = n * k ∧ (0 < cs.length → ∃ b off, A = some ⟨b, off, none⟩ ∧ ∀ j u, cs[j]? = some u → w.cell? ⟨b, off + j, none⟩ = some u)

section
variable {w w' : World} {k n : Nat} {v : Value} {cs : List Value} {base : Nat} {e : TypeId}

theorem Sl.below (h : Sl w k v n cs) (hb : Below w.heap.size w w') : Sl w' k v n cs := by
  obtain ⟨A, c, rfl, h1, h2, h3, h4⟩ := h
  refine ⟨A, c, rfl, h1, h2, h3, fun hp => ?_⟩
  obtain ⟨b, off, e, hc⟩ := h4 hp
  refine ⟨b, off, e, fun j u hu => ?_⟩
  have hcell := hc j u hu
  rw [hb.cell (World.block_lt_of_cell? w _ hcell)]
  exact hcell

/-- What lies is kept where a block of the caller's own is written that is not this one. -/
theorem Sl.kept {row : Option Nat} (h : Sl w k v n cs) (hg : w.grownBy w' row) (hne : v.ownBlock = none ∨ v.ownBlock ≠ row) : Sl w' k v n cs := by
  obtain ⟨A, c, rfl, h1, h2, h3, h4⟩ := h
  refine ⟨A, c, rfl, h1, h2, h3, fun hp => ?_⟩
  obtain ⟨b, off, rfl, hc⟩ := h4 hp
  refine ⟨b, off, rfl, fun j u hu => ?_⟩
  exact hg.cell (hc j u hu) (by rcases hne with h | h <;> simp_all [Value.ownBlock])

theorem Sl.of_own (h : w.ownsRow base e k v n cs) : Sl w k v n cs := by
  have hl := h.1
  rcases h.2 with ⟨rfl, rfl⟩ | ⟨g, cap, cur, rfl, _, hg, hn, hm, hs, ht⟩
  · exact ⟨none, 0, rfl, Nat.le_refl _, by unfold maxLen; omega, hl, fun hp => by omega⟩
  · refine ⟨_, cap, rfl, hn, hm, hl, fun _ => ⟨g, 0, rfl, fun j u hu => ?_⟩⟩
    rw [cell_of_row w g (0 + j) cur e (0, 0) hg, Nat.zero_add]
    rw [← ht, List.getElem?_take] at hu
    split at hu
    · simpa using hu
    · cases hu

theorem own_below (h : w.ownsRow base e k v n cs) (hb : Below w.heap.size w w') : w'.ownsRow base e k v n cs := by
  refine ⟨h.1, ?_⟩
  rcases h.2 with hn | ⟨g, cap, cur, rfl, hb', hg, rest⟩
  · exact .inl hn
  · refine .inr ⟨g, cap, cur, rfl, hb', ?_, rest⟩
    rw [hb.block g (Array.getElem?_eq_some_iff.1 hg).1]
    exact hg

theorem own_base (h : w.ownsRow base e k v n cs) {base' : Nat} (hb : base' ≤ base) : w.ownsRow base' e k v n cs := by
  refine ⟨h.1, ?_⟩
  rcases h.2 with hn | ⟨g, cap, cur, rfl, hb', rest⟩
  · exact .inl hn
  · exact .inr ⟨g, cap, cur, rfl, Nat.le_trans hb hb', rest⟩

theorem own_nil (w : World) (base : Nat) (e : TypeId) (k : Nat) : w.ownsRow base e k (.slice none 0 0) 0 [] := World.ownsRow_nil w base e k

/-- An element of k cells, read at its place. -/
theorem Sl.at_ {α : Type} {enc : α → List Value} {m : Nat} (hm : ∀ x, (enc x).length = m) {xs : List α} {A : Option Addr} {c : Nat} (h : Sl w m (.slice A n c) n (xs.flatMap enc)) (hn : xs.length = n) (h0 : 0 < m) {i : Nat} (hi : i < n) :
    ∃ b off x, A = some ⟨b, off, none⟩ ∧ xs[i]? = some x ∧ ∀ j u, (enc x)[j]? = some u → w.cell? ⟨b, off + i * m + j, none⟩ = some u := by
  obtain ⟨A', c', he, _, _, hl, hc⟩ := h
  injection he with e1 _ e2
  subst e1 e2
  have hpos : 0 < (xs.flatMap enc).length := by rw [hl]; exact Nat.mul_pos (by omega) h0
  obtain ⟨b, off, rfl, hcell⟩ := hc hpos
  have hx : xs[i]? = some (xs[i]'(by omega)) := List.getElem?_eq_getElem (by omega)
  refine ⟨b, off, _, rfl, hx, fun j u hu => ?_⟩
  have key : ∀ (xs : List α) (i : Nat) (x : α), xs[i]? = some x → ∀ j u, (enc x)[j]? = some u → (xs.flatMap enc)[i * m + j]? = some u := by
    intro xs
    induction xs with
    | nil => intro i x hx; simp at hx
    | cons y ys ih =>
      intro i x hx j u hu
      rw [List.flatMap_cons]
      cases i with
      | zero =>
        simp only [List.getElem?_cons_zero, Option.some.injEq] at hx
        subst hx
        rw [Nat.zero_mul, Nat.zero_add, List.getElem?_append_left (List.getElem?_eq_some_iff.1 hu).1]
        exact hu
      | succ i =>
        simp only [List.getElem?_cons_succ] at hx
        have e : (i + 1) * m + j = (enc y).length + (i * m + j) := by rw [hm, Nat.succ_mul]; omega
        rw [e, List.getElem?_append_right (by omega), Nat.add_sub_cancel_left]
        exact ih i x hx j u hu
  have := hcell _ _ (key xs i _ hx j u hu)
  rwa [← Nat.add_assoc] at this

/-- An element of one cell. -/
theorem Sl.at1 {α : Type} {f : α → Value} {xs : List α} {A : Option Addr} {c : Nat} (h : Sl w 1 (.slice A n c) n (xs.map f)) (hn : xs.length = n) {i : Nat} (hi : i < n) :
    ∃ b off x, A = some ⟨b, off, none⟩ ∧ xs[i]? = some x ∧ w.cell? ⟨b, off + i, none⟩ = some (f x) := by
  obtain ⟨A', c', he, _, _, hl, hc⟩ := h
  injection he with e1 _ e2
  subst e1 e2
  have hx : xs[i]? = some (xs[i]'(by omega)) := List.getElem?_eq_getElem (by omega)
  obtain ⟨b, off, rfl, hcell⟩ := hc (by simp; omega)
  exact ⟨b, off, _, rfl, hx, hcell i _ (by simp [hx])⟩

theorem flat_at {α : Type} {enc : α → List Value} {m : Nat} (hm : ∀ x, (enc x).length = m) {xs : List α} {i : Nat} {x : α} (hx : xs[i]? = some x) (j : Nat) (u : Value) (hu : (enc x)[j]? = some u) : (xs.flatMap enc)[i * m + j]? = some u := by
  have key : ∀ (xs : List α) (i : Nat) (x : α), xs[i]? = some x → ∀ j u, (enc x)[j]? = some u → (xs.flatMap enc)[i * m + j]? = some u := by
    intro xs
    induction xs with
    | nil => intro i x hx; simp at hx
    | cons y ys ih =>
      intro i x hx j u hu
      rw [List.flatMap_cons]
      cases i with
      | zero =>
        simp only [List.getElem?_cons_zero, Option.some.injEq] at hx
        subst hx
        rw [Nat.zero_mul, Nat.zero_add, List.getElem?_append_left (List.getElem?_eq_some_iff.1 hu).1]
        exact hu
      | succ i =>
        simp only [List.getElem?_cons_succ] at hx
        have e : (i + 1) * m + j = (enc y).length + (i * m + j) := by rw [hm, Nat.succ_mul]; omega
        rw [e, List.getElem?_append_right (by omega), Nat.add_sub_cancel_left]
        exact ih i x hx j u hu
  exact key xs i x hx j u hu
theorem flat_length {α : Type} {enc : α → List Value} {m : Nat} (hm : ∀ x, (enc x).length = m) (xs : List α) : (xs.flatMap enc).length = xs.length * m := by
  induction xs with
  | nil => simp
  | cons x xs ih => rw [List.flatMap_cons, List.length_append, ih, hm, List.length_cons, Nat.succ_mul]; omega
theorem Sl.len (h : Sl w k v n cs) : n ≤ maxLen := by
  obtain ⟨_, _, _, h1, h2, _⟩ := h; omega
theorem Sl.val (h : Sl w k v n cs) : ∃ A c, v = .slice A n c := by
  obtain ⟨A, c, h, _⟩ := h; exact ⟨A, c, h⟩
end

theorem grownBy_trans {w w1 w2 : World} {r : Option Nat} (h : w.grownBy w1 r) (k : w1.grownBy w2 r) : w.grownBy w2 r :=
  ⟨k.os.trans h.os, k.tape.trans h.tape, k.output.trans h.output, Nat.le_trans h.size k.size, fun i hi hr => (k.block i (Nat.lt_of_lt_of_le hi h.size) hr).trans (h.block i hi hr)⟩
theorem grownBy_of_below {w w' : World} {r : Option Nat} (h : Below w.heap.size w w') : w.grownBy w' r := ⟨h.os, h.tape, h.output, h.size, fun i hi _ => h.block i hi⟩
/-- What an owned row is where it holds something. -/
theorem own_form {w : World} {base k n : Nat} {e : TypeId} {v : Value} {cs : List Value} (h : w.ownsRow base e k v n cs) : ∃ A c, v = .slice A n c ∧ (0 < n → ∃ g, A = some ⟨g, 0, none⟩ ∧ base ≤ g ∧ g < w.heap.size) := by
  rcases h.2 with ⟨rfl, rfl⟩ | ⟨g, cap, cur, rfl, hb, hg, _⟩
  · exact ⟨none, 0, rfl, fun h => by omega⟩
  · exact ⟨_, cap, rfl, fun _ => ⟨g, rfl, hb, (Array.getElem?_eq_some_iff.1 hg).1⟩⟩

/-! ### a row filled from the front -/
theorem prefix_set {cs fl : List Value} {k : Nat} {u : Value} (hp : ∀ j, j < k → cs[j]? = fl[j]?) (hk : k < cs.length) (hu : fl[k]? = some u) : ∀ j, j < k + 1 → (cs.set k u)[j]? = fl[j]? := by
  intro j hj
  rw [List.getElem?_set]
  split
  · rename_i e; subst e; first | rw [if_pos hk, hu] | rw [hu]
  · exact hp j (by omega)
theorem prefix_all {cs fl : List Value} {n : Nat} (hp : ∀ j, j < n → cs[j]? = fl[j]?) (h1 : cs.length = n) (h2 : fl.length = n) : cs = fl := by
  apply List.ext_getElem?
  intro j
  rcases Nat.lt_or_ge j n with h | h
  · exact hp j h
  · rw [List.getElem?_eq_none (by omega), List.getElem?_eq_none (by omega)]
end Go.Proofs.Ytnadeddkogapoaa
