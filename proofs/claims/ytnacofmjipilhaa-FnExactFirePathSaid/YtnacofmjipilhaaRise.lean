/- Lists of numbers that rise strictly; a number put to its place. Plain Lean. Conditions: none. -/
import Derived.Test.YtnacofmjipilhaaPure
namespace Go.Proofs.Ytnacofmjipilhaa
set_option linter.unusedVariables false
set_option linter.unusedSimpArgs false
/-- A list rises strictly. -/
def Rise (l : List Int) : Prop := l.Pairwise (· < ·)
theorem Rise.nil : Rise [] := List.Pairwise.nil
theorem Rise.ext : ∀ {a b : List Int}, Rise a → Rise b → (∀ x, x ∈ a ↔ x ∈ b) → a = b
  | [], [], _, _, _ => rfl
  | [], y :: ys, _, _, h => absurd ((h y).2 (by simp)) (by simp)
  | x :: xs, [], _, _, h => absurd ((h x).1 (by simp)) (by simp)
  | x :: xs, y :: ys, ha, hb, h => by
    obtain ⟨ha1, ha2⟩ := List.pairwise_cons.1 ha
    obtain ⟨hb1, hb2⟩ := List.pairwise_cons.1 hb
    have hxy : x = y := by
      have h1 := (h x).1 (by simp)
      have h2 := (h y).2 (by simp)
      rcases List.mem_cons.1 h1 with e | e
      · exact e
      · rcases List.mem_cons.1 h2 with e' | e'
        · exact e'.symm
        · have := hb1 x e; have := ha1 y e'; omega
    subst hxy
    rw [Rise.ext ha2 hb2 (fun z => ?_)]
    constructor
    · intro hz
      rcases List.mem_cons.1 ((h z).1 (List.mem_cons_of_mem _ hz)) with e | e
      · subst e; have := ha1 z hz; omega
      · exact e
    · intro hz
      rcases List.mem_cons.1 ((h z).2 (List.mem_cons_of_mem _ hz)) with e | e
      · subst e; have := hb1 z hz; omega
      · exact e
/-- A number put to its place, once. -/
def putL : List Int → Int → List Int
  | [], n => [n]
  | x :: l, n => if x < n then x :: putL l n else if x = n then x :: l else n :: x :: l
theorem mem_putL {l : List Int} {n z : Int} : z ∈ putL l n ↔ z = n ∨ z ∈ l := by
  induction l with
  | nil => simp [putL]
  | cons x l ih =>
    unfold putL
    split
    · simp only [List.mem_cons, ih]; exact ⟨fun h => by rcases h with h | h | h; exact .inr (.inl h); exact .inl h; exact .inr (.inr h), fun h => by rcases h with h | h | h; exact .inr (.inl h); exact .inl h; exact .inr (.inr h)⟩
    · split
      · rename_i h; subst h; simp only [List.mem_cons]; exact ⟨fun h => .inr h, fun h => by rcases h with h | h; exact .inl h; exact h⟩
      · simp only [List.mem_cons]
theorem Rise.put {l : List Int} (h : Rise l) (n : Int) : Rise (putL l n) := by
  induction l with
  | nil => exact List.pairwise_singleton _ _
  | cons x l ih =>
    obtain ⟨h1, h2⟩ := List.pairwise_cons.1 h
    unfold putL
    split
    · refine List.pairwise_cons.2 ⟨fun z hz => ?_, ih h2⟩
      rcases mem_putL.1 hz with e | e
      · omega
      · exact h1 z e
    · split
      · exact h
      · refine List.pairwise_cons.2 ⟨fun z hz => ?_, h⟩
        rcases List.mem_cons.1 hz with e | e
        · omega
        · have := h1 z e; omega
theorem putL_length (l : List Int) (n : Int) : (putL l n).length ≤ l.length + 1 := by
  induction l with
  | nil => simp [putL]
  | cons x l ih =>
    unfold putL
    split
    · simp only [List.length_cons]; omega
    · split <;> simp
theorem putL_at {l : List Int} {n : Int} {k : Nat} (hk : k ≤ l.length) (h : ∀ (j : Nat) (z : Int), j < k → l[j]? = some z → z < n) (hs : ∀ z, l[k]? = some z → n < z) : putL l n = l.take k ++ [n] ++ l.drop k := by
  induction l generalizing k with
  | nil => simp [putL]
  | cons x l ih =>
    cases k with
    | zero =>
      have := hs x rfl
      unfold putL
      rw [if_neg (by omega), if_neg (by omega)]; rfl
    | succ k =>
      have := h 0 x (Nat.succ_pos _) rfl
      unfold putL
      rw [if_pos this, ih (k := k) (by simpa using hk) (fun j z hj hz => h (j + 1) z (by omega) (by simpa using hz)) (fun z hz => hs z (by simpa using hz))]
      simp
theorem putL_in {l : List Int} {n : Int} {k : Nat} (h : ∀ (j : Nat) (z : Int), j < k → l[j]? = some z → z < n) (hs : l[k]? = some n) : putL l n = l := by
  induction l generalizing k with
  | nil => simp at hs
  | cons x l ih =>
    cases k with
    | zero =>
      have : x = n := by simpa using hs
      unfold putL
      rw [if_neg (by omega), if_pos this]
    | succ k =>
      have := h 0 x (Nat.succ_pos _) rfl
      unfold putL
      rw [if_pos this, ih (k := k) (fun j z hj hz => h (j + 1) z (by omega) (by simpa using hz)) (by simpa using hs)]
/-- Numbers put in, one after the other. -/
def putsL (l : List Int) (xs : List Int) : List Int := xs.foldl putL l
theorem mem_putsL {xs : List Int} : ∀ {l : List Int} {z : Int}, z ∈ putsL l xs ↔ z ∈ xs ∨ z ∈ l := by
  induction xs with
  | nil => intro l z; simp [putsL]
  | cons x xs ih =>
    intro l z
    have : putsL l (x :: xs) = putsL (putL l x) xs := rfl
    rw [this, ih, mem_putL, List.mem_cons]
    constructor
    · rintro (h | h | h)
      · exact .inl (.inr h)
      · exact .inl (.inl h)
      · exact .inr h
    · rintro ((h | h) | h)
      · exact .inr (.inl h)
      · exact .inl h
      · exact .inr (.inr h)
theorem Rise.puts {xs : List Int} : ∀ {l : List Int}, Rise l → Rise (putsL l xs) := by
  induction xs with
  | nil => intro l h; exact h
  | cons x xs ih => intro l h; exact ih (h.put x)
theorem putsL_length (xs : List Int) : ∀ l : List Int, (putsL l xs).length ≤ l.length + xs.length := by
  induction xs with
  | nil => intro l; simp [putsL]
  | cons x xs ih =>
    intro l
    have := ih (putL l x)
    have h1 := putL_length l x
    have e : putsL l (x :: xs) = putsL (putL l x) xs := rfl
    rw [e, List.length_cons]; omega
theorem putsL_take {xs : List Int} {k : Nat} {z : Int} (l : List Int) (h : xs[k]? = some z) : putsL l (xs.take (k + 1)) = putL (putsL l (xs.take k)) z := by
  obtain ⟨hk, rfl⟩ := List.getElem?_eq_some_iff.1 h
  unfold putsL
  rw [List.take_succ_eq_append_getElem hk, List.foldl_append]; rfl
/-- A rising list of numbers of a range is no longer than the range. -/
theorem Rise.len : ∀ {l : List Int} {a b : Int}, Rise l → a ≤ b → (∀ z ∈ l, a ≤ z ∧ z < b) → (l.length : Int) ≤ b - a
  | [], a, b, _, hab, _ => by simp; omega
  | x :: xs, a, b, h, hab, hb => by
    obtain ⟨h1, h2⟩ := List.pairwise_cons.1 h
    have hx := hb x (by simp)
    have := Rise.len (a := x + 1) (b := b) h2 (by omega) (fun z hz => ⟨by have := h1 z hz; omega, (hb z (List.mem_cons_of_mem _ hz)).2⟩)
    simp only [List.length_cons]; omega
theorem Rise.sub {l l' : List Int} (h : Rise l) (hs : l'.Sublist l) : Rise l' := h.sublist hs
theorem Rise.filter {l : List Int} (h : Rise l) (p : Int → Bool) : Rise (l.filter p) := h.sublist List.filter_sublist
end Go.Proofs.Ytnacofmjipilhaa
