/- Joining the parts of a text gives the text back: plain law. Conditions: as each states. -/
import Derived.Test.YtddnghfioghidaaDoorSplR
import Derived.Test.YtddnghfioghidaaDoorJoinS
import Derived.Test.YtddnghfioghidaaDoorWords
namespace Go.Proofs.YtddnghfioghidaaDoor
open Go.ChangeShapes Go.WideShapes Go.ChangeAt Go.RowKit Go.Deep
set_option linter.unusedVariables false
set_option linter.unusedSimpArgs false
set_option maxRecDepth 100000

theorem spL_mem {c : UInt8} : ∀ {l : List UInt8} {p : List UInt8}, p ∈ spL c l → c ∉ p
  | [], p, h => by simp [spL] at h; subst h; simp
  | b :: l, p, h => by
    unfold spL at h
    split at h
    · rcases List.mem_cons.1 h with rfl | h
      · simp
      · exact spL_mem h
    · rename_i hb
      split at h
      · rename_i e; exact absurd e (spL_ne c l)
      · rename_i x t e
        rcases List.mem_cons.1 h with rfl | h
        · have := spL_mem (c := c) (l := l) (p := x) (by rw [e]; simp)
          simp only [List.mem_cons, not_or]
          exact ⟨fun e => hb e.symm, this⟩
        · exact spL_mem (c := c) (l := l) (by rw [e]; simp [h])
theorem join_spL (c : UInt8) : ∀ l : List UInt8, Lib.join (spL c l) [c] = l
  | [] => by simp [spL, Lib.join_one]
  | b :: l => by
    have ih := join_spL c l
    unfold spL
    split
    · rename_i hb
      subst hb
      cases e : spL b l with
      | nil => exact absurd e (spL_ne b l)
      | cons x t =>
        rw [e] at ih
        rw [Lib.join_cons] at ih ⊢
        simp only [Lib.joinTail, List.map_cons, List.flatten_cons, List.nil_append] at ih ⊢
        rw [← ih]; simp
    · cases e : spL c l with
      | nil => exact absurd e (spL_ne c l)
      | cons x t =>
        rw [e] at ih
        simp only
        rw [Lib.join_cons] at ih ⊢
        rw [← ih]; simp
theorem split_free {s : ByteArray} {c : UInt8} {k : Nat} {x : ByteArray} (h : (splitS s c)[k]? = some x) : hasC x c = false := by
  have h2 : ((splitS s c).map (·.data.toList))[k]? = some x.data.toList := by rw [List.getElem?_map, h]; rfl
  rw [splitS_spL] at h2
  have := spL_mem (List.mem_of_getElem? h2)
  unfold hasC
  simpa using this
theorem join_split (s : ByteArray) (c : UInt8) : jnS c (splitS s c) (splitS s c).length = s := by
  unfold jnS
  rw [List.take_length, splitS_spL, join_spL, bs_data]
theorem joR_split {s : ByteArray} {c : UInt8} (h : s.size ≤ 4000) : joR (splitS s c) ⟨#[c]⟩ = .tuple #[.string s, .bool true] := by
  rw [joR_one, jnB_yes (split_ne s c) (fun j x hx => split_free hx) (by rw [join_split]; exact h), join_split]; rfl
theorem split_ssz {s : ByteArray} {c : UInt8} (h : s.size ≤ 4000) : sszN (splitS s c) ≤ 1048576 := by
  have h1 := jn_size (c := c) (ss := splitS s c) (k := (splitS s c).length) (split_ne s c) (Nat.le_refl _)
  rw [join_split, List.take_length] at h1
  have h2 := splitS_le s c
  unfold sszN
  omega
/-- A strict order: never both. -/
theorem less_anti (a b : List UInt8) : (Op.bytesLess a b && Op.bytesLess b a) = false := by
  induction a generalizing b with
  | nil => cases b <;> simp [Op.bytesLess]
  | cons x xs ih =>
    cases b with
    | nil => simp [Op.bytesLess]
    | cons y ys =>
      have := ih ys
      simp only [Op.bytesLess]
      by_cases h1 : x < y
      · have h2 : ¬ y < x := by rw [UInt8.lt_iff_toNat_lt] at *; omega
        simp [h1, h2]
        try (intro h; have := UInt8.lt_irrefl x; subst h; simp_all)
      · by_cases h2 : y < x
        · simp [h1, h2]
          intro e
          subst e
          exact absurd h2 h1
        · have e : x = y := by apply UInt8.toNat_inj.1; rw [UInt8.lt_iff_toNat_lt] at h1 h2; omega
          subst e
          simpa [h1] using this
end Go.Proofs.YtddnghfioghidaaDoor
