/- A name put into a sorted list of names; the sorted list is one. Plain law. Conditions: as each states. -/
import Derived.Test.YtabedcpibnnnhaaPure
namespace Go.Proofs.Ytabedcpibnnnhaa
set_option linter.unusedVariables false
set_option linter.unusedSimpArgs false

theorem ins_perm (ls : List (List UInt8)) (x : List UInt8) (k : Nat) : (ls.take k ++ [x] ++ ls.drop k).Perm (x :: ls) := by
  have h : (ls.take k ++ [x] ++ ls.drop k).Perm (x :: (ls.take k ++ ls.drop k)) := by
    rw [List.append_assoc]
    exact List.perm_middle
  rwa [List.take_append_drop] at h
theorem ins_sorted {ls : List (List UInt8)} {x : List UInt8} {k : Nat} (hk : k ≤ ls.length) (h : ls.Pairwise (· ≤ ·)) (h1 : ∀ j y, k ≤ j → ls[j]? = some y → x < y) (h2 : ∀ y, 0 < k → ls[k - 1]? = some y → ¬ x < y) :
    (ls.take k ++ [x] ++ ls.drop k).Pairwise (· ≤ ·) := by
  have hs := h
  rw [← List.take_append_drop k ls, List.pairwise_append] at hs
  obtain ⟨s1, s2, s3⟩ := hs
  have up : ∀ y ∈ ls.drop k, x < y := by
    intro y hy
    obtain ⟨j, hj, rfl⟩ := List.mem_iff_getElem.1 hy
    refine h1 (k + j) _ (by omega) ?_
    rw [List.getElem_drop, List.getElem?_eq_getElem]
  have lo : ∀ y ∈ ls.take k, y ≤ x := by
    intro y hy
    obtain ⟨j, hj, rfl⟩ := List.mem_iff_getElem.1 hy
    rw [List.length_take] at hj
    have hk0 : k - 1 < ls.length := by omega
    have hl : ls[k - 1] ≤ x := List.not_lt.1 (h2 _ (by omega) (List.getElem?_eq_getElem hk0))
    rw [List.getElem_take]
    by_cases e : j = k - 1
    · subst e; exact hl
    · exact List.le_trans (List.pairwise_iff_getElem.1 h j (k - 1) (by omega) hk0 (by omega)) hl
  rw [List.append_assoc, List.pairwise_append]
  refine ⟨s1, ?_, ?_⟩
  · rw [List.singleton_append, List.pairwise_cons]
    exact ⟨fun y hy => List.le_of_lt (up y hy), s2⟩
  · intro a ha b hb
    rw [List.singleton_append, List.mem_cons] at hb
    rcases hb with rfl | hb
    · exact lo a ha
    · exact s3 a ha b hb
theorem sort_uniq {ls ms : List (List UInt8)} (hp : ls.Perm ms) (h : ls.Pairwise (· ≤ ·)) : ms.mergeSort (fun x y => decide (x ≤ y)) = ls := by
  have hq : (ms.mergeSort (fun x y => decide (x ≤ y))).Perm ls := (List.mergeSort_perm ms _).trans hp.symm
  have hs : (ms.mergeSort (fun x y => decide (x ≤ y))).Pairwise (fun a b : List UInt8 => decide (a ≤ b) = true) :=
    List.pairwise_mergeSort (fun a b c h1 h2 => by simp only [decide_eq_true_eq] at *; exact List.le_trans h1 h2) (fun a b => by simp only [Bool.or_eq_true, decide_eq_true_eq]; exact List.le_total a b) ms
  have hs2 : (ms.mergeSort (fun x y => decide (x ≤ y))).Pairwise (fun a b : List UInt8 => a ≤ b) := hs.imp (by intro a b h; simpa using h)
  exact hq.eq_of_pairwise (fun a b _ _ h1 h2 => List.le_antisymm h1 h2) hs2 h
end Go.Proofs.Ytabedcpibnnnhaa
