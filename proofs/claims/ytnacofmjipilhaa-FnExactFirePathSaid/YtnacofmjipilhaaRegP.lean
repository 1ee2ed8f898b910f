/- Plain facts on sets of cells: lists that are gathered, filtered, put together. Conditions: as each states. -/
import Derived.Test.YtnacofmjipilhaaAllF
import Derived.Test.YtnacofmjipilhaaNear2
import Derived.Test.YtnacofmjipilhaaReach
namespace Go.Proofs.Ytnacofmjipilhaa
set_option linter.unusedVariables false
set_option linter.unusedSimpArgs false

theorem selN_mem {p : Nat → Bool} {N : Nat} {z : Int} : z ∈ selN p N ↔ ∃ k : Nat, k < N ∧ p k = true ∧ z = k := by
  unfold selN
  simp only [List.mem_map, List.mem_filter, List.mem_range]
  constructor
  · rintro ⟨k, ⟨h1, h2⟩, rfl⟩; exact ⟨k, h1, h2, rfl⟩
  · rintro ⟨k, h1, h2, rfl⟩; exact ⟨k, ⟨h1, h2⟩, rfl⟩
theorem selN_rise (p : Nat → Bool) (N : Nat) : Rise (selN p N) := by
  unfold selN Rise
  rw [List.pairwise_map]
  exact (List.Pairwise.sublist List.filter_sublist List.pairwise_lt_range).imp (fun h => by omega)
theorem hasB_iff {zs : List Int} {c : Int} : hasB zs c = true ↔ c ∈ zs := by
  unfold hasB
  rw [List.any_eq_true]
  exact ⟨fun ⟨z, hz, e⟩ => by have : z = c := by simpa using e
                              exact this ▸ hz, fun h => ⟨c, h, by simp⟩⟩
theorem hasB_not {zs : List Int} {c : Int} : hasB zs c = false ↔ c ∉ zs := by
  rw [← hasB_iff]; simp
theorem setB_rise {cs : List Int} {lo hi : Int} (h : setB cs lo hi = true) : Rise cs ∧ ∀ z ∈ cs, lo ≤ z ∧ z ≤ hi := by
  unfold setB at h
  rw [List.all_eq_true] at h
  have h0 : ∀ i (hi' : i < cs.length), lo ≤ cs[i] ∧ cs[i] ≤ hi := by
    intro i hi'
    have := (Bool.and_eq_true_iff.1 (h i (by simpa using hi'))).1
    rw [List.getD_eq_getElem?_getD, List.getElem?_eq_getElem hi'] at this
    simpa [inB] using this
  refine ⟨?_, fun z hz => ?_⟩
  · have h1 : ∀ i (hi' : i + 1 < cs.length), cs[i] < cs[i + 1] := by
      intro i hi'
      have := (Bool.and_eq_true_iff.1 (h (i + 1) (by simpa using hi'))).2
      simp only [upAt, List.getD_eq_getElem?_getD, List.getElem?_eq_getElem hi', List.getElem?_eq_getElem (show i < cs.length by omega), Option.getD_some] at this
      simpa using this
    unfold Rise
    rw [List.pairwise_iff_getElem]
    intro i j hi' hj hij
    induction j with
    | zero => omega
    | succ j ih =>
      have := h1 j hj
      by_cases e : i = j
      · subst e; exact this
      · have := ih (by omega) (by omega); omega
  · obtain ⟨i, hi', rfl⟩ := List.mem_iff_getElem.1 hz
    exact h0 i hi'
theorem near_iff {x c : Int} {k : Nat} : nearP x c k = true ↔ apartN x k c = 1 := by unfold nearP; simp
theorem apart_self (x a : Int) : apartN x a a = 0 := by unfold apartN; omega
theorem apart_nonneg (x a b : Int) : 0 ≤ apartN x a b := by unfold apartN; omega
/-- The cells of two sets. -/
theorem join_eq {xs ys : List Int} {N : Nat} (hx : Rise xs) (hx' : ∀ z ∈ xs, 0 ≤ z ∧ z ≤ (N : Int) - 1) (hy' : ∀ z ∈ ys, 0 ≤ z ∧ z ≤ (N : Int) - 1) :
    putsL xs ys = selN (fun k => hasB xs k || hasB ys k) N := by
  refine (hx.puts).ext (selN_rise _ _) fun z => ?_
  rw [mem_putsL, selN_mem]
  simp only [Bool.or_eq_true, hasB_iff]
  constructor
  · intro h
    have hz : 0 ≤ z ∧ z ≤ (N : Int) - 1 := by rcases h with h | h; exact hy' z h; exact hx' z h
    refine ⟨z.toNat, by omega, ?_, by omega⟩
    have e : ((z.toNat : Nat) : Int) = z := by omega
    rw [e]; exact h.symm
  · rintro ⟨k, _, h, rfl⟩; exact h.symm
theorem putsL_append (l a b : List Int) : putsL l (a ++ b) = putsL (putsL l a) b := by unfold putsL; rw [List.foldl_append]
/-- A set with all neighbors. -/
theorem grow_eq {x : Int} {cs : List Int} {N : Nat} (hx : Rise cs) (hx' : ∀ z ∈ cs, 0 ≤ z ∧ z ≤ (N : Int) - 1) :
    putsL cs (cs.flatMap fun c => selN (nearP x c) N) = selN (fun k => !(cs.all fun c => decide (1 < apartN x k c))) N := by
  refine (hx.puts).ext (selN_rise _ _) fun z => ?_
  rw [mem_putsL, selN_mem]
  simp only [List.mem_flatMap, selN_mem, near_iff, Bool.not_eq_true', List.all_eq_false, decide_eq_true_eq]
  constructor
  · rintro (⟨c, hc, k, hk, h, rfl⟩ | h)
    · exact ⟨k, hk, ⟨c, hc, by omega⟩, rfl⟩
    · have := hx' z h
      refine ⟨z.toNat, by omega, ⟨z, h, ?_⟩, by omega⟩
      have e : ((z.toNat : Nat) : Int) = z := by omega
      rw [e, apart_self]; omega
  · rintro ⟨k, hk, ⟨c, hc, h⟩, rfl⟩
    have h0 := apart_nonneg x k c
    by_cases e : apartN x k c = 1
    · exact .inl ⟨c, hc, k, hk, e, rfl⟩
    · right
      have e0 : apartN x k c = 0 := by omega
      have : (k : Int) = c := by
        have hm := Int.emod_add_mul_ediv (k : Int) x
        have hm' := Int.emod_add_mul_ediv c x
        unfold apartN at e0
        have e1 : (k : Int) % x = c % x := by omega
        have e2 : (k : Int) / x = c / x := by omega
        rw [← hm, ← hm', e1, e2]
      rw [this]; exact hc
end Go.Proofs.Ytnacofmjipilhaa
