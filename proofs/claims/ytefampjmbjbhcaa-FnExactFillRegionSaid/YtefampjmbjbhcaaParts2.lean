/- PartsOf in the reference. Conditions: none. -/
import Derived.Test.YtefampjmbjbhcaaParts
namespace Go.Proofs.Ytefampjmbjbhcaa
open Go.ChangeShapes Go.WideShapes Go.ChangeAt Go.RowKit Go.Deep
set_option linter.unusedVariables false
set_option linter.unusedSimpArgs false
set_option maxRecDepth 100000

theorem RowsW.add {w w' : World} {B T T' : Nat} {ov ov' v : Value} {vs : List Value} {xss : List (List Int)} {l : List Int} (h : RowsW w B T ov vs xss) (hv : Qw w B 3 1 v l.length (ints l)) (hvl : ∀ j, v.ownBlock = some j → j < T')
    (hq : Qw w' B 22 1 ov' (vs.length + 1) (vs ++ [v])) (hg : w.grownBy w' ov.ownBlock) (hT : T ≤ T') (hT' : w'.heap.size ≤ T') : RowsW w' B T' ov' (vs ++ [v]) (xss ++ [l]) := by
  have hkp : ∀ {u : Value} {m : List Int}, Qw w B 3 1 u m.length (ints m) → Qw w' B 3 1 u m.length (ints m) := fun hu => hu.kept hg (fun j hj e => by
    obtain ⟨c1, k1⟩ := hu.kind hj
    obtain ⟨c2, k2⟩ := h.outer.kind e.symm
    exact kind_ne k1 k2 (by decide) rfl)
  refine ⟨by simpa using hq, by simp [h.len], fun i u m hu hm => ?_, fun j hj => Nat.lt_of_lt_of_le (hq.lt j hj).2 hT', fun i u j hu hj => ?_⟩
  · by_cases hi : i < vs.length
    · rw [List.getElem?_append_left hi] at hu
      rw [List.getElem?_append_left (by rw [← h.len]; exact hi)] at hm
      exact hkp (h.row i u m hu hm)
    · have hi' : i = vs.length := by
        have := (List.getElem?_eq_some_iff.1 hu).1
        simp at this; omega
      subst hi'
      rw [List.getElem?_append_right (Nat.le_refl _)] at hu
      rw [h.len, List.getElem?_append_right (Nat.le_refl _)] at hm
      simp at hu hm
      subst hu hm
      exact hkp hv
  · by_cases hi : i < vs.length
    · rw [List.getElem?_append_left hi] at hu
      exact Nat.lt_of_lt_of_le (h.ltr i u j hu hj) hT
    · have hi' : i = vs.length := by
        have := (List.getElem?_eq_some_iff.1 hu).1
        simp at this; omega
      subst hi'
      rw [List.getElem?_append_right (Nat.le_refl _)] at hu
      simp at hu
      subst hu
      exact hvl j hj
theorem RowsW.grow {w : World} {B B' T T' : Nat} {v : Value} {vs : List Value} {xss : List (List Int)} (h : RowsW w B T v vs xss) (hT : T ≤ T') (hB : B' ≤ B) : RowsW w B' T' v vs xss :=
  ⟨h.outer.lower hB, h.len, fun i u l hu hl => (h.row i u l hu hl).lower hB, fun j hj => Nat.lt_of_lt_of_le (h.lto j hj) hT, fun i u j hu hj => Nat.lt_of_lt_of_le (h.ltr i u j hu hj) hT⟩
theorem RowsW.nil {w : World} {B : Nat} {v : Value} (h : Qw w B 22 1 v 0 []) : RowsW w B w.heap.size v [] [] := ⟨h, rfl, by simp, fun j hj => (h.lt j hj).2, by simp⟩
theorem heads_le (R : Int → List Int) (cs : List Int) (k : Nat) : (heads R (cs.take k)).length ≤ k := by
  unfold heads
  rw [List.length_map]
  exact Nat.le_trans (List.length_filter_le _ _) (by simp; omega)
theorem tot_le {xss : List (List Int)} {n : Nat} (h : ∀ p ∈ xss, p.length ≤ n) : ∀ k, tot xss k ≤ k * n
  | 0 => by simp [tot]
  | k + 1 => by
    have ih := tot_le h k
    rw [Nat.succ_mul]
    cases hl : xss[k]? with
    | none =>
      rw [List.getElem?_eq_none_iff] at hl
      have : tot xss (k + 1) = tot xss k := by unfold tot; rw [List.take_of_length_le (by omega), List.take_of_length_le hl]
      omega
    | some l =>
      rw [tot_succ hl]
      have := h l (List.mem_of_getElem? hl)
      omega
theorem heads_bound {R : Int → List Int} {cs : List Int} {N : Nat} (hR : ∀ c, (R c).length ≤ N) (hN : N ≤ 25) (hc : cs.length ≤ 25) : (heads R cs).length ≤ 1048576 ∧ tot (heads R cs) (heads R cs).length ≤ 1048576 := by
  have hl : (heads R cs).length ≤ 25 := by
    have := heads_le R cs cs.length
    rw [List.take_length] at this
    omega
  have ht := tot_le (xss := heads R cs) (n := N) (fun p hp => by
    unfold heads at hp
    obtain ⟨c, _, rfl⟩ := List.mem_map.1 hp
    exact hR c) (heads R cs).length
  have h2 := Nat.mul_le_mul hl hN
  omega
theorem parts_bound (x y : Int) (zs xs : List Int) : (selRR (oneB x y zs xs) (pcs (partL x zs.length xs) xs)).length ≤ 1048576 ∧ tot (selRR (oneB x y zs xs) (pcs (partL x zs.length xs) xs)) (selRR (oneB x y zs xs) (pcs (partL x zs.length xs) xs)).length ≤ 1048576 := by
  unfold selRR
  split
  · rename_i h
    obtain ⟨_, hzl, hr1, hr2, hxl⟩ := one_facts h
    rw [pcs_eq (part_cls hr2) hr1]
    exact heads_bound (fun c => rchL_le _ _ _) hzl (by omega)
  · simp [tot]
end Go.Proofs.Ytefampjmbjbhcaa
