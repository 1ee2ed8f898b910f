/- Forecasts: means, the worst direction, the hours that hold limits. Plain law. Conditions: as each states. -/
import Derived.Test.YtabedcpibnnnhaaRed
import Derived.Test.YtabedcpibnnnhaaMean2
namespace Go.Proofs.Ytabedcpibnnnhaa
open Go.ChangeShapes Go.WideShapes Go.ChangeAt Go.RowKit Go.Deep
set_option linter.unusedVariables false
set_option linter.unusedSimpArgs false
set_option maxRecDepth 100000

theorem div_both {S n : Int} {d : Nat} (h1 : (d : Int) ∣ S) (h2 : (d : Int) ∣ n) (hd : 0 < d) : S.tdiv d * n = S * n.tdiv d := by
  obtain ⟨a, rfl⟩ := h1
  obtain ⟨b, rfl⟩ := h2
  rw [Int.mul_tdiv_cancel_left _ (by omega), Int.mul_tdiv_cancel_left _ (by omega)]
  simp [Int.mul_comm, Int.mul_left_comm]
theorem den_pos {S : Int} {n : Nat} (hn : 0 < n) : 0 < ((n : Int).tdiv (Int.gcd S n : Nat)) := by
  have hd : 0 < Int.gcd S n := Int.gcd_pos_of_ne_zero_right _ (by omega)
  have h2 : ((Int.gcd S n : Nat) : Int) ∣ n := Int.gcd_dvd_right ..
  generalize Int.gcd S n = d at *
  obtain ⟨b, hb⟩ := h2
  have : (n : Int).tdiv (d : Nat) = b := by
    rw [hb, Int.mul_tdiv_cancel_left _ (by omega)]
  rw [this]
  by_cases h : 0 < b
  · exact h
  · exfalso
    have : (d : Int) * b ≤ 0 := Int.mul_nonpos_of_nonneg_of_nonpos (by omega) (by omega)
    omega
theorem mean_law {S T : Int} {n : Nat} (hn : 0 < n) (h : S ≤ T) : S.tdiv (Int.gcd S n : Nat) * (n : Int) ≤ T * (n : Int).tdiv (Int.gcd S n : Nat) := by
  have hd : 0 < Int.gcd S n := Int.gcd_pos_of_ne_zero_right _ (by omega)
  rw [div_both (Int.gcd_dvd_left ..) (Int.gcd_dvd_right ..) hd]
  exact Int.mul_le_mul_of_nonneg_right h (by have := den_pos (S := S) hn; omega)
theorem mean_same {S : Int} {n : Nat} (hn : 0 < n) : S.tdiv (Int.gcd S n : Nat) * (n : Int) = S * (n : Int).tdiv (Int.gcd S n : Nat) := by
  have hd : 0 < Int.gcd S n := Int.gcd_pos_of_ne_zero_right _ (by omega)
  exact div_both (Int.gcd_dvd_left ..) (Int.gcd_dvd_right ..) hd
theorem bestF_max (S : Nat → Int) : ∀ k i, i < k → S i ≤ S (bestF S k)
  | 0, i, h => by omega
  | k + 1, i, h => by
    have ih := bestF_max S k
    simp only [bestF]
    split
    · by_cases e : i = k
      · subst e; omega
      · have := ih i (by omega); omega
    · by_cases e : i = k
      · subst e; omega
      · exact ih i (by omega)
/-- An hour lies in one of the spans. -/
def inSp (S : List (List Int)) (i : Int) : Bool := S.any fun p => decide (p.getD 0 0 ≤ i) && decide (i ≤ p.getD 1 0)
/-- Spans below a number, in order each. -/
def okSp (S : List (List Int)) (k : Int) : Prop := ∀ p ∈ S, p.getD 0 0 ≤ p.getD 1 0 ∧ p.getD 1 0 < k
theorem any_set {α : Type} {q : α → Bool} {S : List α} {j : Nat} {p p' : α} (hp : S[j]? = some p) (b : Bool) (h : q p' = (q p || b)) : (S.set j p').any q = (S.any q || b) := by
  obtain ⟨hj, rfl⟩ := List.getElem?_eq_some_iff.1 hp
  have e : S = S.take j ++ S[j] :: S.drop (j + 1) := by rw [← List.drop_eq_getElem_cons hj, List.take_append_drop]
  rw [List.set_eq_take_append_cons_drop, if_pos hj, List.any_append, List.any_cons, h]
  conv => rhs; rw [e, List.any_append, List.any_cons]
  cases (S.take j).any q <;> cases q S[j] <;> cases (S.drop (j + 1)).any q <;> cases b <;> rfl
theorem ext_in {S : List (List Int)} {k : Nat} (h : okSp S k) (i : Int) : inSp (extS S k) i = (inSp S i || decide (i = (k : Int))) := by
  unfold extS
  have one : (decide ((k : Int) ≤ i) && decide (i ≤ (k : Int))) = decide (i = (k : Int)) := by
    by_cases e : i = (k : Int)
    · simp [e]
    · have : ¬ ((k : Int) ≤ i ∧ i ≤ (k : Int)) := by omega
      rw [← Bool.decide_and, decide_eq_false this, decide_eq_false e]
  split
  · rename_i p hp
    split
    · rename_i he
      have ho := h p (List.mem_of_getElem? hp)
      unfold inSp
      refine any_set hp _ ?_
      show (decide (p.getD 0 0 ≤ i) && decide (i ≤ (k : Int))) = _
      by_cases a : p.getD 0 0 ≤ i
      · by_cases b : i = (k : Int)
        · subst b
          rw [decide_eq_true a]
          simp
        · rw [decide_eq_true a, decide_eq_false b, Bool.true_and, Bool.true_and, Bool.or_false]
          exact decide_eq_decide.2 (by omega)
      · have b : ¬ i = (k : Int) := by omega
        rw [decide_eq_false a, decide_eq_false b]; rfl
    · unfold inSp
      rw [List.any_append]
      simp [one]
  · unfold inSp
    rw [List.any_append]
    simp [one]
theorem ext_ok {S : List (List Int)} {k : Nat} (h : okSp S k) : okSp (extS S k) ((k + 1 : Nat) : Int) := by
  unfold extS
  intro p hp
  split at hp
  · rename_i q hq
    have ho := h q (List.mem_of_getElem? hq)
    split at hp
    · rcases List.mem_or_eq_of_mem_set hp with h1 | h1
      · have := h p h1; omega
      · subst h1
        show q.getD 0 0 ≤ (k : Int) ∧ (k : Int) < _
        omega
    · rcases List.mem_append.1 hp with h1 | h1
      · have := h p h1; omega
      · simp at h1; subst h1; simp; omega
  · rcases List.mem_append.1 hp with h1 | h1
    · have := h p h1; omega
    · simp at h1; subst h1; simp; omega
/-- Whether an hour holds the limits. -/
def hotB (ps : List Wx) (sp hu : Int) (i : Nat) : Bool := match ps[i]? with | some x => decide (sp ≤ x.s) && decide (x.h ≤ hu) | none => false
theorem rf_law (ps : List Wx) (sp hu : Int) : ∀ k, okSp (rfS ps sp hu k) k ∧ ∀ i : Nat, inSp (rfS ps sp hu k) i = (decide (i < k) && hotB ps sp hu i)
  | 0 => ⟨fun p hp => by simp [rfS] at hp, fun i => by simp [rfS, inSp]⟩
  | k + 1 => by
    obtain ⟨h1, h2⟩ := rf_law ps sp hu k
    have up : okSp (rfS ps sp hu k) ((k + 1 : Nat) : Int) := fun p hp => by have := h1 p hp; omega
    have step : ∀ (b : Bool), b = hotB ps sp hu k → ∀ i : Nat, (decide (i < k) && hotB ps sp hu i || (b && decide ((i : Int) = (k : Int)))) = (decide (i < k + 1) && hotB ps sp hu i) := by
      intro b hb i
      by_cases e : i = k
      · subst e; subst hb; simp
      · have e1 : ¬ (i : Int) = (k : Int) := by omega
        rw [decide_eq_false e1, Bool.and_false, Bool.or_false]
        congr 1
        exact decide_eq_decide.2 (by omega)
    simp only [rfS]
    split
    · rename_i hx
      refine ⟨up, fun i => ?_⟩
      rw [h2, ← step false (by simp [hotB, hx]) i]; simp
    · rename_i x hx
      split
      · rename_i hc
        refine ⟨up, fun i => ?_⟩
        have hf : hotB ps sp hu k = false := by
          simp only [hotB, hx]
          rcases hc with hc | hc
          · rw [decide_eq_false (by omega)]; rfl
          · rw [decide_eq_false (show ¬ x.h ≤ hu by omega), Bool.and_false]
        rw [h2, ← step false hf.symm i]; simp
      · rename_i hc
        have hf : hotB ps sp hu k = true := by
          simp only [hotB, hx]
          rw [decide_eq_true (by omega), decide_eq_true (by omega)]; rfl
        refine ⟨ext_ok h1, fun i => ?_⟩
        rw [ext_in h1, h2, ← step true hf.symm i]; simp
end Go.Proofs.Ytabedcpibnnnhaa
