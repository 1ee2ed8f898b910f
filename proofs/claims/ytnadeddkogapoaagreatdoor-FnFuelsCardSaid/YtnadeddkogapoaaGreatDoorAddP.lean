/- A fuel behind valid fuels, sorted, is a fuel put in its place. Plain law. Conditions: as each states. -/
import Derived.Test.YtnadeddkogapoaaGreatDoorSoI
namespace Go.Proofs.YtnadeddkogapoaaGreatDoor
set_option linter.unusedVariables false
set_option linter.unusedSimpArgs false

/-- How many fuels stand ahead of a number. -/
def adK (l : List Fu) (i : Int) : Nat := (l.takeWhile fun p => decide (p.i < i)).length
/-- A fuel put in its place. -/
def adL (l : List Fu) (x : Fu) : List Fu := l.take (adK l x.i) ++ [x] ++ l.drop (adK l x.i)
theorem adK_le (l : List Fu) (i : Int) : adK l i ≤ l.length := (List.takeWhile_prefix _).length_le
theorem adL_length (l : List Fu) (x : Fu) : (adL l x).length = l.length + 1 := by
  have := adK_le l x.i
  unfold adL
  simp only [List.length_append, List.length_take, List.length_drop, List.length_cons, List.length_nil]
  omega
theorem adK_app {A B : List Fu} {i : Int} (h1 : ∀ p ∈ A, p.i < i) (h2 : ∀ b B', B = b :: B' → ¬ b.i < i) : adK (A ++ B) i = A.length := by
  unfold adK
  induction A with
  | nil =>
    cases B with
    | nil => rfl
    | cons b B' => simp [h2 b B' rfl]
  | cons a A ih =>
    have ha : a.i < i := h1 a (by simp)
    simp only [List.cons_append, List.takeWhile_cons, ha, decide_true, if_true, List.length_cons]
    rw [ih fun p hp => h1 p (by simp [hp])]
theorem idF_mid (A B : List Fu) (x : Fu) : idF (A ++ x :: B) A.length = x.i := by simp [idF]
theorem idF_mid1 (A B : List Fu) (x y : Fu) : idF (A ++ x :: y :: B) (A.length + 1) = y.i := by simp [idF]
theorem idF_app {A B : List Fu} {j : Nat} (h : j < A.length) : idF (A ++ B) j = idF A j := by simp [idF, List.getElem?_append_left h]
theorem swp_mid (A B : List Fu) (x y : Fu) : swp (A ++ y :: x :: B) (A.length + 1) A.length = A ++ x :: y :: B := by
  rw [swp_at (x := x) (y := y) (by simp) (by simp)]
  simp [List.set_append]
theorem insJ_mid (n : Nat) : ∀ (A B : List Fu) (x : Fu), A.length = n → ∃ A1 A2, A = A1 ++ A2 ∧ insJ (A ++ x :: B) 0 n = A1 ++ x :: (A2 ++ B) ∧ (∀ A0 y, A1 = A0 ++ [y] → ¬ x.i < y.i) ∧ ∀ z ∈ A2, x.i < z.i := by
  induction n with
  | zero =>
    intro A B x hA
    obtain rfl := List.eq_nil_of_length_eq_zero hA
    exact ⟨[], [], rfl, rfl, fun A0 y e => by simp at e, fun z hz => by simp at hz⟩
  | succ n ih =>
    intro A B x hA
    rcases List.eq_nil_or_concat A with rfl | ⟨A0, y, rfl⟩
    · simp at hA
    · have hn : A0.length = n := by simpa using hA
      subst hn
      have e1 : A0.concat y ++ x :: B = A0 ++ y :: x :: B := by simp
      rw [e1]
      by_cases h : x.i < y.i
      · rw [insJ_go (by omega) (by rw [idF_mid, idF_mid1]; exact h), swp_mid]
        obtain ⟨A1, A2, h1, h2, h3, h4⟩ := ih A0 (y :: B) x rfl
        refine ⟨A1, A2 ++ [y], by simp [h1], by rw [h2]; simp, h3, ?_⟩
        intro z hz
        rcases List.mem_append.1 hz with hz | hz
        · exact h4 z hz
        · obtain rfl := List.mem_singleton.1 hz; exact h
      · rw [insJ_stop (by rw [idF_mid, idF_mid1]; exact h)]
        refine ⟨A0 ++ [y], [], by simp, by simp, ?_, fun z hz => by simp at hz⟩
        intro A1 z e
        obtain ⟨_, e2⟩ := List.append_inj' e rfl
        injection e2 with e2
        subst e2
        exact h
/-- Numbers that rise from one to the next rise. -/
theorem rise_all {l : List Fu} (h : ∀ k : Nat, k + 1 < l.length → idF l k < idF l (k + 1)) : ∀ (d j : Nat), j + (d + 1) < l.length → idF l j < idF l (j + (d + 1)) := by
  intro d
  induction d with
  | zero => intro j hj; exact h j hj
  | succ d ih =>
    intro j hj
    have h1 := ih j (by omega)
    have h2 := h (j + (d + 1)) (by omega)
    have e : j + (d + 1) + 1 = j + (d + 1 + 1) := by omega
    rw [e] at h2
    omega
theorem insO_rise {l : List Fu} {x : Fu} (h : ∀ k : Nat, k + 1 < l.length → idF l k < idF l (k + 1)) : ∀ k, k < l.length ∨ k = 0 → insO (l ++ [x]) 0 k = l ++ [x] := by
  intro k
  induction k with
  | zero => intro _; rfl
  | succ k ih =>
    intro hk
    have hk1 : k + 1 < l.length := by omega
    rw [insO, ih (by omega), Nat.zero_add, insJ_stop]
    rw [idF_app hk1, idF_app (by omega)]
    have := h k hk1
    omega
theorem idF_mem {l : List Fu} {p : Fu} (h : p ∈ l) : ∃ j, j < l.length ∧ idF l j = p.i := by
  obtain ⟨j, hj, rfl⟩ := List.mem_iff_getElem.1 h
  exact ⟨j, hj, by simp [idF, hj]⟩
/-- A fuel behind valid fuels, sorted: as the reference puts it in. -/
theorem add_law {l : List Fu} (x : Fu) (hl : areB l = true) : areB (insO (l ++ [x]) 0 l.length) = areB (adL l x) ∧ (areB (adL l x) = true → insO (l ++ [x]) 0 l.length = adL l x) := by
  obtain ⟨hlen, _, hr, _⟩ := are_facts hl
  have hins : ∃ A1 A2, l = A1 ++ A2 ∧ insO (l ++ [x]) 0 l.length = A1 ++ x :: A2 ∧ (∀ A0 y, A1 = A0 ++ [y] → ¬ x.i < y.i) ∧ ∀ z ∈ A2, x.i < z.i := by
    rcases Nat.eq_zero_or_pos l.length with h0 | h0
    · obtain rfl := List.eq_nil_of_length_eq_zero h0
      exact ⟨[], [], rfl, rfl, fun A0 y e => by simp at e, fun z hz => by simp at hz⟩
    · obtain ⟨m, hm⟩ : ∃ m, l.length = m + 1 := ⟨l.length - 1, by omega⟩
      rw [hm, insO, insO_rise hr m (by omega), Nat.zero_add]
      obtain ⟨A1, A2, h1, h2, h3, h4⟩ := insJ_mid (m + 1) l [] x hm
      exact ⟨A1, A2, h1, by rw [h2]; simp, h3, h4⟩
  obtain ⟨A1, A2, h1, h2, h3, h4⟩ := hins
  rw [h2]
  have hall := rise_all hr
  rcases List.eq_nil_or_concat A1 with rfl | ⟨A0, y, rfl⟩
  · have hk : adK l x.i = 0 := by
      rw [h1]
      exact adK_app (A := []) (by simp) (fun b B' e => by have := h4 b (by rw [e]; simp); omega)
    have : adL l x = [] ++ x :: A2 := by unfold adL; rw [hk, h1]; simp
    rw [this]
    exact ⟨rfl, fun _ => rfl⟩
  · have hy := h3 A0 y (by simp)
    have hl2 : l = A0 ++ y :: A2 := by rw [h1]; simp
    have hlow : ∀ p ∈ A0, p.i < y.i := by
      intro p hp
      obtain ⟨j, hj, hi⟩ := idF_mem hp
      obtain ⟨d, hd⟩ : ∃ d, A0.length = j + (d + 1) := ⟨A0.length - j - 1, by omega⟩
      have := hall d j (by rw [← hd, hl2]; simp)
      rw [← hd, hl2, idF_mid, idF_app hj, hi] at this
      exact this
    by_cases he : y.i = x.i
    · have hk : adK l x.i = A0.length := by
        rw [hl2]
        exact adK_app (fun p hp => by have := hlow p hp; omega) (fun b B' e => by injection e with e1 _; subst e1; omega)
      have ha : adL l x = A0 ++ x :: y :: A2 := by unfold adL; rw [hk, hl2]; simp
      have n1 : areB (A0.concat y ++ x :: A2) = false := by
        rw [Bool.eq_false_iff]
        intro ht
        obtain ⟨_, _, hr2, _⟩ := are_facts ht
        have e1 : A0.concat y ++ x :: A2 = A0 ++ y :: x :: A2 := by simp
        rw [e1] at hr2
        have := hr2 A0.length (by simp)
        rw [idF_mid, idF_mid1] at this
        omega
      have n2 : areB (adL l x) = false := by
        rw [Bool.eq_false_iff]
        intro ht
        obtain ⟨_, _, hr2, _⟩ := are_facts ht
        rw [ha] at hr2
        have := hr2 A0.length (by simp)
        rw [idF_mid, idF_mid1] at this
        omega
      rw [n1, n2]
      exact ⟨rfl, fun e => by simp at e⟩
    · have hk : adK l x.i = (A0.concat y).length := by
        rw [h1]
        refine adK_app ?_ (fun b B' e => by have := h4 b (by rw [e]; simp); omega)
        intro p hp
        have hp2 : p ∈ A0 ∨ p = y := by simpa using hp
        rcases hp2 with hp | rfl
        · have := hlow p hp; omega
        · omega
      have : adL l x = A0.concat y ++ x :: A2 := by unfold adL; rw [hk, h1, List.take_left, List.drop_left, List.append_assoc]; rfl
      rw [this]
      exact ⟨rfl, fun _ => rfl⟩
/-- The reference's loop stands where the fuel belongs. -/
theorem adK_loop {l : List Fu} {i : Int} {k : Nat} (hk : k ≤ l.length) (h1 : ∀ j, j < k → idF l j < i) (h2 : k < l.length → ¬ idF l k < i) : adK l i = k := by
  have hl : l.take k ++ l.drop k = l := List.take_append_drop k l
  have hlt : (l.take k).length = k := by rw [List.length_take]; omega
  have := adK_app (A := l.take k) (B := l.drop k) (i := i) (fun p hp => by
    obtain ⟨j, hj, hi⟩ := idF_mem hp
    have := h1 j (by omega)
    rw [← hi]
    rw [← hl, idF_app (by omega)] at this
    exact this) (fun b B' e => by
    have hkl : k < l.length := by
      have := congrArg List.length e
      rw [List.length_drop, List.length_cons] at this
      omega
    have := h2 hkl
    have e2 : idF l k = b.i := by
      rw [← hl, e]
      conv => lhs; arg 2; rw [← hlt]
      exact idF_mid _ _ _
    rw [← e2]; exact this)
  rw [hl, hlt] at this
  exact this
/-- What AddFuel answers. -/
def adB (l : List Fu) (x : Fu) : Bool := areB l && areB (adL l x)
def adR (l : List Fu) (x : Fu) : List Fu := if adB l x then adL l x else []
end Go.Proofs.YtnadeddkogapoaaGreatDoor
