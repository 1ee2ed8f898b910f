/- The library's parts of a text are the reference's. No program in sight. -/
import Derived.Test.YtnadeddkogapoaaGreatDoorSplit
import Derived.Lib.Split
import Derived.Lib.SplitLaws
namespace Go.Proofs.YtnadeddkogapoaaGreatDoor
set_option linter.unusedVariables false
set_option linter.unusedSimpArgs false
set_option maxRecDepth 100000

/-- The parts between bytes of a kind. -/
def spL (c : UInt8) : List UInt8 → List (List UInt8)
  | [] => [[]]
  | b :: l => if b = c then [] :: spL c l else match spL c l with
    | [] => [[b]]
    | h :: t => (b :: h) :: t
theorem spL_ne (c : UInt8) (l : List UInt8) : spL c l ≠ [] := by
  cases l with
  | nil => simp [spL]
  | cons b l =>
    unfold spL
    split
    · simp
    · split <;> simp
/-- A byte behind the last part. -/
def lastB (b : UInt8) : List (List UInt8) → List (List UInt8)
  | [] => [[b]]
  | [x] => [x ++ [b]]
  | x :: y :: t => x :: lastB b (y :: t)
theorem lastB_app (b : UInt8) (x : List UInt8) : ∀ A, lastB b (A ++ [x]) = A ++ [x ++ [b]]
  | [] => rfl
  | [a] => rfl
  | a :: a' :: A => by
    show a :: lastB b (a' :: (A ++ [x])) = _
    have := lastB_app b x (a' :: A)
    simp only [List.cons_append] at this ⊢
    rw [this]
theorem spL_same (c : UInt8) : ∀ l, spL c (l ++ [c]) = spL c l ++ [[]]
  | [] => by simp [spL]
  | b :: l => by
    have ih := spL_same c l
    simp only [List.cons_append, spL, ih]
    split
    · rfl
    · cases hq : spL c l with
      | nil => exact absurd hq (spL_ne c l)
      | cons h t => rfl
theorem spL_other (c b : UInt8) (hb : b ≠ c) : ∀ l, spL c (l ++ [b]) = lastB b (spL c l)
  | [] => by simp [spL, hb, lastB]
  | d :: l => by
    have ih := spL_other c b hb l
    simp only [List.cons_append, spL, ih]
    split
    · cases hq : spL c l with
      | nil => exact absurd hq (spL_ne c l)
      | cons h t => rfl
    · cases hq : spL c l with
      | nil => exact absurd hq (spL_ne c l)
      | cons h t =>
        cases t with
        | nil => rfl
        | cons y t => rfl
theorem ext_list (s : ByteArray) (a b : Nat) : (s.extract a b).data.toList = (s.data.toList.drop a).take (b - a) := by
  rw [ByteArray.data_extract, Array.toList_extract, List.extract_eq_take_drop]
/-- What the reference's scan has laid after so many bytes. -/
theorem scan_spL (s : ByteArray) (c : UInt8) : ∀ k, k ≤ s.size → (spO s c k).map (·.data.toList) ++ [(s.extract (spF s c k) k).data.toList] = spL c (s.data.toList.take k)
  | 0, _ => by simp [spO, spF, spL, ext_list]
  | k + 1, hk => by
    have ih := scan_spL s c k (by omega)
    have hlt : k < s.size := by omega
    have hg : s.data.toList[k]? = some s[k] := by rw [Array.getElem?_toList, Array.getElem?_eq_getElem (show k < s.data.size from hlt)]; rfl
    have htk : s.data.toList.take (k + 1) = s.data.toList.take k ++ [s[k]] := by rw [List.take_add_one, hg]; rfl
    rw [htk]
    by_cases hq : s[k] = c
    · obtain ⟨e1, e2⟩ := sp_hit hlt hq
      rw [e1, e2, hq, spL_same, ← ih, List.map_append, ext_list s (k + 1) (k + 1)]
      simp
    · obtain ⟨e1, e2⟩ := sp_miss hlt hq
      rw [e1, e2, spL_other c _ hq, ← ih, lastB_app]
      congr 2
      have hf := spF_le s c k
      rw [ext_list, ext_list, show k + 1 - spF s c k = (k - spF s c k) + 1 by omega, List.take_add_one, List.getElem?_drop, show spF s c k + (k - spF s c k) = k by omega, hg]
      rfl
theorem splitS_spL (s : ByteArray) (c : UInt8) : (splitS s c).map (·.data.toList) = spL c s.data.toList := by
  have := scan_spL s c s.size (Nat.le_refl _)
  have htk : s.data.toList.take s.size = s.data.toList := List.take_of_length_le (by simp)
  rw [htk] at this
  rw [← this]
  unfold splitS
  simp
theorem pre_one (c b : UInt8) (l : List UInt8) : List.isPrefixOf [c] (b :: l) = (b == c) := by
  simp only [List.isPrefixOf, Bool.and_true]
  by_cases h : c = b
  · subst h; simp
  · have h2 : b ≠ c := fun e => h e.symm
    rw [beq_eq_false_iff_ne.2 h, beq_eq_false_iff_ne.2 h2]
theorem split_spL (c : UInt8) : ∀ l, Lib.splitK [c] 0 (Lib.count l [c]) l = spL c l
  | [] => by
    have : Lib.index [] [c] = -1 := rfl
    rw [Lib.count_miss this]; rfl
  | b :: l => by
    have ih := split_spL c l
    have hne : [c] ≠ [] := by simp
    by_cases hb : b = c
    · have hi : Lib.index (b :: l) [c] = (0 : Nat) := by unfold Lib.index; rw [pre_one, if_pos (by simpa using hb)]; rfl
      have hc := Lib.count_hit hne hi
      have ed : (b :: l).drop (0 + [c].length) = l := rfl
      rw [ed] at hc
      rw [hc, Nat.add_comm, Lib.splitK, if_neg (by rw [hi]; decide), hi]
      show List.take 0 _ :: Lib.splitK [c] 0 _ l = _
      rw [ih]
      simp [spL, hb]
    · have hi : Lib.index (b :: l) [c] = if Lib.index l [c] == -1 then -1 else Lib.index l [c] + 1 := by
        conv => lhs; unfold Lib.index
        rw [pre_one, if_neg (by simpa using hb)]
      have hs : spL c (b :: l) = match spL c l with | [] => [[b]] | h :: t => (b :: h) :: t := by simp [spL, hb]
      rw [hs, ← ih]
      by_cases hm : Lib.index l [c] = -1
      · have hi2 : Lib.index (b :: l) [c] = -1 := by rw [hi, hm]; rfl
        rw [Lib.count_miss hi2, Lib.count_miss hm]
        rfl
      · have hge := Lib.index_ge l [c]
        obtain ⟨i, hi3⟩ := Int.eq_ofNat_of_zero_le (show 0 ≤ Lib.index l [c] by omega)
        have hi2 : Lib.index (b :: l) [c] = ((i + 1 : Nat) : Int) := by rw [hi, if_neg (by simpa using hm), hi3]; rfl
        have hc := Lib.count_hit hne hi2
        have hc2 := Lib.count_hit hne hi3
        have ed : (b :: l).drop (i + 1 + [c].length) = l.drop (i + [c].length) := by
          show (b :: l).drop (i + 1 + 1) = l.drop (i + 1)
          rw [List.drop_succ_cons]
        rw [ed] at hc
        rw [hc, hc2, Nat.add_comm, Lib.splitK, if_neg (by rw [hi2]; simp; try omega), hi2, Lib.splitK, if_neg (by rw [hi3]; simp; try omega), hi3]
        simp only [Int.toNat_natCast, Nat.add_zero]
        rw [show (b :: l).drop (i + 1 + [c].length) = l.drop (i + [c].length) from ed]
        rfl
theorem data_inj {x y : ByteArray} (h : x.data.toList = y.data.toList) : x = y := by
  apply ByteArray.ext
  exact Array.toList_inj.1 h
theorem split_lib (s : ByteArray) (c : UInt8) : Lib.splitB ⟨#[c]⟩ 0 (Lib.countB s ⟨#[c]⟩) s = splitS s c := by
  have h1 := Lib.splitB_data ⟨#[c]⟩ 0 (Lib.countB s ⟨#[c]⟩) s
  have h2 := split_spL c s.data.toList
  have h3 := splitS_spL s c
  refine (List.map_inj_right (f := fun x : ByteArray => x.data.toList) fun x y h => data_inj h).1 ?_
  rw [h3, h1]
  exact h2
theorem splitS_length (s : ByteArray) (c : UInt8) : (splitS s c).length = Lib.countB s ⟨#[c]⟩ + 1 := by
  rw [← split_lib]
  exact Lib.splitB_all ⟨#[c]⟩ (Nat.le_refl 1) 0 _ s rfl
end Go.Proofs.YtnadeddkogapoaaGreatDoor
