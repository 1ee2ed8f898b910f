/- Words between blanks, and the numbers among them. No program in sight. Conditions: as each states. -/
import Derived.Test.YtnadeddkogapoaaGreatDoorSplitP
import Derived.Test.YtnadeddkogapoaaGreatDoorPInt
namespace Go.Proofs.YtnadeddkogapoaaGreatDoor
set_option linter.unusedVariables false
set_option linter.unusedSimpArgs false
set_option maxRecDepth 100000

theorem spL_free {c : UInt8} : ∀ {l : List UInt8}, c ∉ l → spL c l = [l]
  | [], _ => rfl
  | b :: l, h => by
    have hb : b ≠ c := fun e => h (by simp [e])
    have ih := spL_free (c := c) (l := l) (fun e => h (by simp [e]))
    simp [spL, hb, ih]
theorem spL_cut {c : UInt8} (m : List UInt8) : ∀ {l : List UInt8}, c ∉ l → spL c (l ++ c :: m) = l :: spL c m
  | [], _ => by simp [spL]
  | b :: l, h => by
    have hb : b ≠ c := fun e => h (by simp [e])
    have ih := spL_cut (c := c) m (l := l) (fun e => h (by simp [e]))
    show spL c (b :: (l ++ c :: m)) = _
    simp [spL, hb, ih]
theorem dec_digit {u : Nat} {b : UInt8} (h : b ∈ Lib.decDigits u) : 48 ≤ b.toNat ∧ b.toNat ≤ 57 := by
  obtain ⟨k, hk⟩ := List.getElem?_of_mem h
  obtain ⟨d, hd⟩ := Lib.digit_of_decFrom _ 0 _ (dec_dec u) k b hk
  have := Lib.digitVal_eq hd
  omega
theorem itoa_free (n : Int) (c : UInt8) (hc : c.toNat < 45) : c ∉ Lib.itoa n := by
  intro h
  unfold Lib.itoa at h
  split at h
  · rcases List.mem_cons.1 h with e | e
    · subst e; simp at hc
    · have := dec_digit e; omega
  · have := dec_digit h; omega
theorem itoa_short (n : Int) (h1 : -999999 ≤ n) (h2 : n ≤ 999999) : (Lib.itoa n).length ≤ 7 := by
  have := numS_short n (inB_iff.2 ⟨h1, h2⟩)
  unfold numS at this
  rwa [bs_size] at this
/-- The parts of a text of bytes. -/
theorem splitS_bs (l : List UInt8) (c : UInt8) : (splitS (bs l) c).map (·.data.toList) = spL c l := by
  rw [splitS_spL]
  congr 1
/-- A part of a text. -/
def wdS (s : ByteArray) (k : Nat) : ByteArray := (splitS s 32).getD k ⟨#[]⟩
theorem wdS_at {s p : ByteArray} {k : Nat} (h : (splitS s 32)[k]? = some p) : wdS s k = p := by unfold wdS; rw [List.getD_eq_getElem?_getD, h]; rfl
theorem wdS_bs {s : ByteArray} {l m : List UInt8} {k : Nat} (hs : s = bs l) (h : (spL 32 l)[k]? = some m) : wdS s k = bs m := by
  have e := splitS_bs l 32
  rw [← e, List.getElem?_map, Option.map_eq_some_iff] at h
  obtain ⟨p, hp, rfl⟩ := h
  subst hs
  rw [wdS_at hp]
  exact data_inj (by unfold bs; simp)
theorem split_ne (s : ByteArray) (c : UInt8) : 0 < (splitS s c).length := by
  have h := splitS_spL s c
  have h2 := spL_ne c s.data.toList
  cases hq : splitS s c with
  | nil => rw [hq] at h; exact absurd h.symm h2
  | cons a t => simp
theorem split_piece {s p : ByteArray} {c : UInt8} (h : p ∈ splitS s c) : p.size ≤ s.size := by
  unfold splitS at h
  rcases List.mem_append.1 h with h | h
  · have : ∀ k, p ∈ spO s c k → p.size ≤ s.size := by
      intro k
      induction k with
      | zero => intro h; simp [spO] at h
      | succ k ih =>
        intro h
        unfold spO at h
        split at h
        · rcases List.mem_append.1 h with h | h
          · exact ih h
          · rw [List.mem_singleton.1 h, ByteArray.size_extract]; omega
        · exact ih h
    exact this _ h
  · rw [List.mem_singleton.1 h, ByteArray.size_extract]; omega
open Classical in
/-- The number of a word, or zero. -/
noncomputable def rdN (s : ByteArray) : Int := if h : ∃ n, Spells s n then h.choose else 0
theorem piR_rd (s : ByteArray) : ∃ b, piR s = .tuple #[.int .i64 (rdN s), .bool b] := by
  unfold piR rdN
  split
  · exact ⟨_, rfl⟩
  · exact ⟨_, rfl⟩
theorem rdN_numS (n : Int) (h1 : -999999 ≤ n) (h2 : n ≤ 999999) : rdN (numS n) = n := by
  have he : ∃ m, Spells (numS n) m := ⟨n, inB_iff.2 ⟨h1, h2⟩, rfl⟩
  unfold rdN
  rw [dif_pos he]
  exact numS_inj he.choose_spec.2
theorem rdN_bd (s : ByteArray) : -999999 ≤ rdN s ∧ rdN s ≤ 999999 := by
  unfold rdN
  split
  · rename_i h
    exact inB_iff.1 h.choose_spec.1
  · omega
end Go.Proofs.YtnadeddkogapoaaGreatDoor
