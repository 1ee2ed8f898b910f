/- A text's parts between bytes, in the reference. Conditions: as each states. -/
import Derived.Test.YtnadeddkogapoaaGreatDoorSeal
import Derived.Lib.IndexLaws
namespace Go.Proofs.YtnadeddkogapoaaGreatDoor
open Go.ChangeShapes Go.WideShapes Go.ChangeAt Go.RowKit Go.Deep
set_option linter.unusedVariables false
set_option linter.unusedSimpArgs false
set_option maxRecDepth 100000

/-- Where the part begins that the first bytes leave open. -/
def spF (s : ByteArray) (c : UInt8) : Nat → Nat
  | 0 => 0
  | k + 1 => if s.data[k]? = some c then k + 1 else spF s c k
/-- The parts that the first bytes close. -/
def spO (s : ByteArray) (c : UInt8) : Nat → List ByteArray
  | 0 => []
  | k + 1 => if s.data[k]? = some c then spO s c k ++ [s.extract (spF s c k) k] else spO s c k
def splitS (s : ByteArray) (c : UInt8) : List ByteArray := spO s c s.size ++ [s.extract (spF s c s.size) s.size]
theorem spF_le (s : ByteArray) (c : UInt8) (k : Nat) : spF s c k ≤ k := by
  induction k with
  | zero => exact Nat.le_refl _
  | succ k ih => unfold spF; split <;> omega
theorem spO_le (s : ByteArray) (c : UInt8) (k : Nat) : (spO s c k).length ≤ k := by
  induction k with
  | zero => exact Nat.le_refl _
  | succ k ih =>
    unfold spO; split
    · simp; omega
    · omega
theorem sp_hit {s : ByteArray} {c : UInt8} {k : Nat} (hk : k < s.size) (h : s[k] = c) : spF s c (k + 1) = k + 1 ∧ spO s c (k + 1) = spO s c k ++ [s.extract (spF s c k) k] := by
  have : s.data[k]? = some c := by
    have e : s.data[k]'hk = c := h
    rw [Array.getElem?_eq_getElem hk, e]
  simp [spF, spO, this]
theorem sp_miss {s : ByteArray} {c : UInt8} {k : Nat} (hk : k < s.size) (h : s[k] ≠ c) : spF s c (k + 1) = spF s c k ∧ spO s c (k + 1) = spO s c k := by
  have : s.data[k]? ≠ some c := by
    rw [Array.getElem?_eq_getElem hk]
    exact fun e => h (Option.some.inj e)
  simp [spF, spO, this]
theorem sp_none {s : ByteArray} {c : UInt8} : ∀ {k : Nat}, (∀ j, j < k → s.data[j]? ≠ some c) → spF s c k = 0 ∧ spO s c k = []
  | 0, _ => ⟨rfl, rfl⟩
  | k + 1, h => by
    obtain ⟨h1, h2⟩ := sp_none (k := k) (fun j hj => h j (by omega))
    have := h k (by omega)
    simp [spF, spO, this, h1, h2]
/-- What stands ahead of the first byte of a kind. -/
def preS (s : ByteArray) : ByteArray := if 0 ≤ Lib.indexByte s.data.toList 35 then s.extract 0 (Lib.indexByte s.data.toList 35).toNat else s
theorem ext_all (s : ByteArray) : s.extract 0 s.size = s := by
  apply ByteArray.ext
  simp
theorem split_head (s : ByteArray) : (splitS s 35)[0]? = some (preS s) := by
  unfold preS
  by_cases h : 0 ≤ Lib.indexByte s.data.toList 35
  · rw [if_pos h]
    obtain ⟨o, ho⟩ := Int.eq_ofNat_of_zero_le h
    rw [ho, Int.toNat_natCast]
    obtain ⟨h1, h2⟩ := Lib.indexByte_some ho
    rw [Array.getElem?_toList] at h1
    obtain ⟨e1, e2⟩ := sp_none (s := s) (c := 35) (k := o) (fun j hj => by have := h2 j hj; rwa [Array.getElem?_toList] at this)
    have hlt : o < s.size := by
      have := (Array.getElem?_eq_some_iff.1 h1).1
      exact this
    have hs : ∀ m, (spO s 35 (o + 1 + m))[0]? = some (s.extract 0 o) := by
      intro m
      induction m with
      | zero => show (if s.data[o]? = some 35 then spO s 35 o ++ [s.extract (spF s 35 o) o] else spO s 35 o)[0]? = _; rw [if_pos h1, e1, e2]; rfl
      | succ m ih =>
        show (if s.data[o + 1 + m]? = some 35 then spO s 35 (o + 1 + m) ++ [s.extract (spF s 35 (o + 1 + m)) (o + 1 + m)] else spO s 35 (o + 1 + m))[0]? = _
        split
        · rw [List.getElem?_append_left (List.getElem?_eq_some_iff.1 ih).1]; exact ih
        · exact ih
    have := hs (s.size - (o + 1))
    rw [show o + 1 + (s.size - (o + 1)) = s.size by omega] at this
    unfold splitS
    rw [List.getElem?_append_left (List.getElem?_eq_some_iff.1 this).1]; exact this
  · rw [if_neg h]
    have hm := Lib.indexByte_ge s.data.toList 35
    have h1 := Lib.indexByte_none (show Lib.indexByte s.data.toList 35 = -1 by omega)
    obtain ⟨e1, e2⟩ := sp_none (s := s) (c := 35) (k := s.size) (fun j hj => by have := h1 j; rwa [Array.getElem?_toList] at this)
    unfold splitS
    rw [e1, e2, ext_all]; rfl
theorem info_string : (Tryz.prog.info? 9).map (fun i => (i.zero, i.size, i.bytes)) = some (some (.string ⟨#[]⟩), 1, 16) := by kernel_rfl
theorem strs_snoc {w : World} {base : Nat} {v : Value} {xs ys : List ByteArray} {x : ByteArray} (hy : ys = xs ++ [x]) (h : Qw w base 9 1 v (xs.length + 1) (xs.map Value.string ++ [.string x])) : Qw w base 9 1 v ys.length (ys.map Value.string) := by
  rw [hy]; simpa using h
set_option maxHeartbeats 2000000 in
theorem l1Split_any (s : ByteArray) (c : UInt8) (w : World) (hs : s.size ≤ 1048576) :
    Calls Tryz.prog 38 #[.string s, .int .u8 c.toNat] w (RetQ w 9 1 (splitS s c).length ((splitS s c).map Value.string)) := by
  obtain ⟨i0, hi, hz0, hz1, hz2⟩ := info_parts info_string
  have HF : Hid (splitS s c = spO s c s.size ++ [s.extract (spF s c s.size) s.size]) := rfl
  generalize splitS s c = P at *
  have hq0 : Hid (Qw (w.alloc (.cells #[] 9)) w.heap.size 9 1 (.slice (some ⟨w.heap.size, 0, none⟩) 0 0) (spO s c 0).length ((spO s c 0).map Value.string)) := Qw.emptyAt (hp0 _ _) (Nat.le_refl _)
  have hb0 : Hid (Below w.heap.size w (w.alloc (.cells #[] 9))) := grow_alloc _ _
  go_enter Tryz.func38, Tryz.ntmps38
  go_wp2
  go_loopw [5, 6, 7] (fun o f i wr => ∃ k : Nat, k ≤ s.size ∧ i = .int .i64 k ∧ f = .int .i64 (spF s c k) ∧ Hid (Below w.heap.size w wr) ∧ Hid (Qw wr w.heap.size 9 1 o (spO s c k).length ((spO s c k).map Value.string))) (fun _ _ i _ => s.size - (intOf i).toNat)
  case atStart => exact ⟨0, Nat.zero_le _, rfl, rfl, hb0.out, hq0.out⟩
  case round =>
    obtain ⟨k, hk, rfl, rfl, hb, hq⟩ := hrel
    have hfl := spF_le s c k
    have hol := spO_le s c k
    have hsz := hb.out.size
    by_cases hlt : k < s.size
    · have hlz : (k : Int) < (s.size : Int) := by omega
      by_cases hqc : s[k] = c
      · obtain ⟨e1, e2⟩ := sp_hit hlt hqc
        have E1 := Lib.hid e1
        have E2 := Lib.hid e2
        have hq' : s[k].toNat = c.toNat := by rw [hqc]
        clear e1 e2
        generalize hf : spF s c k = f at *
        generalize hol2 : spO s c k = O at *
        have hq2 := Lib.hid (Qw.below hq.out (grow_alloc wr (.cells #[.string (s.extract f k)] 9)))
        go_wp2_with ((at_builtin; refine wpList_append_q _ rfl _ _ 42 rfl w.heap.size 9 i0 (.string ⟨#[]⟩) 1 16 Tryz.underlying42 hi hz0 hz1 hz2 rfl (by decide) _ _ _ rfl hq2.out _ 1 [.string (s.extract f k)] rfl (Sl.boxAt (hp0 _ _)) (by intro u hu; simp at hu; subst hu; rfl) (by unfold maxLen; omega) (by omega) (by simp; omega) ?_))
        intro vA wA hqA hgA hdA
        have hqB := Lib.hid (strs_snoc E2.out hqA)
        have hbA := Lib.hid ((hb.out.alloc hb.out.size _).grown hgA (by simp; omega) (fun j hj => (hq.out.lt j hj).1))
        clear hqA hgA hdA
        go_wp2
        go_roundw
        case rel => exact ⟨k + 1, by omega, by go_num, by rw [E1.out]; go_num, hbA.out, hqB.out⟩
        case measure => simp [intOf]; omega
      · obtain ⟨e1, e2⟩ := sp_miss hlt hqc
        have E1 := Lib.hid e1
        have E2 := Lib.hid e2
        have hq' : s[k].toNat ≠ c.toNat := u8_ne hqc
        have hq2 : ¬ ((s[k].toNat : Int) = (c.toNat : Int)) := by omega
        have hq3 : ((s[k].toNat : Int) == (c.toNat : Int)) = false := by simpa using hq2
        clear e1 e2
        go_wp2
        go_roundw
        case rel => exact ⟨k + 1, by omega, by go_num, by rw [E1.out], hb.out, by show Qw _ _ _ _ _ _ _; rw [E2.out]; exact hq.out⟩
        case measure => simp [intOf]; omega
    · obtain rfl : k = s.size := by omega
      generalize hf : spF s c s.size = f at *
      generalize hol2 : spO s c s.size = O at *
      have hq2 := Lib.hid (Qw.below hq.out (grow_alloc wr (.cells #[.string (s.extract f s.size)] 9)))
      go_wp2_with ((at_builtin; refine wpList_append_q _ rfl _ _ 42 rfl w.heap.size 9 i0 (.string ⟨#[]⟩) 1 16 Tryz.underlying42 hi hz0 hz1 hz2 rfl (by decide) _ _ _ rfl hq2.out _ 1 [.string (s.extract f s.size)] rfl (Sl.boxAt (hp0 _ _)) (by intro u hu; simp at hu; subst hu; rfl) (by unfold maxLen; omega) (by omega) (by simp; omega) ?_))
      intro vA wA hqA hgA hdA
      have hqB := Lib.hid (strs_snoc HF.out hqA)
      have hbA := Lib.hid ((hb.out.alloc hb.out.size _).grown hgA (by simp; omega) (fun j hj => (hq.out.lt j hj).1))
      clear hqA hgA hdA
      go_wp2
      go_ret
      exact ⟨_, rfl, hqB.out, hbA.out⟩
end Go.Proofs.YtnadeddkogapoaaGreatDoor
