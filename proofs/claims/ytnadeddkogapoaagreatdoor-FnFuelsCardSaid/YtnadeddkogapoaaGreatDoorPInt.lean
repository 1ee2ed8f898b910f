/- The number of a text, plain facts; in the reference. Conditions: as each states. -/
import Derived.Test.YtnadeddkogapoaaGreatDoorFmt
import Derived.Test.YtnadeddkogapoaaGreatDoorSeal
import Derived.Lib.Atoi
import Derived.Lib.AtoiBound
import Derived.Lib.SmallJoins
import Derived.Test.YtnadeddkogapoaaGreatDoorLow
namespace Go.Proofs.YtnadeddkogapoaaGreatDoor
open Go.ChangeShapes Go.WideShapes Go.ChangeAt Go.RowKit Go.Deep
set_option linter.unusedVariables false
set_option linter.unusedSimpArgs false
set_option maxRecDepth 100000

theorem decFrom_snoc (b : UInt8) (d : Nat) (hd : Lib.digitVal b = some d) : ∀ (l : List UInt8) (a n : Nat), Lib.decFrom a l = some n → Lib.decFrom a (l ++ [b]) = some (n * 10 + d)
  | [], a, n, h => by
    simp only [Lib.decFrom, Option.some.injEq] at h
    subst h
    simp [Lib.decFrom, hd]
  | c :: l, a, n, h => by
    simp only [Lib.decFrom, List.cons_append] at h ⊢
    cases hc : Lib.digitVal c with
    | none => rw [hc] at h; cases h
    | some e =>
      rw [hc] at h
      exact decFrom_snoc b d hd l _ n h
theorem digit_of (r : Nat) (h : r < 10) : Lib.digitVal (UInt8.ofNat (48 + r)) = some r := by
  match r, h with
  | 0, _ => rfl
  | 1, _ => rfl
  | 2, _ => rfl
  | 3, _ => rfl
  | 4, _ => rfl
  | 5, _ => rfl
  | 6, _ => rfl
  | 7, _ => rfl
  | 8, _ => rfl
  | 9, _ => rfl
theorem dec_dec (u : Nat) : Lib.decFrom 0 (Lib.decDigits u) = some u := by
  induction u using Nat.strongRecOn with
  | _ u ih =>
    rw [Lib.decDigits]
    split
    · rename_i h
      have := decFrom_snoc _ u (digit_of u h) [] 0 0 rfl
      simpa using this
    · have := decFrom_snoc _ (u % 10) (digit_of (u % 10) (by omega)) _ 0 (u / 10) (ih (u / 10) (by omega))
      rw [this]
      congr 1
      omega
theorem dec_ne (u : Nat) : Lib.decDigits u ≠ [] := by rw [Lib.decDigits]; split <;> simp
theorem nD_le : ∀ (k u : Nat), u < 10 ^ (k + 1) → Lib.nDigits u ≤ k + 1
  | 0, u, h => by rw [Lib.nDigits_small (by simpa using h)]; exact Nat.le_refl _
  | k + 1, u, h => by
    by_cases h1 : u < 10
    · rw [Lib.nDigits_small h1]; omega
    · rw [Lib.nDigits_big h1]
      have := nD_le k (u / 10) (by rw [Nat.pow_succ] at h; omega)
      omega
theorem dec_len (u : Nat) (h : u < 1000000) : (Lib.decDigits u).length ≤ 6 := by rw [Lib.decDigits_length]; exact nD_le 5 u (by simpa using h)
theorem atoi_itoa (n : Int) : Lib.atoi (Lib.itoa n) = some n := by
  unfold Lib.itoa
  split
  · rename_i h
    have hd := dec_dec n.natAbs
    have hn : Lib.decNat (Lib.decDigits n.natAbs) = some n.natAbs := by
      unfold Lib.decNat
      have : (Lib.decDigits n.natAbs).isEmpty = false := by
        cases hq : Lib.decDigits n.natAbs with
        | nil => exact absurd hq (dec_ne _)
        | cons => rfl
      rw [this]; exact hd
    simp only [Lib.atoi, beq_self_eq_true, if_true, hn, Option.map_some, Option.some.injEq]
    omega
  · rename_i h
    have hd := dec_dec n.toNat
    cases hq : Lib.decDigits n.toNat with
    | nil => exact absurd hq (dec_ne _)
    | cons b r =>
      rw [hq] at hd
      obtain ⟨d, hb⟩ := Lib.digit_of_decFrom _ 0 _ hd 0 b rfl
      have h1 : (b == 45) = false := by
        rw [beq_eq_false_iff_ne]; rintro rfl; cases hb
      have h2 : (b == 43) = false := by
        rw [beq_eq_false_iff_ne]; rintro rfl; cases hb
      unfold Lib.atoi
      simp only [h1, h2, Bool.false_eq_true, if_false]
      unfold Lib.decNat
      simp only [List.isEmpty_cons, Bool.false_eq_true, if_false, hd, Option.map_some, Option.some.injEq]
      omega
theorem numS_atoi (n : Int) : Lib.atoi (numS n).data.toList = some n := by
  unfold numS bs
  rw [List.toList_toArray]; exact atoi_itoa n
theorem numS_inj {n m : Int} (h : numS n = numS m) : n = m := by
  have h1 := numS_atoi n
  rw [h, numS_atoi m] at h1
  exact (Option.some.inj h1).symm
theorem numS_short (n : Int) (h : inB n (-999999) 999999 = true) : (numS n).size ≤ 7 := by
  obtain ⟨h1, h2⟩ := inB_iff.1 h
  unfold numS
  rw [bs_size]
  unfold Lib.itoa
  split
  · have := dec_len n.natAbs (by omega)
    simp; omega
  · have := dec_len n.toNat (by omega)
    omega
/-- A text spells a number. -/
def Spells (s : ByteArray) (n : Int) : Prop := inB n (-999999) 999999 = true ∧ numS n = s
open Classical in
/-- What the number of a text is handed back as. -/
noncomputable def piR (s : ByteArray) : Value := if h : ∃ n, Spells s n then .tuple #[.int .i64 h.choose, .bool true] else .tuple #[.int .i64 0, .bool false]
theorem piR_yes {s : ByteArray} {n : Int} (h : Spells s n) : piR s = .tuple #[.int .i64 n, .bool true] := by
  unfold piR
  have hx : ∃ n, Spells s n := ⟨n, h⟩
  rw [dif_pos hx]
  have := hx.choose_spec
  rw [numS_inj (this.2.trans h.2.symm)]
theorem piR_no {s : ByteArray} (h : ∀ n, ¬ Spells s n) : piR s = .tuple #[.int .i64 0, .bool false] := by
  unfold piR
  rw [dif_neg (fun ⟨n, hn⟩ => h n hn)]
theorem piR_shape (s : ByteArray) : ∃ m b, piR s = .tuple #[.int .i64 m, .bool b] := by
  unfold piR; split <;> exact ⟨_, _, rfl⟩
/-- What a spelt text looks like: an optional minus, then one to six digits of the number's size. -/
theorem spells_form {s : ByteArray} {n : Int} (h : Spells s n) : ∃ l : List UInt8, 1 ≤ l.length ∧ l.length ≤ 6 ∧ Lib.decFrom 0 l = some n.natAbs ∧ s.data.toList = (if n < 0 then 45 :: l else l) := by
  obtain ⟨h1, rfl⟩ := h
  obtain ⟨b1, b2⟩ := inB_iff.1 h1
  refine ⟨Lib.decDigits n.natAbs, ?_, dec_len _ (by omega), dec_dec _, ?_⟩
  · have := dec_ne n.natAbs
    cases hq : Lib.decDigits n.natAbs with
    | nil => exact absurd hq this
    | cons => simp
  · unfold numS bs Lib.itoa
    rw [List.toList_toArray]
    split
    · rfl
    · congr 1; omega
/-- The text behind an optional minus. -/
def TailOf (s T : ByteArray) : Prop := (T = s ∧ ∀ l, s.data.toList = 45 :: l → l = []) ∨ s.data.toList = 45 :: T.data.toList
theorem tail_len {s T : ByteArray} (h : s.data.toList = 45 :: T.data.toList) : s.size = T.size + 1 := by
  have := congrArg List.length h
  simpa using this
theorem spells_tail {s T : ByteArray} {m : Int} (hT : TailOf s T) (h : Spells s m) : 1 ≤ T.size ∧ T.size ≤ 6 ∧ Lib.decFrom 0 T.data.toList = some m.natAbs ∧ ((m < 0 ∧ T.size < s.size) ∨ (0 ≤ m ∧ T.size = s.size)) := by
  obtain ⟨l, h1, h2, h3, h4⟩ := spells_form h
  have hz : ∀ B : ByteArray, B.data.toList.length = B.size := fun B => by simp
  by_cases hm : m < 0
  · rw [if_pos hm] at h4
    rcases hT with ⟨rfl, hh⟩ | hc
    · have := hh l h4; subst this; simp at h1
    · have e : T.data.toList = l := by rw [hc] at h4; exact (List.cons.inj h4).2
      have e2 := hz T
      have e3 := tail_len hc
      rw [e] at e2
      exact ⟨by omega, by omega, by rw [e]; exact h3, Or.inl ⟨hm, by omega⟩⟩
  · rw [if_neg hm] at h4
    rcases hT with ⟨rfl, hh⟩ | hc
    · have e2 := hz T
      rw [h4] at e2
      exact ⟨by omega, by omega, by rw [h4]; exact h3, Or.inr ⟨by omega, rfl⟩⟩
    · rw [hc] at h4
      subst h4
      obtain ⟨d, hd⟩ := Lib.digit_of_decFrom _ 0 _ h3 0 45 rfl
      cases hd
theorem tail_lt {T : ByteArray} {n k : Nat} (h : Lib.decFrom 0 (T.data.toList.take k) = some n) (hk : k ≤ 6) : n < 1000000 := by
  have h1 := Lib.decFrom_lt _ _ _ h
  have h2 : (T.data.toList.take k).length ≤ 6 := by rw [List.length_take]; omega
  have h3 : (10 : Nat) ^ (T.data.toList.take k).length ≤ 10 ^ 6 := Nat.pow_le_pow_right (by omega) h2
  omega
theorem tail_no {s T : ByteArray} {k : Nat} (hT : TailOf s T) (hk : k < T.size) (hb : T[k].toNat < 48 ∨ 57 < T[k].toNat) : ∀ n, ¬ Spells s n := by
  intro n hn
  obtain ⟨_, _, h3, _⟩ := spells_tail hT hn
  have hg : T.data.toList[k]? = some T[k] := by rw [Array.getElem?_toList, Array.getElem?_eq_getElem (show k < T.data.size from hk)]; rfl
  obtain ⟨d, hd⟩ := Lib.digit_of_decFrom _ 0 _ h3 k _ hg
  have := Lib.digitVal_eq hd
  omega
theorem tail_step {T : ByteArray} {k m : Nat} (h : Lib.decFrom 0 (T.data.toList.take k) = some m) (hk : k < T.size) (h1 : 48 ≤ T[k].toNat) (h2 : T[k].toNat ≤ 57) : Lib.decFrom 0 (T.data.toList.take (k + 1)) = some (m * 10 + (T[k].toNat - 48)) := by
  have hg : T.data.toList[k]? = some T[k] := by rw [Array.getElem?_toList, Array.getElem?_eq_getElem (show k < T.data.size from hk)]; rfl
  refine Lib.decFrom_take _ k 0 m _ _ h hg ?_
  have e : T[k] = UInt8.ofNat (48 + (T[k].toNat - 48)) := by
    apply UInt8.toNat_inj.1
    rw [UInt8.toNat_ofNat']
    omega
  rw [e]
  have := digit_of (T[k].toNat - 48) (by omega)
  rw [this]
  congr 1
  rw [UInt8.toNat_ofNat']
  omega
theorem tail_end {s T : ByteArray} {m : Nat} {n : Int} (hT : TailOf s T) (h : Lib.decFrom 0 (T.data.toList.take T.size) = some m) (hz : T.size ≤ 6) (hn : (T.size < s.size ∧ n = -(m : Int)) ∨ (T.size = s.size ∧ n = m)) : (numS n = s → piR s = .tuple #[.int .i64 n, .bool true]) ∧ (numS n ≠ s → piR s = .tuple #[.int .i64 0, .bool false]) := by
  have hlt := tail_lt h hz
  have htk : T.data.toList.take T.size = T.data.toList := List.take_of_length_le (by simp)
  rw [htk] at h
  constructor
  · intro e
    exact piR_yes ⟨inB_iff.2 (by omega), e⟩
  · intro e
    refine piR_no fun k hk => e ?_
    obtain ⟨_, _, h3, h4⟩ := spells_tail hT hk
    rw [h, Option.some.injEq] at h3
    have e2 : n = k := by omega
    rw [e2]; exact hk.2
theorem tail_long {s T : ByteArray} (hT : TailOf s T) (hz : ¬ (1 ≤ T.size ∧ T.size ≤ 6)) : piR s = .tuple #[.int .i64 0, .bool false] := piR_no fun k hk => by
  obtain ⟨h1, h2, _⟩ := spells_tail hT hk
  exact hz ⟨h1, h2⟩
theorem tail_small {s : ByteArray} (h : s.size ≤ 1) : TailOf s s := Or.inl ⟨rfl, fun l hl => by
  have := congrArg List.length hl
  have hz : s.data.toList.length = s.size := by simp
  rw [hz, List.length_cons] at this
  cases l with
  | nil => rfl
  | cons => simp at this; omega⟩
theorem tail_plain {s : ByteArray} (h : 1 < s.size) (hb : (s[0]'(by omega)) ≠ 45) : TailOf s s := Or.inl ⟨rfl, fun l hl => by
  exfalso; apply hb
  have e : s.data.toList[0]? = some 45 := by rw [hl]; rfl
  rw [Array.getElem?_toList, Array.getElem?_eq_getElem (show 0 < s.data.size by have : s.size = s.data.size := rfl; omega)] at e
  exact Option.some.inj e⟩
theorem tail_minus {s : ByteArray} (h : 1 < s.size) (hb : (s[0]'(by omega)) = 45) : TailOf s (s.extract 1 s.size) := Or.inr (by
  have hz : s.data.toList.length = s.size := by simp
  cases hl : s.data.toList with
  | nil => rw [hl] at hz; simp at hz; omega
  | cons b r =>
    have e : s.data.toList[0]? = some b := by rw [hl]; rfl
    rw [Array.getElem?_toList, Array.getElem?_eq_getElem (show 0 < s.data.size by have : s.size = s.data.size := rfl; omega)] at e
    have e2 : b = 45 := by rw [← Option.some.inj e]; exact hb
    subst e2
    congr 1
    have e3 : (s.extract 1 s.size).data.toList = (s.data.toList.take s.size).drop 1 := by rw [ByteArray.data_extract, Array.toList_extract, List.extract_eq_take_drop, List.drop_take]
    rw [e3, List.take_of_length_le (by omega), hl]; rfl)
theorem bytes_ne {a b : ByteArray} (h : a ≠ b) : (a.toList == b.toList) = false := by
  rw [ByteArray.toList_eq, ByteArray.toList_eq, beq_eq_false_iff_ne]
  exact fun e => h (WideShapes.bytes_inj e)
theorem ne45 {b : UInt8} (h : b ≠ 45) : (b.toNat : Int) ≠ 45 := by
  have := u8_ne h
  exact fun e => this (by exact_mod_cast e)
theorem eq45 {b : UInt8} (h : b = 45) : (b.toNat : Int) = 45 := by rw [h]; rfl
theorem ext_size {s T : ByteArray} (h : 1 < s.size) (e : T = s.extract 1 s.size) : s.size - 1 = T.size := by rw [e, ByteArray.size_extract]; omega
theorem ext_lt {s T : ByteArray} (h : 1 < s.size) (e : T = s.extract 1 s.size) : T.size < s.size := by rw [e, ByteArray.size_extract]; omega
set_option maxHeartbeats 4000000 in
theorem l1Read_any (s : ByteArray) (w : World) (hs : s.size ≤ 1048576) : Calls Tryz.prog 39 #[.string s] w fun e w' => e = .returned (piR s) ∧ Below w.heap.size w w' := by
  obtain ⟨T, hT, hTs, hcase⟩ : ∃ T : ByteArray, Hid (TailOf s T) ∧ T.size ≤ s.size ∧ ((s.size ≤ 1 ∧ T = s) ∨ (∃ h : 1 < s.size, (s[0]'(by omega)) ≠ 45 ∧ T = s) ∨ (∃ h : 1 < s.size, (s[0]'(by omega)) = 45 ∧ T = s.extract 1 s.size)) := by
    by_cases h : 1 < s.size
    · by_cases hb : (s[0]'(by omega)) = 45
      · exact ⟨_, Lib.hid (tail_minus h hb), by rw [ByteArray.size_extract]; omega, Or.inr (Or.inr ⟨h, hb, rfl⟩)⟩
      · exact ⟨_, Lib.hid (tail_plain h hb), by omega, Or.inr (Or.inl ⟨h, hb, rfl⟩)⟩
    · exact ⟨_, Lib.hid (tail_small (by omega)), by omega, Or.inl ⟨by omega, rfl⟩⟩
  rcases hcase with ⟨hz, rfl⟩ | ⟨hz, hb, rfl⟩ | ⟨hz, hb, hTe⟩
  · skip
    skip
    skip
    generalize hR : piR T = R
    have hR := Lib.hid hR
    by_cases hL : 1 ≤ T.size ∧ T.size ≤ 6
    · have hI : inB (T.size : Int) 1 6 = true := inB_iff.2 (by omega)
      obtain ⟨hL1, hL2⟩ := hL
      go_enter Tryz.func39, Tryz.ntmps39
      go_wp2_with fail
      skip
      refine (l1In_any _ _ _ _).mono ?_
      rintro e w' ⟨rfl, rfl⟩
      rw [hI]
      go_wp2
      try (skip)
      go_loop [5, 6] (fun n i => ∃ k m : Nat, k ≤ T.size ∧ n = .int .i64 m ∧ i = .int .i64 k ∧ Hid (Lib.decFrom 0 (T.data.toList.take k) = some m)) (fun n i => T.size - (intOf i).toNat)
      case atStart => exact ⟨0, 0, Nat.zero_le _, rfl, rfl, rfl⟩
      case round =>
        obtain ⟨k, m, hk, rfl, rfl, hm⟩ := hrel
        have hm1 := tail_lt hm.out (by omega : k ≤ 6)
        by_cases hlt : k < T.size
        · by_cases hbb : T[k].toNat < 48 ∨ 57 < T[k].toNat
          · have hRn : Hid (R = .tuple #[.int .i64 0, .bool false]) := by have := hR.out; rw [piR_no (tail_no hT.out hlt hbb)] at this; exact this.symm
            rcases hbb with hbb | hbb
            · go_wp2
              go_ret2
              exact ⟨by rw [hRn.out]; rfl, Below.refl _ _⟩
            · have hbb2 : ¬ T[k].toNat < 48 := by omega
              go_wp2
              go_ret2
              exact ⟨by rw [hRn.out]; rfl, Below.refl _ _⟩
          · have hb1 : 48 ≤ T[k].toNat := by omega
            have hb2 : T[k].toNat ≤ 57 := by omega
            have hnx := Lib.hid (tail_step hm.out hlt hb1 hb2)
            go_wp2
            go_round
            case rel => exact ⟨k + 1, m * 10 + (T[k].toNat - 48), by omega, by go_num, by go_num, hnx⟩
            case measure => simp [intOf]; omega
        · have hke : k = T.size := by omega
          subst hke
          have hE := Lib.hid (tail_end (n := (m : Int)) hT.out hm.out hL2 (Or.inr ⟨rfl, rfl⟩))
          go_wp2_with fail
          with_reducible refine (l1Num_any (m : Int) (by omega) (by omega) _).mono ?_
          rintro e w1 ⟨rfl, hb1⟩
          by_cases hq : numS (m : Int) = T
          · have hR2 := hE.out.1 hq
            go_wp2
            go_ret2
            exact ⟨by rw [← hR.out, hR2]; rfl, hb1⟩
          · have hR2 := hE.out.2 hq
            have hne := bytes_ne hq
            go_wp2
            go_ret2
            exact ⟨by rw [← hR.out, hR2]; rfl, hb1⟩
    · have hR2 := Lib.hid (tail_long hT.out hL)
      have hI : inB (T.size : Int) 1 6 = false := by rw [Bool.eq_false_iff]; intro h; have := inB_iff.1 h; omega
      rcases Nat.lt_or_ge T.size 1 with hL1 | hL1
      · first
        | (exfalso; omega)
        | (go_enter Tryz.func39, Tryz.ntmps39
           go_wp2_with fail
           skip
           refine (l1In_any _ _ _ _).mono ?_
           rintro e w' ⟨rfl, rfl⟩
           rw [hI]
           go_wp2
           go_ret2
           exact ⟨by rw [← hR.out, hR2.out]; rfl, Below.refl _ _⟩)
      · have hL2 : 6 < T.size := by omega
        first
        | (exfalso; omega)
        | (go_enter Tryz.func39, Tryz.ntmps39
           go_wp2_with fail
           skip
           refine (l1In_any _ _ _ _).mono ?_
           rintro e w' ⟨rfl, rfl⟩
           rw [hI]
           go_wp2
           go_ret2
           exact ⟨by rw [← hR.out, hR2.out]; rfl, Below.refl _ _⟩)
  · have hb2 := ne45 hb
    skip
    skip
    generalize hR : piR T = R
    have hR := Lib.hid hR
    by_cases hL : 1 ≤ T.size ∧ T.size ≤ 6
    · have hI : inB (T.size : Int) 1 6 = true := inB_iff.2 (by omega)
      obtain ⟨hL1, hL2⟩ := hL
      go_enter Tryz.func39, Tryz.ntmps39
      go_wp2_with fail
      skip
      refine (l1In_any _ _ _ _).mono ?_
      rintro e w' ⟨rfl, rfl⟩
      rw [hI]
      go_wp2
      try (skip)
      go_loop [5, 6] (fun n i => ∃ k m : Nat, k ≤ T.size ∧ n = .int .i64 m ∧ i = .int .i64 k ∧ Hid (Lib.decFrom 0 (T.data.toList.take k) = some m)) (fun n i => T.size - (intOf i).toNat)
      case atStart => exact ⟨0, 0, Nat.zero_le _, rfl, rfl, rfl⟩
      case round =>
        obtain ⟨k, m, hk, rfl, rfl, hm⟩ := hrel
        have hm1 := tail_lt hm.out (by omega : k ≤ 6)
        by_cases hlt : k < T.size
        · by_cases hbb : T[k].toNat < 48 ∨ 57 < T[k].toNat
          · have hRn : Hid (R = .tuple #[.int .i64 0, .bool false]) := by have := hR.out; rw [piR_no (tail_no hT.out hlt hbb)] at this; exact this.symm
            rcases hbb with hbb | hbb
            · go_wp2
              go_ret2
              exact ⟨by rw [hRn.out]; rfl, Below.refl _ _⟩
            · have hbb2 : ¬ T[k].toNat < 48 := by omega
              go_wp2
              go_ret2
              exact ⟨by rw [hRn.out]; rfl, Below.refl _ _⟩
          · have hb1 : 48 ≤ T[k].toNat := by omega
            have hb2 : T[k].toNat ≤ 57 := by omega
            have hnx := Lib.hid (tail_step hm.out hlt hb1 hb2)
            go_wp2
            go_round
            case rel => exact ⟨k + 1, m * 10 + (T[k].toNat - 48), by omega, by go_num, by go_num, hnx⟩
            case measure => simp [intOf]; omega
        · have hke : k = T.size := by omega
          subst hke
          have hE := Lib.hid (tail_end (n := (m : Int)) hT.out hm.out hL2 (Or.inr ⟨rfl, rfl⟩))
          go_wp2_with fail
          with_reducible refine (l1Num_any (m : Int) (by omega) (by omega) _).mono ?_
          rintro e w1 ⟨rfl, hb1⟩
          by_cases hq : numS (m : Int) = T
          · have hR2 := hE.out.1 hq
            go_wp2
            go_ret2
            exact ⟨by rw [← hR.out, hR2]; rfl, hb1⟩
          · have hR2 := hE.out.2 hq
            have hne := bytes_ne hq
            go_wp2
            go_ret2
            exact ⟨by rw [← hR.out, hR2]; rfl, hb1⟩
    · have hR2 := Lib.hid (tail_long hT.out hL)
      have hI : inB (T.size : Int) 1 6 = false := by rw [Bool.eq_false_iff]; intro h; have := inB_iff.1 h; omega
      rcases Nat.lt_or_ge T.size 1 with hL1 | hL1
      · first
        | (exfalso; omega)
        | (go_enter Tryz.func39, Tryz.ntmps39
           go_wp2_with fail
           skip
           refine (l1In_any _ _ _ _).mono ?_
           rintro e w' ⟨rfl, rfl⟩
           rw [hI]
           go_wp2
           go_ret2
           exact ⟨by rw [← hR.out, hR2.out]; rfl, Below.refl _ _⟩)
      · have hL2 : 6 < T.size := by omega
        first
        | (exfalso; omega)
        | (go_enter Tryz.func39, Tryz.ntmps39
           go_wp2_with fail
           skip
           refine (l1In_any _ _ _ _).mono ?_
           rintro e w' ⟨rfl, rfl⟩
           rw [hI]
           go_wp2
           go_ret2
           exact ⟨by rw [← hR.out, hR2.out]; rfl, Below.refl _ _⟩)
  · have hb2 := eq45 hb
    have hl := ext_lt hz hTe
    replace hTe := Lib.hid hTe
    generalize hR : piR s = R
    have hR := Lib.hid hR
    by_cases hL : 1 ≤ T.size ∧ T.size ≤ 6
    · have hI : inB (T.size : Int) 1 6 = true := inB_iff.2 (by omega)
      obtain ⟨hL1, hL2⟩ := hL
      go_enter Tryz.func39, Tryz.ntmps39
      go_wp2_with fail
      rw [← hTe.out, ext_size hz hTe.out]
      refine (l1In_any _ _ _ _).mono ?_
      rintro e w' ⟨rfl, rfl⟩
      rw [hI]
      go_wp2
      try (rw [← hTe.out, ext_size hz hTe.out])
      go_loop [5, 6] (fun n i => ∃ k m : Nat, k ≤ T.size ∧ n = .int .i64 m ∧ i = .int .i64 k ∧ Hid (Lib.decFrom 0 (T.data.toList.take k) = some m)) (fun n i => T.size - (intOf i).toNat)
      case atStart => exact ⟨0, 0, Nat.zero_le _, rfl, rfl, rfl⟩
      case round =>
        obtain ⟨k, m, hk, rfl, rfl, hm⟩ := hrel
        have hm1 := tail_lt hm.out (by omega : k ≤ 6)
        by_cases hlt : k < T.size
        · by_cases hbb : T[k].toNat < 48 ∨ 57 < T[k].toNat
          · have hRn : Hid (R = .tuple #[.int .i64 0, .bool false]) := by have := hR.out; rw [piR_no (tail_no hT.out hlt hbb)] at this; exact this.symm
            rcases hbb with hbb | hbb
            · go_wp2
              go_ret2
              exact ⟨by rw [hRn.out]; rfl, Below.refl _ _⟩
            · have hbb2 : ¬ T[k].toNat < 48 := by omega
              go_wp2
              go_ret2
              exact ⟨by rw [hRn.out]; rfl, Below.refl _ _⟩
          · have hb1 : 48 ≤ T[k].toNat := by omega
            have hb2 : T[k].toNat ≤ 57 := by omega
            have hnx := Lib.hid (tail_step hm.out hlt hb1 hb2)
            go_wp2
            go_round
            case rel => exact ⟨k + 1, m * 10 + (T[k].toNat - 48), by omega, by go_num, by go_num, hnx⟩
            case measure => simp [intOf]; omega
        · have hke : k = T.size := by omega
          subst hke
          have hE := Lib.hid (tail_end (n := (-(m : Int))) hT.out hm.out hL2 (Or.inl ⟨hl, rfl⟩))
          go_wp2_with fail
          with_reducible refine (l1Num_any (-(m : Int)) (by omega) (by omega) _).mono ?_
          rintro e w1 ⟨rfl, hb1⟩
          by_cases hq : numS (-(m : Int)) = s
          · have hR2 := hE.out.1 hq
            go_wp2
            go_ret2
            exact ⟨by rw [← hR.out, hR2]; rfl, hb1⟩
          · have hR2 := hE.out.2 hq
            have hne := bytes_ne hq
            go_wp2
            go_ret2
            exact ⟨by rw [← hR.out, hR2]; rfl, hb1⟩
    · have hR2 := Lib.hid (tail_long hT.out hL)
      have hI : inB (T.size : Int) 1 6 = false := by rw [Bool.eq_false_iff]; intro h; have := inB_iff.1 h; omega
      rcases Nat.lt_or_ge T.size 1 with hL1 | hL1
      · first
        | (exfalso; omega)
        | (go_enter Tryz.func39, Tryz.ntmps39
           go_wp2_with fail
           rw [← hTe.out, ext_size hz hTe.out]
           refine (l1In_any _ _ _ _).mono ?_
           rintro e w' ⟨rfl, rfl⟩
           rw [hI]
           go_wp2
           go_ret2
           exact ⟨by rw [← hR.out, hR2.out]; rfl, Below.refl _ _⟩)
      · have hL2 : 6 < T.size := by omega
        first
        | (exfalso; omega)
        | (go_enter Tryz.func39, Tryz.ntmps39
           go_wp2_with fail
           rw [← hTe.out, ext_size hz hTe.out]
           refine (l1In_any _ _ _ _).mono ?_
           rintro e w' ⟨rfl, rfl⟩
           rw [hI]
           go_wp2
           go_ret2
           exact ⟨by rw [← hR.out, hR2.out]; rfl, Below.refl _ _⟩)
/-- The sentinel stands. -/
def SynIs (w : World) : Prop := ∃ tp p, w.var? Tryz.prog "strconv.ErrSyntax" = some #[.iface tp p]
set_option maxHeartbeats 2000000 in
theorem ParseInt_any (s : ByteArray) (w : World) (hs : s.size ≤ 1048576) (ht : Lib.TabIs Tryz.prog w "internal/strconv.uint64pow10" .u64 Lib.pow10Tab) (hy : SynIs w) : Calls Tryz.prog 66 #[.string s] w fun e w' => e = .returned (piR s) ∧ Below w.heap.size w w' := by
  by_cases h7 : 7 < s.size
  · have hR := Lib.hid (piR_no (s := s) fun n hn => by have := numS_short n hn.1; rw [hn.2] at this; omega)
    clear ht hy
    go_enter Tryz.func66, Tryz.ntmps66
    go_wp2
    go_ret2
    exact ⟨by rw [hR.out]; rfl, Below.refl _ _⟩
  · cases hn : Lib.atoi s.data.toList with
    | none =>
      have hR := Lib.hid (piR_no (s := s) fun n hn' => by
        have := numS_atoi n
        rw [hn'.2, hn] at this; cases this)
      obtain ⟨tp, p, hv⟩ := hy
      have HA := Lib.hid (Tryz.strconv_Atoi_err_var s (by omega) hn tp p w hv)
      have HF := Lib.hid fun W (hW : Below w.heap.size w W) => FormatInt_any 0 W (tab_below gPow ht hW)
      have e0 : inB 0 (-999999) 999999 = true := rfl
      rw [e0] at HF
      clear ht hv hn
      generalize numS 0 = nb at *
      go_enter Tryz.func66, Tryz.ntmps66
      go_wp2_with fail
      refine HA.out.mono ?_
      rintro e w1 ⟨N, rfl, _, _, hb1⟩
      have HF1 := Lib.hid (HF.out w1 hb1)
      clear HF
      go_wp2_with fail
      refine HF1.out.mono ?_
      rintro e w2 ⟨rfl, hb2⟩
      have hb2 := grow_trans hb1 hb2
      unfold strV
      go_wp2
      go_ret2
      exact ⟨by rw [hR.out]; rfl, hb2⟩
    | some n =>
      have HA := Lib.hid (Tryz.strconv_Atoi s n (by omega) hn w)
      have HF := Lib.hid fun W (hW : Below w.heap.size w W) => FormatInt_any n W (tab_below gPow ht hW)
      have hbd := Lib.atoi_bound hn (by have : s.data.toList.length = s.size := by simp
                                        omega)
      have hun : ∀ k, Spells s k → k = n := fun k hk => by
        have := numS_atoi k
        rw [hk.2, hn] at this
        exact (Option.some.inj this).symm
      clear ht hy hn
      cases hI : inB n (-999999) 999999 with
      | false =>
        have hR := Lib.hid (piR_no (s := s) fun k hk => by have := hun k hk; subst this; rw [hk.1] at hI; cases hI)
        rw [hI] at HF
        clear hI hun
        generalize numS n = nb at *
        go_enter Tryz.func66, Tryz.ntmps66
        go_wp2_with fail
        refine HA.out.mono ?_
        rintro e w1 ⟨rfl, t, rfl⟩
        have hb1 : Below w.heap.size w (Lib.bytesWorld w 5 t) := Go.Joins.below_bytesWorld _ _ _ _ (Nat.le_refl _)
        generalize Lib.bytesWorld w 5 t = w1 at *
        have HF1 := Lib.hid (HF.out w1 hb1)
        clear HF
        go_wp2_with fail
        refine HF1.out.mono ?_
        rintro e w2 ⟨rfl, hb2⟩
        have hb2 := grow_trans hb1 hb2
        unfold strV
        go_wp2
        go_ret2
        exact ⟨by rw [hR.out]; rfl, hb2⟩
      | true =>
        rw [hI] at HF
        by_cases hq : numS n = s
        · have hR := Lib.hid (piR_yes ⟨hI, hq⟩)
          rw [hq] at HF
          clear hI hun hq
          go_enter Tryz.func66, Tryz.ntmps66
          go_wp2_with fail
          refine HA.out.mono ?_
          rintro e w1 ⟨rfl, t, rfl⟩
          have hb1 : Below w.heap.size w (Lib.bytesWorld w 5 t) := Go.Joins.below_bytesWorld _ _ _ _ (Nat.le_refl _)
          generalize Lib.bytesWorld w 5 t = w1 at *
          have HF1 := Lib.hid (HF.out w1 hb1)
          clear HF
          go_wp2_with fail
          refine HF1.out.mono ?_
          rintro e w2 ⟨rfl, hb2⟩
          have hb2 := grow_trans hb1 hb2
          unfold strV
          go_wp2
          go_ret2
          exact ⟨by rw [hR.out]; rfl, hb2⟩
        · have hR := Lib.hid (piR_no (s := s) fun k hk => by have := hun k hk; subst this; exact hq hk.2)
          have hne := bytes_ne hq
          clear hI hun hq
          generalize numS n = nb at *
          go_enter Tryz.func66, Tryz.ntmps66
          go_wp2_with fail
          refine HA.out.mono ?_
          rintro e w1 ⟨rfl, t, rfl⟩
          have hb1 : Below w.heap.size w (Lib.bytesWorld w 5 t) := Go.Joins.below_bytesWorld _ _ _ _ (Nat.le_refl _)
          generalize Lib.bytesWorld w 5 t = w1 at *
          have HF1 := Lib.hid (HF.out w1 hb1)
          clear HF
          go_wp2_with fail
          refine HF1.out.mono ?_
          rintro e w2 ⟨rfl, hb2⟩
          have hb2 := grow_trans hb1 hb2
          unfold strV
          go_wp2
          go_ret2
          exact ⟨by rw [hR.out]; rfl, hb2⟩
/-- The sentinel's facts. -/
theorem gSyn : Tryz.prog.globalNamed "strconv.ErrSyntax" = some 4 := by kernel_rfl
theorem tSyn : (Tryz.prog.globals[4]?).map (·.type) = some 84 := by kernel_rfl
theorem synStar : "*" ++ "errors.errorString" = "*errors.errorString" := by decide
theorem synRow (u : TypeId) (h : Tryz.prog.typeName? 3 u = some "*errors.errorString") : u = 160 :=
  typeName_ptr_named (nm := "errors.errorString") (by rw [synStar]; kernel_rfl) (by kernel_rfl) (by decide) u (by rw [synStar]; exact h)
theorem synC1 : Tryz.prog.cellsOf 162 = 1 := by kernel_rfl
theorem synC2 : Tryz.prog.cellsOf 9 = 1 := by kernel_rfl
theorem syn_of {W : World} {a b c d : String × DataW Unit} {rest : List (String × DataW Unit)} (h : laidMet Tryz.prog (a :: b :: c :: d :: ("strconv.ErrSyntax", Rows.laid_strconv_ErrSyntax) :: rest) W) : SynIs W := by
  obtain ⟨a, s, h1, _⟩ := Go.laid_sentinel (laidMet.tail (laidMet.tail (laidMet.tail (laidMet.tail h)))) gSyn tSyn Tryz.underlying84 synRow Tryz.underlying160 Tryz.underlying162 rfl rfl Tryz.underlying9 synC1 synC2
  exact ⟨_, _, h1⟩
theorem syn_below {w w' : World} (h : SynIs w) (hb : Below w.heap.size w w') : SynIs w' := by
  obtain ⟨tp, p, h⟩ := h
  refine ⟨tp, p, ?_⟩
  unfold World.var? at *
  simp only [gSyn, Option.bind_some] at h ⊢
  have hlt : 4 < w.heap.size := by
    cases hq : w.heap[4]? with
    | none => simp [hq] at h
    | some o => exact (Array.getElem?_eq_some_iff.1 hq).1
  rw [hb.block _ hlt]
  exact h
end Go.Proofs.YtnadeddkogapoaaGreatDoor
