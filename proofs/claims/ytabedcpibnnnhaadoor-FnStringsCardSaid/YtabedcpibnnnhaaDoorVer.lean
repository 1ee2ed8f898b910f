/- A text out of one with its checksum, in the program and in the reference. Conditions: as each states. -/
import Derived.Test.YtabedcpibnnnhaaDoorSplit
import Derived.Test.YtabedcpibnnnhaaDoorShelfK
namespace Go.Proofs.YtabedcpibnnnhaaDoor
open Go.ChangeShapes Go.WideShapes Go.ChangeAt Go.RowKit Go.Deep
set_option linter.unusedVariables false
set_option linter.unusedSimpArgs false
set_option maxRecDepth 100000

def vfB (s : ByteArray) : Bool := decide (s.size ≤ 4000) && decide (sealS (preS s) = s)
theorem pre_size (s : ByteArray) : (preS s).size ≤ s.size := by
  unfold preS
  split
  · rw [ByteArray.size_extract]; omega
  · exact Nat.le_refl _
theorem pre_free (s : ByteArray) : hasC (preS s) 35 = false := by
  refine not_mem_of fun k hk e => ?_
  have hsz := pre_size s
  have hks : k < s.size := by omega
  by_cases h : 0 ≤ Lib.indexByte s.data.toList 35
  · obtain ⟨o, ho⟩ := Int.eq_ofNat_of_zero_le h
    obtain ⟨h1, h2⟩ := Lib.indexByte_some ho
    have hpre : preS s = s.extract 0 o := by unfold preS; rw [if_pos h, ho, Int.toNat_natCast]
    have key : ∀ t, t = s.extract 0 o → ∀ (hk : k < t.size), t[k] = 35 → False := by
      rintro _ rfl hk e
      have hko : k < o := by rw [ByteArray.size_extract] at hk; omega
      have := h2 k hko
      rw [Array.getElem?_toList] at this
      apply this
      have e2 : s.data[k]'hks = 35 := by
        have e3 := ByteArray.getElem_extract hk
        rw [e3] at e
        have e4 : s[k] = 35 := by simpa using e
        exact e4
      rw [Array.getElem?_eq_getElem hks, e2]
    exact key _ hpre hk e
  · have hm := Lib.indexByte_ge s.data.toList 35
    have h1 := Lib.indexByte_none (show Lib.indexByte s.data.toList 35 = -1 by omega) k
    have hpre : preS s = s := by unfold preS; rw [if_neg h]
    have key : ∀ t, t = s → ∀ (hk : k < t.size), t[k] = 35 → False := by
      intro t ht hk' e'
      rw [Array.getElem?_toList] at h1
      apply h1
      have e2 : s.data[k]'hks = 35 := by subst ht; exact e'
      rw [Array.getElem?_eq_getElem hks, e2]
    exact key _ hpre hk e
theorem seal_size (s : ByteArray) : s.size ≤ (sealS s).size := by unfold sealS; rw [app_size, app_size]; omega
theorem ver_ap {s : ByteArray} : (apB (preS s) && decide (sealS (preS s) = s)) = vfB s := by
  unfold vfB
  by_cases h : sealS (preS s) = s
  · have h1 := seal_size (preS s)
    rw [h] at h1
    unfold apB
    rw [pre_free, h]
    by_cases h2 : s.size ≤ 4000
    · have h3 : (preS s).size ≤ 4000 := by omega
      simp [h2, h3]
    · simp [h2]
  · simp [h]
set_option maxHeartbeats 1000000 in
theorem Cut_lite (s : ByteArray) (w : World) (hs : s.size ≤ 1048576) :
    Calls Tryd.prog 83 #[.string s, .string ⟨#[35]⟩] w fun e w' => (∃ u b, e = .returned (.tuple #[.string (preS s), .string u, .bool b])) ∧ Below w.heap.size w w' := by
  have HI := Lib.hid fun W => Tryd.stringslite_Index_one s 35 W
  have HR : Hid (preS s = if 0 ≤ Lib.indexByte s.data.toList 35 then s.extract 0 (Lib.indexByte s.data.toList 35).toNat else s) := rfl
  have hlt : 0 ≤ Lib.indexByte s.data.toList 35 → (Lib.indexByte s.data.toList 35) < s.size := fun h => by
    obtain ⟨o, ho⟩ := Int.eq_ofNat_of_zero_le h
    obtain ⟨h1, _⟩ := Lib.indexByte_some ho
    have := (List.getElem?_eq_some_iff.1 h1).1
    rw [ho]
    have e : s.data.toList.length = s.size := by simp
    omega
  generalize Lib.indexByte s.data.toList 35 = i at *
  generalize preS s = t at *
  by_cases h : 0 ≤ i
  · obtain ⟨o, rfl⟩ := Int.eq_ofNat_of_zero_le h
    have hlt2 := hlt h
    have hlt3 : o < s.size := by omega
    have ht : t = s.extract 0 o := by rw [HR.out, if_pos h, Int.toNat_natCast]
    subst ht
    clear HR hlt
    go_enter Tryd.func83, Tryd.ntmps83
    go_wp2_with fail
    refine (HI.out _).mono ?_
    rintro e w1 ⟨rfl, rfl⟩
    go_wp2_with fail
    go_quiet (fail)
    go_wp2
    exact bodyPost_ret (v := .tuple #[.string (s.extract 0 o), .string (s.extract (o + 1) s.size), .bool true]) (by simp [results, Tryd.results83, go_sem]) rfl ⟨⟨_, _, rfl⟩, grow_drewN _ _⟩
  · have ht : t = s := by rw [HR.out, if_neg h]
    subst ht
    clear HR hlt
    go_enter Tryd.func83, Tryd.ntmps83
    go_wp2_with fail
    refine (HI.out _).mono ?_
    rintro e w1 ⟨rfl, rfl⟩
    go_wp2
    exact bodyPost_ret (v := .tuple #[.string t, .string ⟨#[]⟩, .bool false]) (by simp [results, Tryd.results83, go_sem]) rfl ⟨⟨_, _, rfl⟩, Below.refl _ _⟩
theorem Cut_any (s : ByteArray) (w : World) (hs : s.size ≤ 1048576) :
    Calls Tryd.prog 52 #[.string s, .string ⟨#[35]⟩] w fun e w' => (∃ u b, e = .returned (.tuple #[.string (preS s), .string u, .bool b])) ∧ Below w.heap.size w w' := by
  have HI := Lib.hid (Cut_lite s w hs)
  generalize preS s = t at *
  go_enter Tryd.func52, Tryd.ntmps52
  go_wp2_with fail
  refine HI.out.mono ?_
  rintro e w1 ⟨⟨u, b, rfl⟩, hb1⟩
  go_wp2
  exact bodyPost_ret (v := .tuple #[.string t, .string u, .bool b]) (by simp [results, Tryd.results52, go_sem]) rfl ⟨⟨u, b, rfl⟩, hb1⟩
set_option maxHeartbeats 1000000 in
theorem VerifyChecksum_any (s : ByteArray) (w : World) (hs : s.size ≤ 1048576) (ht : Lib.TabIs Tryd.prog w "internal/strconv.uint64pow10" .u64 Lib.pow10Tab) :
    Calls Tryd.prog 16 #[.string s] w fun e w' => e = .returned (strV (vfB s) (preS s)) ∧ Below w.heap.size w w' := by
  have HB : Hid ((apB (preS s) && decide (sealS (preS s) = s)) = vfB s) := ver_ap
  have HC := Lib.hid fun W => Cut_any s W hs
  have HA := Lib.hid fun W (hW : Below w.heap.size w W) => AppendChecksum_any (preS s) W (Nat.le_trans (pre_size s) hs) (tab_below gPow ht hW)
  clear ht
  generalize vfB s = b at *
  generalize sealS (preS s) = R at *
  generalize apB (preS s) = a at *
  generalize preS s = t at *
  cases a with
  | false =>
    have hb : b = false := by rw [← HB.out]; rfl
    subst hb
    clear HB
    go_enter Tryd.func16, Tryd.ntmps16
    go_wp2_with fail
    refine (HC.out _).mono ?_
    rintro e w1 ⟨⟨u, c, rfl⟩, hb1⟩
    have HA1 := Lib.hid (HA.out w1 hb1)
    go_wp2_with fail
    refine HA1.out.mono ?_
    rintro e w2 ⟨rfl, hb2⟩
    have hb2 := grow_trans hb1 hb2
    unfold strV
    go_wp2
    go_ret2
    exact ⟨rfl, hb2⟩
  | true =>
    by_cases h2 : R = s
    · have hb : b = true := by rw [← HB.out, decide_eq_true h2]; rfl
      subst hb
      subst h2
      clear HB
      go_enter Tryd.func16, Tryd.ntmps16
      go_wp2_with fail
      refine (HC.out _).mono ?_
      rintro e w1 ⟨⟨u, c, rfl⟩, hb1⟩
      have HA1 := Lib.hid (HA.out w1 hb1)
      go_wp2_with fail
      refine HA1.out.mono ?_
      rintro e w2 ⟨rfl, hb2⟩
      have hb2 := grow_trans hb1 hb2
      unfold strV
      go_wp2
      go_ret2
      exact ⟨rfl, hb2⟩
    · have hb : b = false := by rw [← HB.out, decide_eq_false h2]; rfl
      subst hb
      have hne : (R.toList == s.toList) = false := by
        rw [ByteArray.toList_eq, ByteArray.toList_eq, beq_eq_false_iff_ne]
        exact fun e => h2 (WideShapes.bytes_inj e)
      clear HB
      go_enter Tryd.func16, Tryd.ntmps16
      go_wp2_with fail
      refine (HC.out _).mono ?_
      rintro e w1 ⟨⟨u, c, rfl⟩, hb1⟩
      have HA1 := Lib.hid (HA.out w1 hb1)
      go_wp2_with fail
      refine HA1.out.mono ?_
      rintro e w2 ⟨rfl, hb2⟩
      have hb2 := grow_trans hb1 hb2
      unfold strV
      go_wp2
      go_ret2
      exact ⟨rfl, hb2⟩
end Go.Proofs.YtabedcpibnnnhaaDoor
