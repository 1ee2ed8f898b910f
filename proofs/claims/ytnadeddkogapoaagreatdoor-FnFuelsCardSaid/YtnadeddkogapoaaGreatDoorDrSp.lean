/- A text that is drawn spoilt. Conditions: as each states. -/
import Derived.Test.YtnadeddkogapoaaGreatDoorCurW
import Derived.Test.YtnadeddkogapoaaGreatDoorPInt
namespace Go.Proofs.YtnadeddkogapoaaGreatDoor
open Go.ChangeShapes Go.WideShapes Go.ChangeAt Go.RowKit Go.Deep
set_option linter.unusedVariables false
set_option linter.unusedSimpArgs false
set_option maxRecDepth 100000

theorem ext_le (t : ByteArray) (a b : Nat) : (t.extract a b).size ≤ t.size ∧ (t.extract a b).size ≤ b - a := by
  rw [ByteArray.size_extract]; omega
theorem bytes_none {t : ByteArray} (h : t.size = 0) : t = ⟨#[]⟩ := by
  apply ByteArray.ext
  exact Array.eq_empty_of_size_eq_zero h
set_option maxHeartbeats 8000000 in
theorem spoilt_any (C m : Nat) (t u : ByteArray) (w : World) (h : Cur w C m) (hm : m ≤ 1099511627000) (ht : t.size ≤ 1000) (hu : 0 < u.size) (hu2 : u.size ≤ 1000) :
    Calls Tryz.prog 37 #[.pointer (some ⟨C, 0, none⟩), .string t, .string u] w fun e w' => ∃ s : ByteArray, e = .returned (.string s) ∧ s.size ≤ t.size + 1 ∧ Cur w' C (m + 6) ∧ w.grownBy w' (some C) := by
  by_cases h0 : t.size = 0
  case pos =>
    obtain rfl := bytes_none h0
    have hE := Lib.hid (ext_le u 0 1).2
    have hC := Lib.hid (h.up (m' := m + 6) (by omega))
    clear h ht h0
    go_enter Tryz.func37, Tryz.ntmps37
    go_wp2
    go_ret
    exact ⟨_, rfl, by have := hE.out; omega, hC.out, grownBy_of_below (Below.refl _ _)⟩
  case neg =>
    have hne : t ≠ ⟨#[]⟩ := fun e => h0 (by rw [e]; rfl)
    have hq : t.toList.isEmpty = false := by
      have h2 := bytes_ne hne
      cases he : t.toList.isEmpty with
      | false => rfl
      | true =>
        rw [List.isEmpty_iff.1 he] at h2
        simp at h2
    have HP := Lib.hid fun m' n W (h : Cur W C m') hm hn => pick_any C m' n W h hm hn
    have hc := Lib.hid h
    clear h hne
    go_enter Tryz.func37, Tryz.ntmps37
    go_wp2_with fail
    refine (HP.out _ (t.size : Int) _ hc.out (by omega) (by omega)).mono ?_
    rintro e w1 ⟨v, rfl, ⟨x, rfl, x0, x1⟩, hc1, hg1⟩
    replace hc := Lib.hid hc1
    replace hg1 := Lib.hid hg1
    clear hc1
    obtain ⟨i, rfl⟩ := Int.eq_ofNat_of_zero_le x0
    have hi : i < t.size := by omega
    clear x0 x1
    go_wp2_with fail
    refine (HP.out _ (u.size : Int) _ hc.out (by omega) (by omega)).mono ?_
    rintro e w2 ⟨v, rfl, ⟨x, rfl, x0, x1⟩, hc1, hg2⟩
    replace hc := Lib.hid hc1
    replace hg1 := Lib.hid (grownBy_trans hg1.out hg2)
    clear hc1 hg2
    obtain ⟨k, rfl⟩ := Int.eq_ofNat_of_zero_le x0
    have hk : k < u.size := by omega
    clear x0 x1
    have hks : (u.extract k u.size).size = u.size - k := by rw [ByteArray.size_extract]; omega
    go_wp2_with fail
    refine (HP.out _ 3 _ hc.out (by omega) (by omega)).mono ?_
    rintro e w3 ⟨v, rfl, ⟨z, rfl, z0, z1⟩, hc1, hg2⟩
    replace hc := Lib.hid (hc1.up (m' := m + 6) (by omega))
    replace hg1 := Lib.hid (grownBy_trans hg1.out hg2)
    clear hc1 hg2 HP hks
    have e1 := ext_le t 0 i
    have e2 := ext_le t i t.size
    have e3 := ext_le t (i + 1) t.size
    have e4 := (ext_le (u.extract k u.size) 0 1).2
    generalize (u.extract k u.size).extract 0 1 = q at *
    have hfin := fun (W : World) (hb : Below w3.heap.size w3 W) => (⟨hc.out.below hb, grownBy_trans hg1.out (grownBy_of_below hb)⟩ : Cur W C (m + 6) ∧ w.grownBy W (some C))
    replace hfin := Lib.hid hfin
    clear hc hg1
    rcases (show z = 0 ∨ z = 1 ∨ z = 2 by omega) with rfl | rfl | rfl
    · go_wp2_with fail
      go_quiet (fail)
      go_wp2
      go_ret
      exact ⟨_, rfl, by simp only [ByteArray.size_append]; omega, hfin.out _ (grow_drewN _ _)⟩
    · go_wp2_with fail
      go_quiet (fail)
      go_wp2
      go_ret
      exact ⟨_, rfl, by simp only [ByteArray.size_append]; omega, hfin.out _ (grow_drewN _ _)⟩
    · go_wp2_with fail
      go_quiet (fail)
      go_wp2
      go_ret
      exact ⟨_, rfl, by simp only [ByteArray.size_append]; omega, hfin.out _ (grow_drewN _ _)⟩
end Go.Proofs.YtnadeddkogapoaaGreatDoor
