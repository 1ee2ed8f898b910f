/- A text with its checksum, in the program and in the reference. Conditions: as each states. -/
import Derived.Test.YtabedcpibnnnhaaDoorFmt
import Derived.Test.YtabedcpibnnnhaaDoorSum
import Derived.Test.YtabedcpibnnnhaaDoorStand
import Derived.Test.YtabedcpibnnnhaaDoorShelfC
import Derived.Lib.IndexAny
namespace Go.Proofs.YtabedcpibnnnhaaDoor
open Go.ChangeShapes Go.WideShapes Go.ChangeAt Go.RowKit Go.Deep
set_option linter.unusedVariables false
set_option linter.unusedSimpArgs false
set_option maxRecDepth 100000

/-- A text with its checksum behind it. -/
def sealS (s : ByteArray) : ByteArray := s ++ ⟨#[35]⟩ ++ numS (sumL s.data.toList)
def apB (s : ByteArray) : Bool := decide (s.size ≤ 4000) && !(hasC s 35) && decide ((sealS s).size ≤ 4000)
set_option maxHeartbeats 1000000 in
theorem l1Seal_any (s : ByteArray) (w : World) (hs : s.size ≤ 1048576) :
    Calls Tryd.prog 51 #[.string s] w fun e w' => e = .returned (.string (sealS s)) ∧ Below w.heap.size w w' := by
  have HS := Lib.hid fun W => l1Sum_any s W (by unfold maxLen; omega)
  obtain ⟨b1, b2⟩ := sumL_bd s.data.toList
  have HN := Lib.hid fun W => l1Num_any (sumL s.data.toList) (by omega) (by omega) W
  have HR : Hid (sealS s = s ++ ⟨#[35]⟩ ++ numS (sumL s.data.toList)) := rfl
  have z1 : (s ++ (⟨#[35]⟩ : ByteArray)).size ≤ 1048577 := by rw [app_size, one_size]; omega
  have z2 : (numS (sumL s.data.toList)).size ≤ 1000000 := by
    obtain ⟨u, hu⟩ := Int.eq_ofNat_of_zero_le b1
    rw [hu]
    have := numS_size u
    omega
  generalize sealS s = R at *
  generalize sumL s.data.toList = h at *
  generalize numS h = nb at *
  go_enter Tryd.func51, Tryd.ntmps51
  go_wp2_with fail
  with_reducible refine (HS.out _).mono ?_
  rintro e w1 ⟨rfl, rfl⟩
  go_wp2_with fail
  with_reducible refine (HN.out _).mono ?_
  rintro e w2 ⟨rfl, hb2⟩
  go_wp2
  go_ret
  exact ⟨by rw [HR.out]; rfl, hb2⟩
set_option maxHeartbeats 1000000 in
theorem sAppendChecksum_any (s : ByteArray) (w : World) (hs : s.size ≤ 1048576) :
    Calls Tryd.prog 15 #[.string s] w fun e w' => e = .returned (strV (apB s) (sealS s)) ∧ Below w.heap.size w w' := by
  have HB : Hid (apB s = (decide (s.size ≤ 4000) && !(hasC s 35) && decide ((sealS s).size ≤ 4000))) := rfl
  have HC := Lib.hid fun W => l1Stands_any s 35 W (by unfold maxLen; omega)
  have HL := Lib.hid fun W => l1Seal_any s W hs
  generalize sealS s = R at *
  generalize apB s = b at *
  generalize hasC s 35 = d at *
  by_cases h1 : s.size ≤ 4000
  · cases d with
    | true =>
      have hb : b = false := by rw [HB.out]; simp
      subst hb
      clear HB HL
      go_enter Tryd.func15, Tryd.ntmps15
      go_wp2_with fail
      refine (HC.out _).mono ?_
      rintro e w1 ⟨rfl, rfl⟩
      go_wp2
      go_ret2
      exact ⟨rfl, Below.refl _ _⟩
    | false =>
      by_cases h2 : R.size ≤ 4000
      · have hb : b = true := by rw [HB.out]; simp [h1, h2]
        subst hb
        clear HB
        go_enter Tryd.func15, Tryd.ntmps15
        go_wp2_with fail
        refine (HC.out _).mono ?_
        rintro e w1 ⟨rfl, rfl⟩
        go_wp2_with fail
        with_reducible refine (HL.out _).mono ?_
        rintro e w2 ⟨rfl, hb2⟩
        go_wp2_with fail
        with_reducible refine (HL.out _).mono ?_
        rintro e w3 ⟨rfl, hb3⟩
        have hb3 := grow_trans hb2 hb3
        go_wp2
        go_ret2
        exact ⟨rfl, hb3⟩
      · have hb : b = false := by rw [HB.out]; simp [h2]
        subst hb
        clear HB
        go_enter Tryd.func15, Tryd.ntmps15
        go_wp2_with fail
        refine (HC.out _).mono ?_
        rintro e w1 ⟨rfl, rfl⟩
        go_wp2_with fail
        with_reducible refine (HL.out _).mono ?_
        rintro e w2 ⟨rfl, hb2⟩
        go_wp2
        go_ret2
        exact ⟨rfl, hb2⟩
  · have hb : b = false := by rw [HB.out]; simp [h1]
    subst hb
    clear HB HL HC
    go_enter Tryd.func15, Tryd.ntmps15
    go_wp2
    go_ret2
    exact ⟨rfl, Below.refl _ _⟩
set_option maxHeartbeats 2000000 in
theorem AppendChecksum_any (s : ByteArray) (w : World) (hs : s.size ≤ 1048576) (ht : Lib.TabIs Tryd.prog w "internal/strconv.uint64pow10" .u64 Lib.pow10Tab) :
    Calls Tryd.prog 14 #[.string s] w fun e w' => e = .returned (strV (apB s) (sealS s)) ∧ Below w.heap.size w w' := by
  have HB : Hid (apB s = (decide (s.size ≤ 4000) && !(hasC s 35) && decide ((sealS s).size ≤ 4000))) := rfl
  have HK := Lib.hid (Checksum_any s w (by unfold maxLen; omega))
  obtain ⟨b1, b2⟩ := sumL_bd s.data.toList
  have HN := Lib.hid (Itoa_any (sumL s.data.toList) (by omega) (by omega) w ht)
  have HN0 := Lib.hid (Itoa_any 0 (by omega) (by omega) w ht)
  have HC : Hid (∀ W, Calls Tryd.prog 49 #[.string s, .string ⟨#[35]⟩] W fun e w' => e = .returned (.bool (hasC s 35)) ∧ w' = W) := fun W => by
    have := Tryd.strings_Contains_one s 35 W
    rw [← Lib.contains_iff_indexByte] at this
    exact this
  have HR : Hid (sealS s = s ++ ⟨#[35]⟩ ++ numS (sumL s.data.toList)) := rfl
  have z1 : (s ++ (⟨#[35]⟩ : ByteArray)).size ≤ 1048577 := by rw [app_size, one_size]; omega
  have z0 : (numS 0).size ≤ 1000000 := by have := numS_size 0; exact Nat.le_trans (by simpa using this) (by omega : 1 ≤ 1000000)
  have z2 : (numS (sumL s.data.toList)).size ≤ 1000000 := by
    obtain ⟨u, hu⟩ := Int.eq_ofNat_of_zero_le b1
    rw [hu]
    have := numS_size u
    omega
  clear ht
  generalize hS : sealS s = R at *
  have HS := Lib.hid hS
  clear hS
  generalize apB s = b at *
  generalize hasC s 35 = d at *
  by_cases h1 : s.size ≤ 4000
  · rw [show okR (decide (s.size ≤ 4000)) (sumL s.data.toList) = .tuple #[.int .i64 (sumL s.data.toList), .bool true] by simp [okR, h1]] at HK
    generalize sumL s.data.toList = h at *
    generalize numS h = nb at *
    have HR2 := HR.out
    subst HR2
    cases d with
    | true =>
      have hb : b = false := by rw [HB.out]; simp
      subst hb
      clear HB HR HN0
      go_enter Tryd.func14, Tryd.ntmps14
      go_wp2_with fail
      with_reducible refine HK.out.mono ?_
      rintro e w1 ⟨rfl, rfl⟩
      go_wp2_with fail
      with_reducible refine HN.out.mono ?_
      rintro e w2 ⟨rfl, hb2⟩
      go_wp2_with fail
      refine (HC.out _).mono ?_
      rintro e w3 ⟨rfl, rfl⟩
      go_wp2
      go_ret2
      exact ⟨rfl, hb2⟩
    | false =>
      by_cases h2 : (s ++ (⟨#[35]⟩ : ByteArray) ++ nb).size ≤ 4000
      · have hb : b = true := by rw [HB.out, decide_eq_true h1, decide_eq_true h2]; rfl
        subst hb
        have h2' : ¬ (4000 : Int) < (s.size : Int) + 1 + (nb.size : Int) := by rw [app_size, app_size, one_size] at h2; omega
        clear HB HR HN0
        go_enter Tryd.func14, Tryd.ntmps14
        go_wp2_with fail
        with_reducible refine HK.out.mono ?_
        rintro e w1 ⟨rfl, rfl⟩
        go_wp2_with fail
        with_reducible refine HN.out.mono ?_
        rintro e w2 ⟨rfl, hb2⟩
        go_wp2_with fail
        refine (HC.out _).mono ?_
        rintro e w3 ⟨rfl, rfl⟩
        go_wp2
        go_ret2
        exact ⟨rfl, hb2⟩
      · have hb : b = false := by rw [HB.out, decide_eq_false h2, Bool.and_false]
        subst hb
        have h2' : (4000 : Int) < (s.size : Int) + 1 + (nb.size : Int) := by rw [app_size, app_size, one_size] at h2; omega
        clear HB HR HN0
        go_enter Tryd.func14, Tryd.ntmps14
        go_wp2_with fail
        with_reducible refine HK.out.mono ?_
        rintro e w1 ⟨rfl, rfl⟩
        go_wp2_with fail
        with_reducible refine HN.out.mono ?_
        rintro e w2 ⟨rfl, hb2⟩
        go_wp2_with fail
        refine (HC.out _).mono ?_
        rintro e w3 ⟨rfl, rfl⟩
        go_wp2
        go_ret2
        exact ⟨rfl, hb2⟩
  · rw [show okR (decide (s.size ≤ 4000)) (sumL s.data.toList) = .tuple #[.int .i64 0, .bool false] by simp [okR, h1]] at HK
    have hb : b = false := by rw [HB.out]; simp [h1]
    subst hb
    clear HB HR HN HC
    generalize numS 0 = nb at *
    go_enter Tryd.func14, Tryd.ntmps14
    go_wp2_with fail
    with_reducible refine HK.out.mono ?_
    rintro e w1 ⟨rfl, rfl⟩
    go_wp2_with fail
    with_reducible refine HN0.out.mono ?_
    rintro e w2 ⟨rfl, hb2⟩
    go_wp2
    go_ret2
    exact ⟨rfl, hb2⟩
end Go.Proofs.YtabedcpibnnnhaaDoor
