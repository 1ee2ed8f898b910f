/- A breeze's text, in the program and in the reference. Conditions: as each states. -/
import Derived.Test.YtabedcpibnnnhaaDoorFmt
import Derived.Test.YtabedcpibnnnhaaDoorWind
namespace Go.Proofs.YtabedcpibnnnhaaDoor
open Go.ChangeShapes Go.WideShapes Go.ChangeAt Go.RowKit Go.Deep
set_option linter.unusedVariables false
set_option linter.unusedSimpArgs false
set_option maxRecDepth 100000

/-- The letters of all directions. -/
def dirS : List (List UInt8) := [[78], [78, 69], [69], [83, 69], [83], [83, 87], [87], [78, 87]]
/-- A valid breeze's text. -/
def brzL (f s : Int) : List UInt8 := if s = 0 then [99, 97, 108, 109] else dirS.getD f.toNat [] ++ [32] ++ Lib.itoa s ++ [32, 107, 109, 47, 104]
theorem dir_len {j : Nat} {l : List UInt8} (h : dirS[j]? = some l) : l.length ≤ 2 := by
  have : ∀ p ∈ dirS, p.length ≤ 2 := by decide
  exact this l (List.mem_of_getElem? h)
theorem dir_at (f : Int) (h1 : 0 ≤ f) (h2 : f ≤ 7) : ∃ l, dirS[f.toNat]? = some l := by
  have : f.toNat < dirS.length := by show f.toNat < 8; omega
  exact ⟨_, List.getElem?_eq_getElem this⟩
theorem bs_km (l : List UInt8) : bs l ++ { data := #[32, 107, 109, 47, 104] } = bs (l ++ [32, 107, 109, 47, 104]) := ByteArray.mk_append_mk l _
theorem itoa_len (s : Int) (h1 : 0 ≤ s) (h2 : s ≤ 1000) : (Lib.itoa s).length ≤ 1001 := by
  obtain ⟨u, rfl⟩ := Int.eq_ofNat_of_zero_le h1
  have := numS_size u
  rw [show numS (u : Int) = bs (Lib.itoa u) from rfl, bs_size] at this
  omega
theorem directions_any (w : World) : Calls Tryd.prog 62 #[] w fun e w' => (∃ g, e = .returned (.slice (some ⟨g, 0, none⟩) 8 8) ∧ ∀ (j : Nat) (l : List UInt8), dirS[j]? = some l → w'.cell? ⟨g, j, none⟩ = some (.string (bs l))) ∧ Below w.heap.size w w' := by
  have hO := World.ownsRow_lit (base := w.heap.size) (e := 9) (size := 1) w (dirS.map fun l => Value.string (bs l)).toArray 8 (Nat.le_refl _) (by unfold maxLen; omega) (by rfl)
  have hc : Hid (∀ (j : Nat) (l : List UInt8), dirS[j]? = some l → (w.alloc (.cells (dirS.map fun l => Value.string (bs l)).toArray 9)).cell? ⟨w.heap.size, j, none⟩ = some (.string (bs l))) := by
    show ∀ j l, _
    intro j l hl
    have hj := (List.getElem?_eq_some_iff.1 hl).1
    rw [hO.cellAt j (by have : dirS.length = 8 := rfl; omega)]
    simp [hl]
  clear hO
  go_enter Tryd.func62, Tryd.ntmps62
  go_wp2
  go_ret
  exact ⟨⟨_, rfl, hc.out⟩, grow_alloc _ _⟩
theorem l5Names_any (w : World) : Calls Tryd.prog 88 #[] w fun e w' => (∃ g, e = .returned (.slice (some ⟨g, 0, none⟩) 8 8) ∧ ∀ (j : Nat) (l : List UInt8), dirS[j]? = some l → w'.cell? ⟨g, j, none⟩ = some (.string (bs l))) ∧ Below w.heap.size w w' := by
  have hO := World.ownsRow_lit (base := w.heap.size) (e := 9) (size := 1) w (dirS.map fun l => Value.string (bs l)).toArray 8 (Nat.le_refl _) (by unfold maxLen; omega) (by rfl)
  have hc : Hid (∀ (j : Nat) (l : List UInt8), dirS[j]? = some l → (w.alloc (.cells (dirS.map fun l => Value.string (bs l)).toArray 9)).cell? ⟨w.heap.size, j, none⟩ = some (.string (bs l))) := by
    show ∀ j l, _
    intro j l hl
    have hj := (List.getElem?_eq_some_iff.1 hl).1
    rw [hO.cellAt j (by have : dirS.length = 8 := rfl; omega)]
    simp [hl]
  clear hO
  go_enter Tryd.func88, Tryd.ntmps88
  go_wp2
  go_ret
  exact ⟨⟨_, rfl, hc.out⟩, grow_alloc _ _⟩
theorem itoa_any (n : Int) (h1 : -9223372036854775808 ≤ n) (h2 : n ≤ 9223372036854775807) (w : World) (ht : Lib.TabIs Tryd.prog w "internal/strconv.uint64pow10" .u64 Lib.pow10Tab) : Calls Tryd.prog 63 #[.int .i64 n] w fun e w' => e = .returned (.string (numS n)) ∧ Below w.heap.size w w' := by
  have HI := Lib.hid (Itoa_any n h1 h2 w ht)
  clear ht
  go_enter Tryd.func63, Tryd.ntmps63
  go_wp2_with fail
  with_reducible refine HI.out.mono ?_
  rintro e w1 ⟨rfl, hb1⟩
  go_wp2
  go_ret
  exact ⟨rfl, hb1⟩
set_option maxHeartbeats 4000000 in
theorem l5Text_any (f s : Int) (w : World) (hw : windB f s = true) : Calls Tryd.prog 65 #[.agg #[.int .i64 f, .int .i64 s]] w fun e w' => e = .returned (.string (bs (brzL f s))) ∧ Below w.heap.size w w' := by
  have hW := windB_iff.1 hw
  obtain ⟨⟨f0, f1⟩, ⟨s0, s1⟩, _⟩ := hW
  have hb0 : Hid (Below w.heap.size w (w.alloc (.cells #[.int .i64 f, .int .i64 s] 41)).drew) := (grow_alloc _ _).drew
  by_cases hs : s = 0
  · subst hs
    have HR : Hid (bs (brzL f 0) = ⟨#[99, 97, 108, 109]⟩) := by show _ = _; rfl
    go_enter Tryd.func65, Tryd.ntmps65
    go_wp2
    go_ret
    exact ⟨by rw [HR.out]; rfl, grow_alloc _ _⟩
  · obtain ⟨l, hl⟩ := dir_at f f0 f1
    have HR : Hid (bs (brzL f s) = bs (l ++ 32 :: (Lib.itoa s ++ [32, 107, 109, 47, 104]))) := by show _ = _; unfold brzL; rw [if_neg hs, List.getD_eq_getElem?_getD, hl]; simp
    have hs' : (s == 0) = false := by simpa using hs
    have HN : Hid (∀ W, Calls Tryd.prog 42 #[.int .i64 s] W fun e w' => e = .returned (.string (bs (Lib.itoa s))) ∧ Below W.heap.size W w') := fun W => l1Num_any s (by omega) (by omega) W
    have hl2 := dir_len hl
    have hn2 := itoa_len s (by omega) (by omega)
    obtain ⟨u, rfl⟩ := Int.eq_ofNat_of_zero_le f0
    rw [Int.toNat_natCast] at hl
    have Hl := Lib.hid hl
    have hu7 : u < 8 := by omega
    have hu7' : (u : Int) < 8 := by omega
    clear hl hw
    generalize Lib.itoa s = m at *
    generalize bs (brzL (u : Int) s) = R at *
    have b1 := bs_add
    have b2 := bs_app
    have b3 := bs_km
    have z1 : (bs l).size ≤ 2 := by rw [bs_size]; exact hl2
    have z2 : (bs m).size ≤ 1001 := by rw [bs_size]; exact hn2
    have z3 : (bs (l ++ [32])).size ≤ 3 := by rw [bs_size]; simp; omega
    have z4 : (bs (l ++ [32] ++ m)).size ≤ 1010 := by rw [bs_size]; simp; omega
    have z5 : (bs (l ++ 32 :: m)).size ≤ 1010 := by rw [bs_size]; simp; omega
    have z6 : (bs (l ++ ([32] ++ m))).size ≤ 1010 := by rw [bs_size]; simp; omega
    have k0 : (w.alloc (.cells #[.int .i64 u, .int .i64 s] 41)).drew.cell? ⟨w.heap.size, 0, none⟩ = some (.int .i64 u) := by simp [go_sem]
    have k1 : (w.alloc (.cells #[.int .i64 u, .int .i64 s] 41)).drew.cell? ⟨w.heap.size, 1, none⟩ = some (.int .i64 s) := by simp [go_sem]
    have hbz := hb0.out
    go_enter Tryd.func65, Tryd.ntmps65
    go_wp2_with fail
    go_region_with (first | (go_at_call 88; with_reducible refine (l5Names_any _).mono ?_; rintro e w1 ⟨⟨g, rfl, hg⟩, hb1⟩; have hcu := hg u l Hl.out; replace k0 := cell_grow k0 hb1; replace k1 := cell_grow k1 hb1; replace hbz := grow_trans hbz hb1; clear hg) | (go_at_call 42; with_reducible refine (HN.out _).mono ?_; rintro e w2 ⟨rfl, hb2⟩; replace k0 := cell_grow k0 hb2; replace k1 := cell_grow k1 hb2; replace hbz := grow_trans hbz hb2; (try replace hcu := cell_grow hcu hb2)))
    all_goals
      go_wp2
      go_ret
      exact ⟨by rw [HR.out]; rfl, hbz⟩
theorem sBreezeText_any (f s : Int) (w : World) : Calls Tryd.prog 26 #[.agg #[.int .i64 f, .int .i64 s]] w fun e w' => e = .returned (strV (windB f s) (bs (brzL f s))) ∧ Below w.heap.size w w' := by
  have hc : ∀ w1, Below (w.alloc (.cells #[.int .i64 f, .int .i64 s] 41)).heap.size (w.alloc (.cells #[.int .i64 f, .int .i64 s] 41)) w1 → w1.cell? ⟨w.heap.size, 0, none⟩ = some (.int .i64 f) ∧ w1.cell? ⟨w.heap.size, 1, none⟩ = some (.int .i64 s) := fun w1 hb => ⟨cell_grow (by simp [go_sem]) hb, cell_grow (by simp [go_sem]) hb⟩
  have Hc := Lib.hid hc
  have hb0 : Hid (Below w.heap.size w (w.alloc (.cells #[.int .i64 f, .int .i64 s] 41))) := grow_alloc _ _
  clear hc
  have HW := Lib.hid fun W => l5Wind_any f s W
  cases hw : windB f s with
  | false =>
    rw [hw] at HW
    clear hw
    go_enter Tryd.func26, Tryd.ntmps26
    go_wp2_with fail
    with_reducible refine (HW.out _).mono ?_
    rintro e w1 ⟨rfl, hb1⟩
    have hb1 := grow_trans hb0.out hb1
    go_wp2
    go_ret2
    exact ⟨rfl, hb1⟩
  | true =>
    have HT := Lib.hid fun W => l5Text_any f s W hw
    rw [hw] at HW
    clear hw
    generalize bs (brzL f s) = R at *
    go_enter Tryd.func26, Tryd.ntmps26
    go_wp2_with fail
    with_reducible refine (HW.out _).mono ?_
    rintro e w1 ⟨rfl, hb1⟩
    obtain ⟨k0, k1⟩ := Hc.out w1 hb1
    have hb1 := grow_trans hb0.out hb1
    go_wp2_with fail
    with_reducible refine (HT.out _).mono ?_
    rintro e w2 ⟨rfl, hb2⟩
    have hb2 := grow_trans hb1 hb2
    go_wp2
    go_ret2
    exact ⟨rfl, hb2⟩
set_option maxHeartbeats 4000000 in
theorem BreezeText_any (f s : Int) (w : World) (ht : Lib.TabIs Tryd.prog w "internal/strconv.uint64pow10" .u64 Lib.pow10Tab) : Calls Tryd.prog 25 #[.agg #[.int .i64 f, .int .i64 s]] w fun e w' => e = .returned (strV (windB f s) (bs (brzL f s))) ∧ Below w.heap.size w w' := by
  have hc : ∀ w1, Below (w.alloc (.cells #[.int .i64 f, .int .i64 s] 41)).heap.size (w.alloc (.cells #[.int .i64 f, .int .i64 s] 41)) w1 → w1.cell? ⟨w.heap.size, 0, none⟩ = some (.int .i64 f) ∧ w1.cell? ⟨w.heap.size, 1, none⟩ = some (.int .i64 s) := fun w1 hb => ⟨cell_grow (by simp [go_sem]) hb, cell_grow (by simp [go_sem]) hb⟩
  have Hc := Lib.hid hc
  have hb0 : Hid (Below w.heap.size w (w.alloc (.cells #[.int .i64 f, .int .i64 s] 41))) := grow_alloc _ _
  have Ht := Lib.hid fun W (hW : Below w.heap.size w W) => tab_below gPow ht hW
  clear hc ht
  have HW := Lib.hid fun W => IsBreeze_any f s W
  cases hw : windB f s with
  | false =>
    rw [hw] at HW
    clear hw
    go_enter Tryd.func25, Tryd.ntmps25
    go_wp2_with fail
    with_reducible refine (HW.out _).mono ?_
    rintro e w1 ⟨rfl, hb1⟩
    have hb1 := grow_trans hb0.out hb1
    go_wp2
    go_ret2
    exact ⟨rfl, hb1⟩
  | true =>
    obtain ⟨⟨f0, f1⟩, ⟨s0, s1⟩, _⟩ := windB_iff.1 hw
    rw [hw] at HW
    clear hw
    by_cases hs : s = 0
    · subst hs
      have HR : Hid (bs (brzL f 0) = ⟨#[99, 97, 108, 109]⟩) := by show _ = _; rfl
      go_enter Tryd.func25, Tryd.ntmps25
      go_wp2_with fail
      with_reducible refine (HW.out _).mono ?_
      rintro e w1 ⟨rfl, hb1⟩
      obtain ⟨k0, k1⟩ := Hc.out w1 hb1
      have hb1 := grow_trans hb0.out hb1
      go_wp2
      go_ret2
      exact ⟨by rw [HR.out]; rfl, hb1⟩
    · obtain ⟨l, hl⟩ := dir_at f f0 f1
      have HR : Hid (bs (brzL f s) = bs (l ++ 32 :: (Lib.itoa s ++ [32, 107, 109, 47, 104]))) := by show _ = _; unfold brzL; rw [if_neg hs, List.getD_eq_getElem?_getD, hl]; simp
      have hs' : (s == 0) = false := by simpa using hs
      have HN : Hid (∀ W, Below w.heap.size w W → Calls Tryd.prog 63 #[.int .i64 s] W fun e w' => e = .returned (.string (bs (Lib.itoa s))) ∧ Below W.heap.size W w') := fun W hW => itoa_any s (by omega) (by omega) W (Ht.out W hW)
      have hl2 := dir_len hl
      have hn2 := itoa_len s (by omega) (by omega)
      obtain ⟨u, rfl⟩ := Int.eq_ofNat_of_zero_le f0
      rw [Int.toNat_natCast] at hl
      have Hl := Lib.hid hl
      have hu7 : u < 8 := by omega
      have hu7' : (u : Int) < 8 := by omega
      clear hl Ht
      generalize Lib.itoa s = m at *
      generalize bs (brzL (u : Int) s) = R at *
      have b1 := bs_add
      have b2 := bs_app
      have b3 := bs_km
      have z1 : (bs l).size ≤ 2 := by rw [bs_size]; exact hl2
      have z2 : (bs m).size ≤ 1001 := by rw [bs_size]; exact hn2
      have z3 : (bs (l ++ [32])).size ≤ 3 := by rw [bs_size]; simp; omega
      have z4 : (bs (l ++ [32] ++ m)).size ≤ 1010 := by rw [bs_size]; simp; omega
      have z5 : (bs (l ++ 32 :: m)).size ≤ 1010 := by rw [bs_size]; simp; omega
      have z6 : (bs (l ++ ([32] ++ m))).size ≤ 1010 := by rw [bs_size]; simp; omega
      go_enter Tryd.func25, Tryd.ntmps25
      go_wp2_with fail
      with_reducible refine (HW.out _).mono ?_
      rintro e w1 ⟨rfl, hb1⟩
      obtain ⟨k0, k1⟩ := Hc.out w1 hb1
      have hbz := (grow_trans hb0.out hb1).drew
      clear hb1
      go_wp2_with fail
      replace k0 := cell_grow k0 (grow_drew w1)
      replace k1 := cell_grow k1 (grow_drew w1)
      go_region_with (first | (go_at_call 62; with_reducible refine (directions_any _).mono ?_; rintro e w3 ⟨⟨g, rfl, hg⟩, hb3⟩; have hcu := hg u l Hl.out; replace k0 := cell_grow k0 hb3; replace k1 := cell_grow k1 hb3; replace hbz := grow_trans hbz hb3; clear hg) | (go_at_call 63; with_reducible refine (HN.out _ hbz).mono ?_; rintro e w2 ⟨rfl, hb2⟩; replace k0 := cell_grow k0 hb2; replace k1 := cell_grow k1 hb2; replace hbz := grow_trans hbz hb2; (try replace hcu := cell_grow hcu hb2)))
      all_goals
        go_wp2
        go_ret2
        exact ⟨by rw [HR.out]; rfl, hbz⟩
end Go.Proofs.YtabedcpibnnnhaaDoor
