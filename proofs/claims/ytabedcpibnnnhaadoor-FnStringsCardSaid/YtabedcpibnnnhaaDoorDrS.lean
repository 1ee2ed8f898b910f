/- Texts that are drawn. Conditions: as each states. -/
import Derived.Test.YtabedcpibnnnhaaDoorCurL
import Derived.Test.YtabedcpibnnnhaaDoorFmt
import Derived.Test.YtabedcpibnnnhaaDoorPInt
import Derived.Test.YtabedcpibnnnhaaDoorStrC
namespace Go.Proofs.YtabedcpibnnnhaaDoor
open Go.ChangeShapes Go.WideShapes Go.ChangeAt Go.RowKit Go.Deep
set_option linter.unusedVariables false
set_option linter.unusedSimpArgs false
set_option maxRecDepth 100000

theorem fin_belowS {w w' : World} {o : Obj} (h : (w.alloc o).grownBy w' (some w.heap.size)) : Below w.heap.size w w' :=
  Below.grown (grow_alloc w o) h (by simp) (fun k hk => by cases hk; exact Nat.le_refl _)
set_option maxHeartbeats 4000000 in
theorem any1_any (C m : Nat) (w : World) (h : Cur w C m) (hm : m ≤ 1099511627700) :
    Calls Tryd.prog 47 #[.pointer (some ⟨C, 0, none⟩)] w fun e w' => ∃ s : ByteArray, e = .returned (.string s) ∧ s.size ≤ 10 ∧ Cur w' C (m + 2) ∧ w.grownBy w' (some C) := by
  have hA := of_lit _ _ 9 ([⟨#[]⟩, ⟨#[97]⟩, ⟨#[97, 44, 98]⟩, ⟨#[115, 111, 109, 101, 32, 119, 111, 114, 100, 115]⟩, ⟨#[120, 35, 121]⟩, ⟨#[45, 49, 50]⟩, ⟨#[0, 255]⟩, ⟨#[44, 44]⟩, ⟨#[48]⟩] : List ByteArray) _ rfl h (by omega) (by omega) (by omega)
  simp only [List.map_cons, List.map_nil] at hA
  replace hA := Lib.hid hA
  clear h
  go_enter Tryd.func47, Tryd.ntmps47
  go_wp2_with fail
  refine hA.out.mono ?_
  rintro e w1 ⟨y, hy, rfl, hc, hg⟩
  have hs : Hid (y.size ≤ 10) := (show ∀ y ∈ ([⟨#[]⟩, ⟨#[97]⟩, ⟨#[97, 44, 98]⟩, ⟨#[115, 111, 109, 101, 32, 119, 111, 114, 100, 115]⟩, ⟨#[120, 35, 121]⟩, ⟨#[45, 49, 50]⟩, ⟨#[0, 255]⟩, ⟨#[44, 44]⟩, ⟨#[48]⟩] : List ByteArray), y.size ≤ 10 by decide) y hy
  replace hc := Lib.hid hc
  replace hg := Lib.hid hg
  clear hy hA
  go_wp2
  go_ret
  exact ⟨y, rfl, hs.out, hc.out, hg.out⟩
theorem info_byteS : (Tryd.prog.info? 5).map (fun i => (i.zero, i.size, i.bytes)) = some (some (.int .u8 0), 1, 1) := by kernel_rfl
theorem made_bytes (n : Nat) : (madeCells #[Value.int .u8 0] n).toList = byts (List.replicate n 0) := by
  apply List.ext_getElem?
  intro j
  simp only [madeCells, byts, Array.toList_map, Array.toList_range, List.map_replicate]
  rw [List.getElem?_map, List.getElem?_replicate]
  rcases Nat.lt_or_ge j n with h | h
  · rw [List.getElem?_range h, if_pos h]
    simp [Nat.mod_one]
  · rw [List.getElem?_eq_none (by simpa using h), if_neg (by omega)]; rfl
/-- The text of n zeros. -/
def zerS (n : Nat) : ByteArray := bs (List.replicate n 0)
theorem zerS_size (n : Nat) : (zerS n).size = n := by unfold zerS; rw [bs_size]; simp
theorem conv_zero {W : World} {base n : Nat} {v : Value} (h : W.ownsRow base 5 1 v n (madeCells #[Value.int .u8 0] n).toList) : (convert 22 9 v).run Tryd.prog W = .ok (.string (zerS n)) W := by
  have hq := Qw.of_own h
  rw [made_bytes] at hq
  have hl : (List.replicate n (0 : UInt8)).length = n := by simp
  exact conv_bytes Tryd.underlying22 Tryd.underlying5 Tryd.underlying9 (l := List.replicate n 0) (by rw [hl]; exact hq)
set_option maxHeartbeats 4000000 in
theorem DrawAppendChecksum_any (V : Value) (zs : List Int) (w : World) (h1 : Sl w 1 V zs.length (octs zs)) (h2 : ∀ z ∈ zs, 0 ≤ z ∧ z ≤ 255) :
    Calls Tryd.prog 13 #[V] w fun e w' => ∃ s : ByteArray, e = .returned (.string s) ∧ s.size ≤ 5000 ∧ Below w.heap.size w w' := by
  obtain ⟨A, cc, rfl⟩ := h1.val
  have hC0 := Cur.new h1 h2
  have hg0 : Hid ((w.alloc (.cells #[.slice A zs.length cc, .int .i64 0, .int .u64 0] 56)).grownBy (w.alloc (.cells #[.slice A zs.length cc, .int .i64 0, .int .u64 0] 56)) (some w.heap.size)) := grownBy_of_below (Below.refl _ _)
  have hF := Lib.hid (one_any _ _ 20 _ hC0 (by omega) (by omega))
  obtain ⟨i0, hi, hz0, hz1, hz2⟩ := info_parts info_byteS
  clear hC0
  go_enter Tryd.func13, Tryd.ntmps13
  go_wp2_with fail
  refine hF.out.mono ?_
  rintro e w1 ⟨v, rfl, ⟨b, rfl⟩, hc, hg⟩
  replace hg := Lib.hid (grownBy_trans hg0.out hg)
  clear hF hg0
  cases b with
  | true =>
    have hP := Lib.hid (pick_any _ _ 10 _ hc (by omega) (by omega))
    clear hc
    go_wp2_with fail
    refine hP.out.mono ?_
    rintro e w2 ⟨v, rfl, ⟨x, rfl, x0, x1⟩, hc', hg'⟩
    replace hg := Lib.hid (fin_belowS (grownBy_trans hg.out hg'))
    clear hP hc' hg'
    obtain ⟨u, rfl⟩ := Int.eq_ofNat_of_zero_le x0
    have hu : u < 10 := by omega
    have hL : Hid ((3990 : Int) + (u : Int) = ((3990 + u : Nat) : Int)) := by show _ = _; omega
    have hby : i0.bytes * (3990 + u) ≤ 281474976710656 := by rw [hz2]; omega
    have hmx : 3990 + u ≤ maxLen := by unfold maxLen; omega
    go_wp2_with (at_make; refine wpList_make_full _ rfl _ _ 22 rfl w2.heap.size 5 i0 (.int .u8 0) 1 Tryd.underlying22 hi hz0 hz1 _ _ _ _ (3990 + u) rfl rfl hL.out hL.out hby hmx (Nat.le_refl _) ?_)
    intro w3 hown hgrow
    have hcv := conv_zero hown
    have hb3 : Hid (Below w.heap.size w w3) := hg.out.grown hgrow hg.out.size (by simp)
    clear hown hgrow
    go_wp2
    go_ret
    exact ⟨_, rfl, by rw [zerS_size]; omega, hb3.out⟩
  | false =>
    have hP := Lib.hid (any1_any _ _ _ hc (by omega))
    clear hc
    go_wp2_with fail
    refine hP.out.mono ?_
    rintro e w2 ⟨s, rfl, hs, hc', hg'⟩
    replace hs := Lib.hid hs
    replace hg := Lib.hid (fin_belowS (grownBy_trans hg.out hg'))
    clear hP hc' hg'
    go_wp2
    go_ret
    exact ⟨_, rfl, by have := hs.out; omega, hg.out⟩
set_option maxHeartbeats 4000000 in
theorem DrawFormatInt_any (V : Value) (zs : List Int) (w : World) (h1 : Sl w 1 V zs.length (octs zs)) (h2 : ∀ z ∈ zs, 0 ≤ z ∧ z ≤ 255) :
    Calls Tryd.prog 7 #[V] w fun e w' => ∃ n : Int, e = .returned (.int .i64 n) ∧ (-1000000 ≤ n ∧ n ≤ 1000000) ∧ Below w.heap.size w w' := by
  obtain ⟨A, cc, rfl⟩ := h1.val
  have hC0 := Cur.new h1 h2
  have hg0 : Hid ((w.alloc (.cells #[.slice A zs.length cc, .int .i64 0, .int .u64 0] 56)).grownBy (w.alloc (.cells #[.slice A zs.length cc, .int .i64 0, .int .u64 0] 56)) (some w.heap.size)) := grownBy_of_below (Below.refl _ _)
  have hF := Lib.hid (pick_any _ _ 1000 _ hC0 (by omega) (by omega))
  clear hC0
  go_enter Tryd.func7, Tryd.ntmps7
  go_wp2_with fail
  refine hF.out.mono ?_
  rintro e w1 ⟨v, rfl, ⟨x, rfl, x0, x1⟩, hc, hg⟩
  have hA := among_lit _ _ 9 ([0, 1, -1, 10, 999999, -999999, 1000000, -1000000, x - 500] : List Int) _ rfl hc (by omega) (by omega) (by omega)
  simp only [List.map_cons, List.map_nil] at hA
  replace hA := Lib.hid hA
  replace hg := Lib.hid (grownBy_trans hg0.out hg)
  clear hF hc hg0
  go_wp2_with fail
  refine hA.out.mono ?_
  rintro e w2 ⟨n, hn, rfl, hc', hg'⟩
  have hn2 : Hid (-1000000 ≤ n ∧ n ≤ 1000000) := by
    show _ ∧ _
    simp only [List.mem_cons, List.not_mem_nil, or_false] at hn
    omega
  replace hg := Lib.hid (fin_belowS (grownBy_trans hg.out hg'))
  clear hA hc' hg' hn
  go_wp2
  go_ret
  exact ⟨_, rfl, hn2.out, hg.out⟩
set_option maxHeartbeats 4000000 in
theorem DrawParseInt_any (V : Value) (zs : List Int) (w : World) (h1 : Sl w 1 V zs.length (octs zs)) (h2 : ∀ z ∈ zs, 0 ≤ z ∧ z ≤ 255) :
    Calls Tryd.prog 10 #[V] w fun e w' => ∃ s : ByteArray, e = .returned (.string s) ∧ s.size ≤ 5000 ∧ Below w.heap.size w w' := by
  obtain ⟨A, cc, rfl⟩ := h1.val
  have hC0 := Cur.new h1 h2
  have hg0 : Hid ((w.alloc (.cells #[.slice A zs.length cc, .int .i64 0, .int .u64 0] 56)).grownBy (w.alloc (.cells #[.slice A zs.length cc, .int .i64 0, .int .u64 0] 56)) (some w.heap.size)) := grownBy_of_below (Below.refl _ _)
  have hF := Lib.hid (one_any _ _ 2 _ hC0 (by omega) (by omega))
  clear hC0
  go_enter Tryd.func10, Tryd.ntmps10
  go_wp2_with fail
  refine hF.out.mono ?_
  rintro e w1 ⟨v, rfl, ⟨b, rfl⟩, hc, hg⟩
  replace hg := Lib.hid (grownBy_trans hg0.out hg)
  clear hF hg0
  cases b with
  | true =>
    have hA := of_lit _ _ 11 ([⟨#[]⟩, ⟨#[45]⟩, ⟨#[45, 48]⟩, ⟨#[48, 48]⟩, ⟨#[48, 49]⟩, ⟨#[45, 45, 49]⟩, ⟨#[49, 120]⟩, ⟨#[57, 57, 57, 57, 57, 57]⟩, ⟨#[49, 48, 48, 48, 48, 48, 48]⟩, ⟨#[45, 57, 57, 57, 57, 57, 57]⟩, ⟨#[49, 56, 52, 52, 54, 55, 52, 52, 48, 55, 51, 55, 48, 57, 53, 53, 49, 54, 49, 55]⟩] : List ByteArray) _ rfl hc (by omega) (by omega) (by omega)
    simp only [List.map_cons, List.map_nil] at hA
    replace hA := Lib.hid hA
    clear hc
    go_wp2_with fail
    refine hA.out.mono ?_
    rintro e w2 ⟨s, hs, rfl, hc', hg'⟩
    have hs2 : Hid (s.size ≤ 5000) := (show ∀ y ∈ ([⟨#[]⟩, ⟨#[45]⟩, ⟨#[45, 48]⟩, ⟨#[48, 48]⟩, ⟨#[48, 49]⟩, ⟨#[45, 45, 49]⟩, ⟨#[49, 120]⟩, ⟨#[57, 57, 57, 57, 57, 57]⟩, ⟨#[49, 48, 48, 48, 48, 48, 48]⟩, ⟨#[45, 57, 57, 57, 57, 57, 57]⟩, ⟨#[49, 56, 52, 52, 54, 55, 52, 52, 48, 55, 51, 55, 48, 57, 53, 53, 49, 54, 49, 55]⟩] : List ByteArray), y.size ≤ 5000 by decide) s hs
    replace hg := Lib.hid (fin_belowS (grownBy_trans hg.out hg'))
    clear hA hc' hg' hs
    go_wp2
    go_ret
    exact ⟨_, rfl, hs2.out, hg.out⟩
  | false =>
    have hP := Lib.hid (pick_any _ _ 2000 _ hc (by omega) (by omega))
    clear hc
    go_wp2_with fail
    refine hP.out.mono ?_
    rintro e w2 ⟨v, rfl, ⟨x, rfl, x0, x1⟩, hc', hg'⟩
    replace hg := Lib.hid (fin_belowS (grownBy_trans hg.out hg'))
    have hN := Lib.hid fun W => l1Num_any (x - 1000) (by omega) (by omega) W
    have hz : Hid ((numS (x - 1000)).size ≤ 5000) := by
      show _ ≤ _
      have := numS_short (x - 1000) (inB_iff.2 (by omega))
      omega
    clear hP hc' hg'
    go_wp2_with fail
    refine (hN.out _).mono ?_
    rintro e w3 ⟨rfl, hb'⟩
    replace hg := Lib.hid (grow_trans hg.out hb')
    clear hN hb'
    generalize numS (x - 1000) = s at *
    go_wp2
    go_ret
    exact ⟨_, rfl, hz.out, hg.out⟩
end Go.Proofs.YtabedcpibnnnhaaDoor
