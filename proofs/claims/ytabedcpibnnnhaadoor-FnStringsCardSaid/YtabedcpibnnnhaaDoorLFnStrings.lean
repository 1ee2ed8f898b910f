/- FnStrings returns true for all codes: numbers and texts with checksums are recovered, and a changed byte is detected. Conditions: none beyond the row's. -/
import Derived.Test.YtabedcpibnnnhaaDoorDrS
import Derived.Test.YtabedcpibnnnhaaDoorStrP
import Derived.Test.YtabedcpibnnnhaaDoorByt
import Derived.Deep.RegionHeldLaw
namespace Go.Proofs.YtabedcpibnnnhaaDoor.lFnStrings
open Go.ChangeShapes Go.WideShapes Go.ChangeAt Go.RowKit Go.Proofs.YtabedcpibnnnhaaDoor
set_option linter.unusedVariables false
set_option linter.unusedSimpArgs false
set_option maxRecDepth 100000

theorem vBig_any (v : Value) (N : Nat) (cs : List Value) (w : World) (h : Sl w 1 v N cs) : Calls Tryd.prog 6 #[v] w fun e w' => e = .returned (.bool (decide ((65536 : Int) < (N : Int)))) ∧ w = w' := by
  have := h.len
  obtain ⟨A, c, rfl⟩ := h.val
  unfold maxLen at this
  clear h
  go_enter Tryd.func6, Tryd.ntmps6
  go_wp2
  go_ret
  exact ⟨rfl, rfl⟩
theorem vAt_any (v : Value) (zs : List Int) (i : Nat) (w : World) (h : Sl w 1 v zs.length (octs zs)) (hz : ∀ z ∈ zs, 0 ≤ z ∧ z ≤ 255) (hi : i ≤ 100) (hn : zs.length ≤ 65536) :
    Calls Tryd.prog 17 #[v, .int .i64 i] w fun e w' => ∃ x : Int, e = .returned (.int .i64 x) ∧ (0 ≤ x ∧ x ≤ 255) ∧ w = w' := by
  have hc : i < zs.length → ∃ A c b off z, v = .slice A zs.length c ∧ A = some ⟨b, off, none⟩ ∧ w.cell? ⟨b, off + i, none⟩ = some (.int .u8 z) ∧ 0 ≤ z ∧ z ≤ 255 := by
    intro hlt
    obtain ⟨A, c, rfl⟩ := h.val
    obtain ⟨b, off, z, rfl, hz1, hcell⟩ := h.at1 rfl hlt
    have := hz z (List.mem_of_getElem? hz1)
    exact ⟨_, c, b, off, z, rfl, rfl, hcell, this.1, this.2⟩
  by_cases hlt : i < zs.length
  · obtain ⟨A, c, b, off, z, rfl, rfl, hcell, z0, z1⟩ := hc hlt
    clear hc h hz
    generalize zs.length = N at *
    go_enter Tryd.func17, Tryd.ntmps17
    go_wp2
    go_ret
    exact ⟨z, rfl, ⟨z0, z1⟩, rfl⟩
  · obtain ⟨A, c, rfl⟩ := h.val
    clear hc h hz
    generalize zs.length = N at *
    go_enter Tryd.func17, Tryd.ntmps17
    go_wp2
    go_ret
    exact ⟨_, rfl, by omega, rfl⟩
set_option maxHeartbeats 16000000 in
theorem walk (W : World) (hL : laidMetH Tryd.prog Rows.fnStringsRow.laid W) (v0 : Value) (z0 : List Int) (k0 : Sl W 1 v0 z0.length (octs z0) ∧ ∀ z ∈ z0, 0 ≤ z ∧ z ≤ 255) :
    Calls Tryd.prog 3 #[v0] W fun e w' => e = .returned (.bool true) ∧ Below W.heap.size W w' := by
  rw [MakeChecks.laidMetH_plain _ _ _ (by kernel_rfl)] at hL
  have ht := pow_of hL
  have hy := syn_of hL
  have Ht := Lib.hid fun W' (hW : Below W.heap.size W W') => tab_below gPow ht hW
  have Hy := Lib.hid fun W' (hW : Below W.heap.size W W') => syn_below hy hW
  clear hL ht hy
  have HB := Lib.hid (vBig_any v0 _ _ W k0.1)
  by_cases hbig : (65536 : Int) < (z0.length : Int)
  case pos =>
    rw [decide_eq_true hbig] at HB
    clear Ht Hy
    go_enter Tryd.func3, Tryd.ntmps3
    go_wp2_with fail
    with_reducible refine HB.out.mono ?_
    rintro e w1 ⟨rfl, rfl⟩
    go_wp2
    go_ret
    exact ⟨rfl, Below.refl _ _⟩
  rw [decide_eq_false hbig] at HB
  have D1 := Lib.hid fun w' (hW : Below W.heap.size W w') => DrawFormatInt_any v0 z0 w' (k0.1.below hW) k0.2
  have D2 := Lib.hid fun w' (hW : Below W.heap.size W w') => DrawParseInt_any v0 z0 w' (k0.1.below hW) k0.2
  have D3 := Lib.hid fun w' (hW : Below W.heap.size W w') => DrawAppendChecksum_any v0 z0 w' (k0.1.below hW) k0.2
  have D4 := Lib.hid fun (i : Nat) (hi : i ≤ 100) w' (hW : Below W.heap.size W w') => vAt_any v0 z0 i w' (k0.1.below hW) k0.2 hi (by omega)
  have hb : Hid (Below W.heap.size W W) := Below.refl _ _
  clear k0
  go_enter Tryd.func3, Tryd.ntmps3
  go_wp2_with fail
  with_reducible refine HB.out.mono ?_
  rintro e w1 ⟨rfl, rfl⟩
  clear HB
  go_wp2_with fail
  refine (D1.out _ hb.out).mono ?_
  rintro e w2 ⟨n, rfl, hn, hb'⟩
  replace hb := Lib.hid (grow_trans hb.out hb')
  clear hb'
  obtain ⟨s, ok, hsv, hs1, hs2⟩ : ∃ s ok, strV (inB n (-999999) 999999) (numS n) = .tuple #[.string s, .bool ok] ∧ s.size ≤ 5000 ∧ ((ok = false ∧ s = ⟨#[]⟩ ∧ piR s = .tuple #[.int .i64 0, .bool false]) ∨ (ok = true ∧ piR s = .tuple #[.int .i64 n, .bool true])) := by
    cases hI : inB n (-999999) 999999 with
    | false => exact ⟨_, _, rfl, by decide, .inl ⟨rfl, rfl, (tail_long (s := ⟨#[]⟩) (T := ⟨#[]⟩) (tail_small (by decide)) (by decide))⟩⟩
    | true => exact ⟨_, _, rfl, by have := numS_short n hI; omega, .inr ⟨rfl, piR_numS hI⟩⟩
  have F1 := fun W ht => FormatInt_any n W ht
  have F2 := fun W => sFormatInt_any n W
  rw [hsv] at F1 F2
  replace F1 := Lib.hid F1
  replace F2 := Lib.hid F2
  clear hsv hn D1
  have HC := Lib.hid (F1.out w2 (Ht.out _ hb.out))
  go_wp2_with fail
  refine HC.out.mono ?_
  rintro e w3 ⟨rfl, hb'⟩
  replace hb := Lib.hid (grow_trans hb.out hb')
  clear hb' HC
  have HC := Lib.hid (F2.out w3)
  go_wp2_with fail
  refine HC.out.mono ?_
  rintro e w4 ⟨rfl, hb'⟩
  replace hb := Lib.hid (grow_trans hb.out hb')
  clear hb' HC
  clear F1 F2
  go_wp2_with fail
  refine (D2.out _ hb.out).mono ?_
  rintro e w5 ⟨t, rfl, htz, hb'⟩
  replace hb := Lib.hid (grow_trans hb.out hb')
  clear hb'
  obtain ⟨m, fine, hm⟩ := piR_shape t
  have F1 := fun W ht hy => ParseInt_any t W (by omega) ht hy
  have F2 := fun W => sParseInt_any t W (by omega)
  rw [hm] at F1 F2
  replace F1 := Lib.hid F1
  replace F2 := Lib.hid F2
  clear hm D2
  have HC := Lib.hid (F1.out w5 (Ht.out _ hb.out) (Hy.out _ hb.out))
  go_wp2_with fail
  refine HC.out.mono ?_
  rintro e w6 ⟨rfl, hb'⟩
  replace hb := Lib.hid (grow_trans hb.out hb')
  clear hb' HC
  have HC := Lib.hid (F2.out w6)
  go_wp2_with fail
  refine HC.out.mono ?_
  rintro e w7 ⟨rfl, hb'⟩
  replace hb := Lib.hid (grow_trans hb.out hb')
  clear hb' HC
  clear F1 F2 htz
  go_wp2_with fail
  refine (D3.out _ hb.out).mono ?_
  rintro e w8 ⟨x, rfl, hx, hb'⟩
  replace hb := Lib.hid (grow_trans hb.out hb')
  clear hb'
  have F1 := fun W ht => AppendChecksum_any x W (by omega) ht
  have F2 := fun W => sAppendChecksum_any x W (by omega)
  cases hA : apB x with
  | false =>
    rw [hA, show strV false (sealS x) = .tuple #[.string ⟨#[]⟩, .bool false] from rfl] at F1 F2
    replace F1 := Lib.hid F1
    replace F2 := Lib.hid F2
    clear hA D3 hx
    have HC := Lib.hid (F1.out w8 (Ht.out _ hb.out))
    go_wp2_with fail
    refine HC.out.mono ?_
    rintro e w9 ⟨rfl, hb'⟩
    replace hb := Lib.hid (grow_trans hb.out hb')
    clear hb' HC
    have HC := Lib.hid (F2.out w9)
    go_wp2_with fail
    refine HC.out.mono ?_
    rintro e w10 ⟨rfl, hb'⟩
    replace hb := Lib.hid (grow_trans hb.out hb')
    clear hb' HC
    clear F1 F2
    rcases hs2 with ⟨rfl, rfl, hpi⟩ | ⟨rfl, hpi⟩
    · skip
      have F1 := fun W ht hy => ParseInt_any ⟨#[]⟩ W (by first | omega | decide) ht hy
      rw [hpi] at F1
      replace F1 := Lib.hid F1
      clear hpi
      have HC := Lib.hid (F1.out w10 (Ht.out _ hb.out) (Hy.out _ hb.out))
      go_wp2_with fail
      refine HC.out.mono ?_
      rintro e w11 ⟨rfl, hb'⟩
      replace hb := Lib.hid (grow_trans hb.out hb')
      clear hb' HC
      clear F1
      go_wp2
      go_ret
      exact ⟨by simp, hb.out⟩
    · skip
      have F1 := fun W ht hy => ParseInt_any s W (by first | omega | decide) ht hy
      rw [hpi] at F1
      replace F1 := Lib.hid F1
      clear hpi
      have HC := Lib.hid (F1.out w10 (Ht.out _ hb.out) (Hy.out _ hb.out))
      go_wp2_with fail
      refine HC.out.mono ?_
      rintro e w11 ⟨rfl, hb'⟩
      replace hb := Lib.hid (grow_trans hb.out hb')
      clear hb' HC
      clear F1
      go_wp2
      go_ret
      exact ⟨by simp, hb.out⟩
  | true =>
    rw [hA, show strV true (sealS x) = .tuple #[.string (sealS x), .bool true] from rfl] at F1 F2
    replace F1 := Lib.hid F1
    replace F2 := Lib.hid F2
    obtain ⟨hv1, hv2⟩ := ver_seal hA
    have hflip := Lib.hid fun (y : ByteArray) (j : Nat) (b : UInt8) hk hs hb => ver_flip (x := x) (y := y) (k := j) (b := b) (by unfold apB at hA; simp only [Bool.and_eq_true, Bool.not_eq_true'] at hA; exact hA.1.2) hk hs hb
    have hsz : (sealS x).size ≤ 4000 := by unfold apB at hA; simp only [Bool.and_eq_true, decide_eq_true_eq] at hA; exact hA.2
    have hpos : 0 < (sealS x).size := by have := congrArg List.length (seal_list x); simp at this; omega
    have V0 := fun W ht => VerifyChecksum_any (sealS x) W (by omega) ht
    rw [hv1, hv2, show strV true x = .tuple #[.string x, .bool true] from rfl] at V0
    replace V0 := Lib.hid V0
    clear hv1 hv2
    generalize sealS x = y at *
    clear hA D3 hx
    have HC := Lib.hid (F1.out w8 (Ht.out _ hb.out))
    go_wp2_with fail
    refine HC.out.mono ?_
    rintro e w9 ⟨rfl, hb'⟩
    replace hb := Lib.hid (grow_trans hb.out hb')
    clear hb' HC
    have HC := Lib.hid (F2.out w9)
    go_wp2_with fail
    refine HC.out.mono ?_
    rintro e w10 ⟨rfl, hb'⟩
    replace hb := Lib.hid (grow_trans hb.out hb')
    clear hb' HC
    clear F1 F2
    rcases hs2 with ⟨rfl, rfl, hpi⟩ | ⟨rfl, hpi⟩
    · skip
      have F1 := fun W ht hy => ParseInt_any ⟨#[]⟩ W (by first | omega | decide) ht hy
      rw [hpi] at F1
      replace F1 := Lib.hid F1
      clear hpi
      have HC := Lib.hid (F1.out w10 (Ht.out _ hb.out) (Hy.out _ hb.out))
      go_wp2_with fail
      refine HC.out.mono ?_
      rintro e w11 ⟨rfl, hb'⟩
      replace hb := Lib.hid (grow_trans hb.out hb')
      clear hb' HC
      clear F1
      have HC := Lib.hid (V0.out w11 (Ht.out _ hb.out))
      go_wp2_with fail
      refine HC.out.mono ?_
      rintro e w12 ⟨rfl, hb'⟩
      replace hb := Lib.hid (grow_trans hb.out hb')
      clear hb' HC
      obtain ⟨cap, W2, hcv, hc1, hc2, hbc, hB⟩ := byt_conv (P := Tryd.prog) Tryd.underlying9 Tryd.underlying22 Tryd.underlying5 y w12 (by omega)
      have hge : Hid (W.heap.size ≤ w12.heap.size) := hb.out.size
      replace hb := Lib.hid (grow_trans hb.out hbc)
      replace hB := Lib.hid hB
      have HC := Lib.hid (D4.out 9 (by omega) W2 hb.out)
      clear hbc
      go_wp2_with fail
      refine HC.out.mono ?_
      rintro e wv ⟨x9, rfl, ⟨a0, a1⟩, rfl⟩
      clear HC hcv
      obtain ⟨j, hj, hjl⟩ : ∃ j : Nat, x9 % (y.size : Int) = (j : Int) ∧ j < y.size := ⟨(x9 % (y.size : Int)).toNat, (Int.toNat_of_nonneg (Int.emod_nonneg _ (by omega))).symm, by have h1 := Int.emod_nonneg x9 (show (y.size : Int) ≠ 0 by omega); have h2 := Int.emod_lt_of_pos x9 (show 0 < (y.size : Int) by omega); omega⟩
      have hjw : IntKind.i64.wrap (x9.tmod (y.size : Int)) = (j : Int) := by rw [Int.tmod_eq_emod_of_nonneg a0, hj]; exact IntWalk.i64_in _ (by omega)
      have hyl : y.data.toList.length = y.size := by simp
      obtain ⟨c0, hc0⟩ : ∃ c, y.data.toList[j]? = some c := ⟨_, List.getElem?_eq_getElem (by omega)⟩
      obtain ⟨k1, k2⟩ := hB.out j c0 hc0
      have hc0l : c0.toNat < 256 := c0.toNat_lt
      have hjz : (0 : Int) ≤ (j : Int) := by omega
      have hjy : (j : Int) < (y.size : Int) := by omega
      generalize hBB : w12.heap.size = B at *
      clear hBB
      have HV := Lib.hid fun W' hW => D4.out 10 (by omega) W' hW
      go_wp2_with fail
      replace hB := hB.out.below (by omega) (grow_drew W2)
      have hbd := grow_trans hb.out (grow_drew W2)
      obtain ⟨k1, k2⟩ := hB j c0 hc0
      refine wp_region_held_drew (S := fun W => True) (by kernel_rfl) trivial (fun hHeld => ?_)
      generalize W2.drew = Wd at *
      refine wpAnyH_take (i := 0) (v := ?_) rfl (by kernel_rfl) (by kernel_rfl) (by kernel_rfl) (fun _ _ _ h => h) (Or.inl ⟨by rfl, ?_⟩) (by assumption) ?_
      rotate_left
      · intro w hSw
        try dsimp only at hSw
        go_simp
        try (with_reducible rfl)
      try simp only [Act.put, List.setIfInBounds_toArray, List.set_cons_zero, List.set_cons_succ]
      refine wpAnyH_take (i := 1) (v := ?_) rfl (by kernel_rfl) (by kernel_rfl) (by kernel_rfl) (fun _ _ _ h => h) (Or.inl ⟨by rfl, ?_⟩) (by assumption) ?_
      rotate_left
      · intro w hSw
        try dsimp only at hSw
        go_simp
        try (with_reducible rfl)
      try simp only [Act.put, List.setIfInBounds_toArray, List.set_cons_zero, List.set_cons_succ]
      refine wpAnyH_take (i := 2) (v := ?_) rfl (by kernel_rfl) (by kernel_rfl) (by kernel_rfl) (fun _ _ _ h => h) (Or.inl ⟨by rfl, ?_⟩) (by assumption) ?_
      rotate_left
      · intro w hSw
        try dsimp only at hSw
        go_simp
        try (with_reducible rfl)
      try simp only [Act.put, List.setIfInBounds_toArray, List.set_cons_zero, List.set_cons_succ]
      refine wpAnyH_take (i := 3) (v := ?_) rfl (by kernel_rfl) (by kernel_rfl) (by kernel_rfl) (fun _ _ _ h => h) (Or.inl ⟨by rfl, ?_⟩) (by assumption) ?_
      rotate_left
      · intro w hSw
        try dsimp only at hSw
        go_simp
        try (with_reducible rfl)
      try simp only [Act.put, List.setIfInBounds_toArray, List.set_cons_zero, List.set_cons_succ]
      refine wpAnyH_take (i := 4) (v := ?_) rfl (by kernel_rfl) (by kernel_rfl) (by kernel_rfl) (fun _ _ _ h => h) (Or.inl ⟨by rfl, ?_⟩) (by assumption) ?_
      rotate_left
      · intro w hSw
        try dsimp only at hSw
        go_simp
        try (with_reducible rfl)
      try simp only [Act.put, List.setIfInBounds_toArray, List.set_cons_zero, List.set_cons_succ]
      refine wpAnyH_take (i := 6) (v := ?_) rfl (by kernel_rfl) (by kernel_rfl) (by kernel_rfl) (fun _ _ _ h => h) (Or.inl ⟨by rfl, ?_⟩) (by assumption) ?_
      rotate_left
      · intro w hSw
        try dsimp only at hSw
        go_simp
        try (with_reducible rfl)
      try simp only [Act.put, List.setIfInBounds_toArray, List.set_cons_zero, List.set_cons_succ]
      refine wpAnyH_ready (rs := [5, 7]) (by kernel_rfl) (by simp) ?_
      refine AllReadyH.cons rfl (fun K hK => ?_) (AllReadyH.cons rfl (fun K hK => ?_) AllReadyH.nil)
      · skip
        go_simp
        refine hK.out _ _ trivial (fun hHeld => ?_)
        clear hK K
        refine wpAnyH_ready (rs := [7]) (by kernel_rfl) (by simp) (AllReadyH.cons rfl (fun K hK => ?_) AllReadyH.nil)
        go_simp
        go_at_call 17
        refine (D4.out 10 (by omega) Wd hbd).mono ?_
        rintro e wu ⟨x10, rfl, ⟨b0, b1⟩, rfl⟩
        refine hK.out _ _ trivial (fun hHeld => ?_)
        clear hK K
        have m0 : x10.tmod 255 = x10 % 255 := Int.tmod_eq_emod_of_nonneg b0
        obtain ⟨r, hr⟩ : ∃ r, x10 % 255 = r := ⟨_, rfl⟩
        have r0 : 0 ≤ r := by omega
        have r1 : r < 255 := by omega
        have m1 : x10.tmod 255 = r := by rw [m0, hr]
        have m2 : IntKind.i64.wrap r = r := IntWalk.i64_in _ (by omega)
        have m3 : IntKind.i64.wrap (1 + r) = 1 + r := IntWalk.i64_in _ (by omega)
        have m4 : IntKind.u8.wrap (1 + r) = 1 + r := by simp [IntKind.wrap, IntKind.bits, IntKind.signed]; omega
        obtain ⟨d, hxd, hcd⟩ := xor_other c0 r r0 r1
        clear m0
        refine wpAnyH_take (i := 8) (v := ?_) rfl (by kernel_rfl) (by kernel_rfl) (by kernel_rfl) (fun _ _ _ h => h) (Or.inl ⟨by rfl, ?_⟩) (by assumption) ?_
        rotate_left
        · intro w hSw
          try dsimp only at hSw
          go_simp
          try (with_reducible rfl)
        try simp only [Act.put, List.setIfInBounds_toArray, List.set_cons_zero, List.set_cons_succ]
        refine wpAnyH_take (i := 9) (v := ?_) rfl (by kernel_rfl) (by kernel_rfl) (by kernel_rfl) (fun _ _ _ h => h) (Or.inl ⟨by rfl, ?_⟩) (by assumption) ?_
        rotate_left
        · intro w hSw
          try dsimp only at hSw
          go_simp
          try (with_reducible rfl)
        try simp only [Act.put, List.setIfInBounds_toArray, List.set_cons_zero, List.set_cons_succ]
        refine wpAnyH_take (i := 10) (v := ?_) rfl (by kernel_rfl) (by kernel_rfl) (by kernel_rfl) (fun _ _ _ h => h) (Or.inl ⟨by rfl, ?_⟩) (by assumption) ?_
        rotate_left
        · intro w hSw
          try dsimp only at hSw
          go_simp
          try (with_reducible rfl)
        try simp only [Act.put, List.setIfInBounds_toArray, List.set_cons_zero, List.set_cons_succ]
        refine wpAnyH_take (i := 11) (v := ?_) rfl (by kernel_rfl) (by kernel_rfl) (by kernel_rfl) (fun _ _ _ h => h) (Or.inl ⟨by rfl, ?_⟩) (by assumption) ?_
        rotate_left
        · intro w hSw
          try dsimp only at hSw
          go_simp
          try (with_reducible rfl)
        try simp only [Act.put, List.setIfInBounds_toArray, List.set_cons_zero, List.set_cons_succ]
        refine wpAnyH_take (i := 12) (v := ?_) rfl (by kernel_rfl) (by kernel_rfl) (by kernel_rfl) (fun _ _ _ h => h) (Or.inl ⟨by rfl, ?_⟩) (by assumption) ?_
        rotate_left
        · intro w hSw
          try dsimp only at hSw
          go_simp
          try (with_reducible rfl)
        try simp only [Act.put, List.setIfInBounds_toArray, List.set_cons_zero, List.set_cons_succ]
        refine wpAnyH_ready (rs := [13]) (by kernel_rfl) (by simp) (AllReadyH.cons rfl (fun K hK => ?_) AllReadyH.nil)
        go_simp
        refine hK.out _ _ trivial (fun hHeld => ?_)
        clear hK K
        clear m1 m2 m3 m4 hxd hr
        refine wpAnyH_done (by kernel_rfl) ?_ _
        have hbz := Lib.hid (hbd.setCell (p := ⟨B, j, none⟩) (by show W.heap.size ≤ B; exact hge.out) (.int .u8 (d.toNat : Int)))
        have hB3 := ByB.set (k := j) hB (by omega) d
        have hln : (y.data.toList.set j d).length = y.size := by rw [List.length_set]; exact hyl
        have hvf : vfB (bs (y.data.toList.set j d)) = false := hflip.out (bs (y.data.toList.set j d)) j d hjl (by unfold bs; simp) (by rw [hc0]; intro e; exact hcd (Option.some.inj e))
        have hbk := ByB.back (P := Tryd.prog) (cap := cap) Tryd.underlying9 Tryd.underlying22 Tryd.underlying5 hB3 hln
        have hsz2 : (bs (y.data.toList.set j d)).size = y.size := by rw [bs_size, hln]
        generalize bs (y.data.toList.set j d) = y2 at *
        have HV2 := fun W' hW' => VerifyChecksum_any y2 W' (by omega) hW'
        rw [hvf, show strV false (preS y2) = .tuple #[.string ⟨#[]⟩, .bool false] from rfl] at HV2
        replace HV2 := Lib.hid (HV2 _ (Ht.out _ hbz.out))
        clear hvf hB3 hln hB hbd hb k1 k2 hc0 hcd
        generalize Wd.setCell ⟨B, j, none⟩ (.int .u8 (d.toNat : Int)) = Wf at *
        go_wp2_with fail
        refine HV2.out.mono ?_
        rintro e wl ⟨rfl, hbl⟩
        replace hbz := Lib.hid (grow_trans hbz.out hbl)
        clear hbl HV2 hbk
        go_wp2
        go_ret
        exact ⟨by simp, hbz.out⟩
      · skip
        go_simp
        go_at_call 17
        refine (D4.out 10 (by omega) Wd hbd).mono ?_
        rintro e wu ⟨x10, rfl, ⟨b0, b1⟩, rfl⟩
        refine hK.out _ _ trivial (fun hHeld => ?_)
        clear hK K
        have m0 : x10.tmod 255 = x10 % 255 := Int.tmod_eq_emod_of_nonneg b0
        obtain ⟨r, hr⟩ : ∃ r, x10 % 255 = r := ⟨_, rfl⟩
        have r0 : 0 ≤ r := by omega
        have r1 : r < 255 := by omega
        have m1 : x10.tmod 255 = r := by rw [m0, hr]
        have m2 : IntKind.i64.wrap r = r := IntWalk.i64_in _ (by omega)
        have m3 : IntKind.i64.wrap (1 + r) = 1 + r := IntWalk.i64_in _ (by omega)
        have m4 : IntKind.u8.wrap (1 + r) = 1 + r := by simp [IntKind.wrap, IntKind.bits, IntKind.signed]; omega
        obtain ⟨d, hxd, hcd⟩ := xor_other c0 r r0 r1
        clear m0
        refine wpAnyH_take (i := 8) (v := ?_) rfl (by kernel_rfl) (by kernel_rfl) (by kernel_rfl) (fun _ _ _ h => h) (Or.inl ⟨by rfl, ?_⟩) (by assumption) ?_
        rotate_left
        · intro w hSw
          try dsimp only at hSw
          go_simp
          try (with_reducible rfl)
        try simp only [Act.put, List.setIfInBounds_toArray, List.set_cons_zero, List.set_cons_succ]
        refine wpAnyH_take (i := 9) (v := ?_) rfl (by kernel_rfl) (by kernel_rfl) (by kernel_rfl) (fun _ _ _ h => h) (Or.inl ⟨by rfl, ?_⟩) (by assumption) ?_
        rotate_left
        · intro w hSw
          try dsimp only at hSw
          go_simp
          try (with_reducible rfl)
        try simp only [Act.put, List.setIfInBounds_toArray, List.set_cons_zero, List.set_cons_succ]
        refine wpAnyH_take (i := 10) (v := ?_) rfl (by kernel_rfl) (by kernel_rfl) (by kernel_rfl) (fun _ _ _ h => h) (Or.inl ⟨by rfl, ?_⟩) (by assumption) ?_
        rotate_left
        · intro w hSw
          try dsimp only at hSw
          go_simp
          try (with_reducible rfl)
        try simp only [Act.put, List.setIfInBounds_toArray, List.set_cons_zero, List.set_cons_succ]
        refine wpAnyH_ready (rs := [5]) (by kernel_rfl) (by simp) (AllReadyH.cons rfl (fun K hK => ?_) AllReadyH.nil)
        go_simp
        refine hK.out _ _ trivial (fun hHeld => ?_)
        clear hK K
        refine wpAnyH_take (i := 11) (v := ?_) rfl (by kernel_rfl) (by kernel_rfl) (by kernel_rfl) (fun _ _ _ h => h) (Or.inl ⟨by rfl, ?_⟩) (by assumption) ?_
        rotate_left
        · intro w hSw
          try dsimp only at hSw
          go_simp
          try (with_reducible rfl)
        try simp only [Act.put, List.setIfInBounds_toArray, List.set_cons_zero, List.set_cons_succ]
        refine wpAnyH_take (i := 12) (v := ?_) rfl (by kernel_rfl) (by kernel_rfl) (by kernel_rfl) (fun _ _ _ h => h) (Or.inl ⟨by rfl, ?_⟩) (by assumption) ?_
        rotate_left
        · intro w hSw
          try dsimp only at hSw
          go_simp
          try (with_reducible rfl)
        try simp only [Act.put, List.setIfInBounds_toArray, List.set_cons_zero, List.set_cons_succ]
        refine wpAnyH_ready (rs := [13]) (by kernel_rfl) (by simp) (AllReadyH.cons rfl (fun K hK => ?_) AllReadyH.nil)
        go_simp
        refine hK.out _ _ trivial (fun hHeld => ?_)
        clear hK K
        clear m1 m2 m3 m4 hxd hr
        refine wpAnyH_done (by kernel_rfl) ?_ _
        have hbz := Lib.hid (hbd.setCell (p := ⟨B, j, none⟩) (by show W.heap.size ≤ B; exact hge.out) (.int .u8 (d.toNat : Int)))
        have hB3 := ByB.set (k := j) hB (by omega) d
        have hln : (y.data.toList.set j d).length = y.size := by rw [List.length_set]; exact hyl
        have hvf : vfB (bs (y.data.toList.set j d)) = false := hflip.out (bs (y.data.toList.set j d)) j d hjl (by unfold bs; simp) (by rw [hc0]; intro e; exact hcd (Option.some.inj e))
        have hbk := ByB.back (P := Tryd.prog) (cap := cap) Tryd.underlying9 Tryd.underlying22 Tryd.underlying5 hB3 hln
        have hsz2 : (bs (y.data.toList.set j d)).size = y.size := by rw [bs_size, hln]
        generalize bs (y.data.toList.set j d) = y2 at *
        have HV2 := fun W' hW' => VerifyChecksum_any y2 W' (by omega) hW'
        rw [hvf, show strV false (preS y2) = .tuple #[.string ⟨#[]⟩, .bool false] from rfl] at HV2
        replace HV2 := Lib.hid (HV2 _ (Ht.out _ hbz.out))
        clear hvf hB3 hln hB hbd hb k1 k2 hc0 hcd
        generalize Wd.setCell ⟨B, j, none⟩ (.int .u8 (d.toNat : Int)) = Wf at *
        go_wp2_with fail
        refine HV2.out.mono ?_
        rintro e wl ⟨rfl, hbl⟩
        replace hbz := Lib.hid (grow_trans hbz.out hbl)
        clear hbl HV2 hbk
        go_wp2
        go_ret
        exact ⟨by simp, hbz.out⟩
    · skip
      have F1 := fun W ht hy => ParseInt_any s W (by first | omega | decide) ht hy
      rw [hpi] at F1
      replace F1 := Lib.hid F1
      clear hpi
      have HC := Lib.hid (F1.out w10 (Ht.out _ hb.out) (Hy.out _ hb.out))
      go_wp2_with fail
      refine HC.out.mono ?_
      rintro e w11 ⟨rfl, hb'⟩
      replace hb := Lib.hid (grow_trans hb.out hb')
      clear hb' HC
      clear F1
      have HC := Lib.hid (V0.out w11 (Ht.out _ hb.out))
      go_wp2_with fail
      refine HC.out.mono ?_
      rintro e w12 ⟨rfl, hb'⟩
      replace hb := Lib.hid (grow_trans hb.out hb')
      clear hb' HC
      obtain ⟨cap, W2, hcv, hc1, hc2, hbc, hB⟩ := byt_conv (P := Tryd.prog) Tryd.underlying9 Tryd.underlying22 Tryd.underlying5 y w12 (by omega)
      have hge : Hid (W.heap.size ≤ w12.heap.size) := hb.out.size
      replace hb := Lib.hid (grow_trans hb.out hbc)
      replace hB := Lib.hid hB
      have HC := Lib.hid (D4.out 9 (by omega) W2 hb.out)
      clear hbc
      go_wp2_with fail
      refine HC.out.mono ?_
      rintro e wv ⟨x9, rfl, ⟨a0, a1⟩, rfl⟩
      clear HC hcv
      obtain ⟨j, hj, hjl⟩ : ∃ j : Nat, x9 % (y.size : Int) = (j : Int) ∧ j < y.size := ⟨(x9 % (y.size : Int)).toNat, (Int.toNat_of_nonneg (Int.emod_nonneg _ (by omega))).symm, by have h1 := Int.emod_nonneg x9 (show (y.size : Int) ≠ 0 by omega); have h2 := Int.emod_lt_of_pos x9 (show 0 < (y.size : Int) by omega); omega⟩
      have hjw : IntKind.i64.wrap (x9.tmod (y.size : Int)) = (j : Int) := by rw [Int.tmod_eq_emod_of_nonneg a0, hj]; exact IntWalk.i64_in _ (by omega)
      have hyl : y.data.toList.length = y.size := by simp
      obtain ⟨c0, hc0⟩ : ∃ c, y.data.toList[j]? = some c := ⟨_, List.getElem?_eq_getElem (by omega)⟩
      obtain ⟨k1, k2⟩ := hB.out j c0 hc0
      have hc0l : c0.toNat < 256 := c0.toNat_lt
      have hjz : (0 : Int) ≤ (j : Int) := by omega
      have hjy : (j : Int) < (y.size : Int) := by omega
      generalize hBB : w12.heap.size = B at *
      clear hBB
      have HV := Lib.hid fun W' hW => D4.out 10 (by omega) W' hW
      go_wp2_with fail
      replace hB := hB.out.below (by omega) (grow_drew W2)
      have hbd := grow_trans hb.out (grow_drew W2)
      obtain ⟨k1, k2⟩ := hB j c0 hc0
      refine wp_region_held_drew (S := fun W => True) (by kernel_rfl) trivial (fun hHeld => ?_)
      generalize W2.drew = Wd at *
      refine wpAnyH_take (i := 0) (v := ?_) rfl (by kernel_rfl) (by kernel_rfl) (by kernel_rfl) (fun _ _ _ h => h) (Or.inl ⟨by rfl, ?_⟩) (by assumption) ?_
      rotate_left
      · intro w hSw
        try dsimp only at hSw
        go_simp
        try (with_reducible rfl)
      try simp only [Act.put, List.setIfInBounds_toArray, List.set_cons_zero, List.set_cons_succ]
      refine wpAnyH_take (i := 1) (v := ?_) rfl (by kernel_rfl) (by kernel_rfl) (by kernel_rfl) (fun _ _ _ h => h) (Or.inl ⟨by rfl, ?_⟩) (by assumption) ?_
      rotate_left
      · intro w hSw
        try dsimp only at hSw
        go_simp
        try (with_reducible rfl)
      try simp only [Act.put, List.setIfInBounds_toArray, List.set_cons_zero, List.set_cons_succ]
      refine wpAnyH_take (i := 2) (v := ?_) rfl (by kernel_rfl) (by kernel_rfl) (by kernel_rfl) (fun _ _ _ h => h) (Or.inl ⟨by rfl, ?_⟩) (by assumption) ?_
      rotate_left
      · intro w hSw
        try dsimp only at hSw
        go_simp
        try (with_reducible rfl)
      try simp only [Act.put, List.setIfInBounds_toArray, List.set_cons_zero, List.set_cons_succ]
      refine wpAnyH_take (i := 3) (v := ?_) rfl (by kernel_rfl) (by kernel_rfl) (by kernel_rfl) (fun _ _ _ h => h) (Or.inl ⟨by rfl, ?_⟩) (by assumption) ?_
      rotate_left
      · intro w hSw
        try dsimp only at hSw
        go_simp
        try (with_reducible rfl)
      try simp only [Act.put, List.setIfInBounds_toArray, List.set_cons_zero, List.set_cons_succ]
      refine wpAnyH_take (i := 4) (v := ?_) rfl (by kernel_rfl) (by kernel_rfl) (by kernel_rfl) (fun _ _ _ h => h) (Or.inl ⟨by rfl, ?_⟩) (by assumption) ?_
      rotate_left
      · intro w hSw
        try dsimp only at hSw
        go_simp
        try (with_reducible rfl)
      try simp only [Act.put, List.setIfInBounds_toArray, List.set_cons_zero, List.set_cons_succ]
      refine wpAnyH_take (i := 6) (v := ?_) rfl (by kernel_rfl) (by kernel_rfl) (by kernel_rfl) (fun _ _ _ h => h) (Or.inl ⟨by rfl, ?_⟩) (by assumption) ?_
      rotate_left
      · intro w hSw
        try dsimp only at hSw
        go_simp
        try (with_reducible rfl)
      try simp only [Act.put, List.setIfInBounds_toArray, List.set_cons_zero, List.set_cons_succ]
      refine wpAnyH_ready (rs := [5, 7]) (by kernel_rfl) (by simp) ?_
      refine AllReadyH.cons rfl (fun K hK => ?_) (AllReadyH.cons rfl (fun K hK => ?_) AllReadyH.nil)
      · skip
        go_simp
        refine hK.out _ _ trivial (fun hHeld => ?_)
        clear hK K
        refine wpAnyH_ready (rs := [7]) (by kernel_rfl) (by simp) (AllReadyH.cons rfl (fun K hK => ?_) AllReadyH.nil)
        go_simp
        go_at_call 17
        refine (D4.out 10 (by omega) Wd hbd).mono ?_
        rintro e wu ⟨x10, rfl, ⟨b0, b1⟩, rfl⟩
        refine hK.out _ _ trivial (fun hHeld => ?_)
        clear hK K
        have m0 : x10.tmod 255 = x10 % 255 := Int.tmod_eq_emod_of_nonneg b0
        obtain ⟨r, hr⟩ : ∃ r, x10 % 255 = r := ⟨_, rfl⟩
        have r0 : 0 ≤ r := by omega
        have r1 : r < 255 := by omega
        have m1 : x10.tmod 255 = r := by rw [m0, hr]
        have m2 : IntKind.i64.wrap r = r := IntWalk.i64_in _ (by omega)
        have m3 : IntKind.i64.wrap (1 + r) = 1 + r := IntWalk.i64_in _ (by omega)
        have m4 : IntKind.u8.wrap (1 + r) = 1 + r := by simp [IntKind.wrap, IntKind.bits, IntKind.signed]; omega
        obtain ⟨d, hxd, hcd⟩ := xor_other c0 r r0 r1
        clear m0
        refine wpAnyH_take (i := 8) (v := ?_) rfl (by kernel_rfl) (by kernel_rfl) (by kernel_rfl) (fun _ _ _ h => h) (Or.inl ⟨by rfl, ?_⟩) (by assumption) ?_
        rotate_left
        · intro w hSw
          try dsimp only at hSw
          go_simp
          try (with_reducible rfl)
        try simp only [Act.put, List.setIfInBounds_toArray, List.set_cons_zero, List.set_cons_succ]
        refine wpAnyH_take (i := 9) (v := ?_) rfl (by kernel_rfl) (by kernel_rfl) (by kernel_rfl) (fun _ _ _ h => h) (Or.inl ⟨by rfl, ?_⟩) (by assumption) ?_
        rotate_left
        · intro w hSw
          try dsimp only at hSw
          go_simp
          try (with_reducible rfl)
        try simp only [Act.put, List.setIfInBounds_toArray, List.set_cons_zero, List.set_cons_succ]
        refine wpAnyH_take (i := 10) (v := ?_) rfl (by kernel_rfl) (by kernel_rfl) (by kernel_rfl) (fun _ _ _ h => h) (Or.inl ⟨by rfl, ?_⟩) (by assumption) ?_
        rotate_left
        · intro w hSw
          try dsimp only at hSw
          go_simp
          try (with_reducible rfl)
        try simp only [Act.put, List.setIfInBounds_toArray, List.set_cons_zero, List.set_cons_succ]
        refine wpAnyH_take (i := 11) (v := ?_) rfl (by kernel_rfl) (by kernel_rfl) (by kernel_rfl) (fun _ _ _ h => h) (Or.inl ⟨by rfl, ?_⟩) (by assumption) ?_
        rotate_left
        · intro w hSw
          try dsimp only at hSw
          go_simp
          try (with_reducible rfl)
        try simp only [Act.put, List.setIfInBounds_toArray, List.set_cons_zero, List.set_cons_succ]
        refine wpAnyH_take (i := 12) (v := ?_) rfl (by kernel_rfl) (by kernel_rfl) (by kernel_rfl) (fun _ _ _ h => h) (Or.inl ⟨by rfl, ?_⟩) (by assumption) ?_
        rotate_left
        · intro w hSw
          try dsimp only at hSw
          go_simp
          try (with_reducible rfl)
        try simp only [Act.put, List.setIfInBounds_toArray, List.set_cons_zero, List.set_cons_succ]
        refine wpAnyH_ready (rs := [13]) (by kernel_rfl) (by simp) (AllReadyH.cons rfl (fun K hK => ?_) AllReadyH.nil)
        go_simp
        refine hK.out _ _ trivial (fun hHeld => ?_)
        clear hK K
        clear m1 m2 m3 m4 hxd hr
        refine wpAnyH_done (by kernel_rfl) ?_ _
        have hbz := Lib.hid (hbd.setCell (p := ⟨B, j, none⟩) (by show W.heap.size ≤ B; exact hge.out) (.int .u8 (d.toNat : Int)))
        have hB3 := ByB.set (k := j) hB (by omega) d
        have hln : (y.data.toList.set j d).length = y.size := by rw [List.length_set]; exact hyl
        have hvf : vfB (bs (y.data.toList.set j d)) = false := hflip.out (bs (y.data.toList.set j d)) j d hjl (by unfold bs; simp) (by rw [hc0]; intro e; exact hcd (Option.some.inj e))
        have hbk := ByB.back (P := Tryd.prog) (cap := cap) Tryd.underlying9 Tryd.underlying22 Tryd.underlying5 hB3 hln
        have hsz2 : (bs (y.data.toList.set j d)).size = y.size := by rw [bs_size, hln]
        generalize bs (y.data.toList.set j d) = y2 at *
        have HV2 := fun W' hW' => VerifyChecksum_any y2 W' (by omega) hW'
        rw [hvf, show strV false (preS y2) = .tuple #[.string ⟨#[]⟩, .bool false] from rfl] at HV2
        replace HV2 := Lib.hid (HV2 _ (Ht.out _ hbz.out))
        clear hvf hB3 hln hB hbd hb k1 k2 hc0 hcd
        generalize Wd.setCell ⟨B, j, none⟩ (.int .u8 (d.toNat : Int)) = Wf at *
        go_wp2_with fail
        refine HV2.out.mono ?_
        rintro e wl ⟨rfl, hbl⟩
        replace hbz := Lib.hid (grow_trans hbz.out hbl)
        clear hbl HV2 hbk
        go_wp2
        go_ret
        exact ⟨by simp, hbz.out⟩
      · skip
        go_simp
        go_at_call 17
        refine (D4.out 10 (by omega) Wd hbd).mono ?_
        rintro e wu ⟨x10, rfl, ⟨b0, b1⟩, rfl⟩
        refine hK.out _ _ trivial (fun hHeld => ?_)
        clear hK K
        have m0 : x10.tmod 255 = x10 % 255 := Int.tmod_eq_emod_of_nonneg b0
        obtain ⟨r, hr⟩ : ∃ r, x10 % 255 = r := ⟨_, rfl⟩
        have r0 : 0 ≤ r := by omega
        have r1 : r < 255 := by omega
        have m1 : x10.tmod 255 = r := by rw [m0, hr]
        have m2 : IntKind.i64.wrap r = r := IntWalk.i64_in _ (by omega)
        have m3 : IntKind.i64.wrap (1 + r) = 1 + r := IntWalk.i64_in _ (by omega)
        have m4 : IntKind.u8.wrap (1 + r) = 1 + r := by simp [IntKind.wrap, IntKind.bits, IntKind.signed]; omega
        obtain ⟨d, hxd, hcd⟩ := xor_other c0 r r0 r1
        clear m0
        refine wpAnyH_take (i := 8) (v := ?_) rfl (by kernel_rfl) (by kernel_rfl) (by kernel_rfl) (fun _ _ _ h => h) (Or.inl ⟨by rfl, ?_⟩) (by assumption) ?_
        rotate_left
        · intro w hSw
          try dsimp only at hSw
          go_simp
          try (with_reducible rfl)
        try simp only [Act.put, List.setIfInBounds_toArray, List.set_cons_zero, List.set_cons_succ]
        refine wpAnyH_take (i := 9) (v := ?_) rfl (by kernel_rfl) (by kernel_rfl) (by kernel_rfl) (fun _ _ _ h => h) (Or.inl ⟨by rfl, ?_⟩) (by assumption) ?_
        rotate_left
        · intro w hSw
          try dsimp only at hSw
          go_simp
          try (with_reducible rfl)
        try simp only [Act.put, List.setIfInBounds_toArray, List.set_cons_zero, List.set_cons_succ]
        refine wpAnyH_take (i := 10) (v := ?_) rfl (by kernel_rfl) (by kernel_rfl) (by kernel_rfl) (fun _ _ _ h => h) (Or.inl ⟨by rfl, ?_⟩) (by assumption) ?_
        rotate_left
        · intro w hSw
          try dsimp only at hSw
          go_simp
          try (with_reducible rfl)
        try simp only [Act.put, List.setIfInBounds_toArray, List.set_cons_zero, List.set_cons_succ]
        refine wpAnyH_ready (rs := [5]) (by kernel_rfl) (by simp) (AllReadyH.cons rfl (fun K hK => ?_) AllReadyH.nil)
        go_simp
        refine hK.out _ _ trivial (fun hHeld => ?_)
        clear hK K
        refine wpAnyH_take (i := 11) (v := ?_) rfl (by kernel_rfl) (by kernel_rfl) (by kernel_rfl) (fun _ _ _ h => h) (Or.inl ⟨by rfl, ?_⟩) (by assumption) ?_
        rotate_left
        · intro w hSw
          try dsimp only at hSw
          go_simp
          try (with_reducible rfl)
        try simp only [Act.put, List.setIfInBounds_toArray, List.set_cons_zero, List.set_cons_succ]
        refine wpAnyH_take (i := 12) (v := ?_) rfl (by kernel_rfl) (by kernel_rfl) (by kernel_rfl) (fun _ _ _ h => h) (Or.inl ⟨by rfl, ?_⟩) (by assumption) ?_
        rotate_left
        · intro w hSw
          try dsimp only at hSw
          go_simp
          try (with_reducible rfl)
        try simp only [Act.put, List.setIfInBounds_toArray, List.set_cons_zero, List.set_cons_succ]
        refine wpAnyH_ready (rs := [13]) (by kernel_rfl) (by simp) (AllReadyH.cons rfl (fun K hK => ?_) AllReadyH.nil)
        go_simp
        refine hK.out _ _ trivial (fun hHeld => ?_)
        clear hK K
        clear m1 m2 m3 m4 hxd hr
        refine wpAnyH_done (by kernel_rfl) ?_ _
        have hbz := Lib.hid (hbd.setCell (p := ⟨B, j, none⟩) (by show W.heap.size ≤ B; exact hge.out) (.int .u8 (d.toNat : Int)))
        have hB3 := ByB.set (k := j) hB (by omega) d
        have hln : (y.data.toList.set j d).length = y.size := by rw [List.length_set]; exact hyl
        have hvf : vfB (bs (y.data.toList.set j d)) = false := hflip.out (bs (y.data.toList.set j d)) j d hjl (by unfold bs; simp) (by rw [hc0]; intro e; exact hcd (Option.some.inj e))
        have hbk := ByB.back (P := Tryd.prog) (cap := cap) Tryd.underlying9 Tryd.underlying22 Tryd.underlying5 hB3 hln
        have hsz2 : (bs (y.data.toList.set j d)).size = y.size := by rw [bs_size, hln]
        generalize bs (y.data.toList.set j d) = y2 at *
        have HV2 := fun W' hW' => VerifyChecksum_any y2 W' (by omega) hW'
        rw [hvf, show strV false (preS y2) = .tuple #[.string ⟨#[]⟩, .bool false] from rfl] at HV2
        replace HV2 := Lib.hid (HV2 _ (Ht.out _ hbz.out))
        clear hvf hB3 hln hB hbd hb k1 k2 hc0 hcd
        generalize Wd.setCell ⟨B, j, none⟩ (.int .u8 (d.toNat : Int)) = Wf at *
        go_wp2_with fail
        refine HV2.out.mono ?_
        rintro e wl ⟨rfl, hbl⟩
        replace hbz := Lib.hid (grow_trans hbz.out hbl)
        clear hbl HV2 hbk
        go_wp2
        go_ret
        exact ⟨by simp, hbz.out⟩
/-- The program's own start meets the row's condition. -/
theorem door_met (os : Os) (args : Array Value) : laidMetH Tryd.prog Rows.fnStringsRow.laid ((World.doorLaid Tryd.prog 72 os).forCall (fun _ _ => 0) ⟨#[], args, []⟩).memory :=
  laidMetH_of_parts3 (fuel := 8) (laidMet_of_run' 8 (by kernel_rfl) (by kernel_rfl)) (by kernel_rfl) (by kernel_rfl)
/-! the frame: the arguments opened, the row closed -/
set_option maxRecDepth 100000 in
theorem lifted (os : Os) (started : os.Started) (H : Type) (enc : TypeId × Value → H) :
    ReturnsInHanded {} Tryd.checked os 3 .any (fun w args => (Rows.fnStringsSpec.pre enc Tryd.prog Tryd.f3 [] false w args ∧ laidMetH Tryd.prog Rows.fnStringsRow.laid w) ∧ sizedMet enc Tryd.prog Tryd.f3 (OpenSpec.ofChange Rows.fnStringsSpec) false w args) (Rows.fnStringsSpec.post enc Tryd.prog Tryd.f3 false true false false) := by
  refine law_laid (C := Tryd.checked) Rows.fnStringsRow.laid own started (by kernel_rfl) Tryd.func3
    (ChangeSpec.witness_shaped (enc := enc) (C := Tryd.checked) (os := os) (X := fun w _ => laidMetH Tryd.prog Rows.fnStringsRow.laid w) false (World.doorLaid Tryd.prog 72 os) #[.slice none 0 0] 8 rfl (World.shaped_of_RefB (by kernel_rfl) (by kernel_rfl)) (by kernel_rfl) (by kernel_rfl) (by kernel_rfl) (door_met os _))
    laidOut (of_decide_eq_true (by kernel_rfl)) rfl Tryd.underlying4 rfl ?_
  intro W base args ds p hL hval hA
  rw [Tryd.params3] at hA hval
  obtain ⟨v0, vs0, d0, ds0, p0, q0, hargs, rfl, rfl, h0, r0⟩ := trodAll_cons hA
  obtain ⟨rfl, rfl, rfl⟩ := trodAll_nil r0
  obtain rfl : args = #[v0] := by cases args; simp_all
  obtain ⟨z0, b0⟩ := open_bs (hval 0 22 v0 rfl rfl) h0
  exact ⟨rfl, walk W hL v0 z0 b0⟩

theorem over : Rows.fnStringsRow.holds Tryd.pinned (OpenSpec.ofChange Rows.fnStringsSpec) :=
  OpenClaim.holds_of_wide 3 Tryd.f3 rfl rfl rfl rfl rfl rfl rfl ⟨rfl, rfl, rfl, rfl, rfl⟩ rfl rfl rfl rfl rfl (by kernel_rfl) Tryd.func3 (by kernel_rfl)
    (of_decide_eq_true (by kernel_rfl)) (by unfold Func.isWrapper; first | (rw [if_pos (by decide +kernel)]; kernel_rfl) | (rw [if_neg (by decide +kernel)]; exact ⟨rfl, rfl⟩))
    (fun os started H enc _ => lifted os started H enc)

theorem proved : Rows.FnStringsCardSaid :=
  Claim7.holds_tied_plain_at .later [] [.data, .data, .data, .sentinel, .sentinel] true (true, "1bc418486c525293c149fd31809b774809e3d2f13b776d816489c80c7f0b6c47") true
    over (fun _ h => by cases h) (by kernel_rfl) (fun _ h => by cases h) fnStrings_row_tie rfl ⟨rfl, rfl⟩ (by kernel_rfl) rfl
    (fun f fn hf hfn => by
      obtain rfl : f = 3 := Option.some.inj ((show Tryd.prog.funcNamed Rows.fnStringsRow.func = some 3 by kernel_rfl).symm.trans hf) |>.symm
      obtain rfl : fn = Tryd.f3 := (Option.some.inj (Tryd.func3.symm.trans hfn)).symm
      exact ⟨by kernel_rfl, fun j t ht => by
        rw [Tryd.params3] at ht
        have hm : t ∈ [22] := by simpa using Array.mem_of_getElem? ht
        have hall : ([22].all fun u => !Tryd.prog.wantsStandIn u) = true := by kernel_rfl
        exact (show Tryd.prog.wantsStandIn t = false by simpa using List.all_eq_true.1 hall t hm)⟩)
    (by kernel_rfl)
#print axioms proved
end Go.Proofs.YtabedcpibnnnhaaDoor.lFnStrings
