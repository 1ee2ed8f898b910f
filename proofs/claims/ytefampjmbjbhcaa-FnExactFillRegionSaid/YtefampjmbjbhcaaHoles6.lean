/- The holes of a region, in the reference. Conditions: as each states. -/
import Derived.Test.YtefampjmbjbhcaaHoles5
namespace Go.Proofs.Ytefampjmbjbhcaa
open Go.ChangeShapes Go.WideShapes Go.ChangeAt Go.RowKit Go.Deep
set_option linter.unusedVariables false
set_option linter.unusedSimpArgs false
set_option maxRecDepth 100000

/-- The holes that begin among the first cells. -/
noncomputable def holK (x y : Int) (N : Nat) (rg : List Int) (k : Nat) : List (List Int) := (heads (gapL x N rg) (selN (fun k => !hasB rg k) k)).filter fun p => p.all fun c => !brdB x y c
theorem holK_all {x y : Int} {N : Nat} {rg : List Int} : holK x y N rg N = holL x y N rg := by
  unfold holK holL
  rw [pcs_eq gap_cls (selN_rise _ _)]; rfl
theorem holK_in {x y : Int} {N : Nat} {rg : List Int} {k : Nat} (h : hasB rg k = true) : holK x y N rg (k + 1) = holK x y N rg k := by
  unfold holK
  rw [selN_no (by simp [h])]
theorem holK_out {x y : Int} {N : Nat} {rg : List Int} {k : Nat} (h : hasB rg k = false) : holK x y N rg (k + 1) = if ((gapL x N rg k).head? == some (k : Int)) && !((gapL x N rg k).any (brdB x y)) then holK x y N rg k ++ [gapL x N rg k] else holK x y N rg k := by
  unfold holK heads
  rw [selN_yes (by simp [h]), List.filter_append, List.map_append, List.filter_append]
  have e : ((gapL x N rg k).all fun c => !brdB x y c) = !((gapL x N rg k).any (brdB x y)) := by simp [List.all_eq_not_any_not]
  cases h1 : (gapL x N rg k).head? == some (k : Int) <;> cases h2 : (gapL x N rg k).any (brdB x y) <;> simp [h1, h2, e]
theorem holK_le (x y : Int) (N : Nat) (rg : List Int) (k : Nat) : (holK x y N rg k).length ≤ k := by
  unfold holK heads
  refine Nat.le_trans (List.length_filter_le _ _) ?_
  rw [List.length_map]
  exact Nat.le_trans (List.length_filter_le _ _) (selN_le _ _)
/-- A call hands back rows that are read alone. -/
def RetW (w : World) (xss : List (List Int)) (e : Ending) (w' : World) : Prop :=
  ∃ u vs, e = .returned u ∧ RowsW w' w.heap.size w'.heap.size u vs xss ∧ Below w.heap.size w w'
set_option maxHeartbeats 4000000 in
theorem l6Holes_any (x y : Int) (u : Value) (zs : List Int) (va : Value) (xs : List Int) (w : World) (h : Sl w 1 u zs.length (ints zs)) (ha : Sl w 1 va xs.length (ints xs)) (h1 : 1 ≤ x) (h2 : x ≤ 5) (y1 : 1 ≤ y) (y2 : y ≤ 5) (hm25 : zs.length ≤ 25) :
    Calls Try.prog 76 #[terrV x y u, va] w (RetW w (holL x y zs.length xs)) := by
  obtain ⟨i0, hi, hz0, hz1, hz2⟩ := info_parts info_ints
  have Hh := Lib.hid fun W hW z => l1Has_any va xs z W (ha.below (w' := W) hW)
  have HS : Hid (∀ W, Below w.heap.size w W → ∀ k : Nat, k < zs.length → hasB xs k = false → Calls Try.prog 132 #[terrV x y u, va, .int .i64 k, .bool false] W (RetQ W 3 1 (gapL x zs.length xs k).length (ints (gapL x zs.length xs k)))) := by
    show ∀ W, _
    intro W hW k hk hh
    have := l6Spread_out_any x y u zs va xs k W (h.below hW) (ha.below hW) h1 h2 hm25 (by omega) (by omega)
    rw [gap_spr (outL_iff.2 ⟨by omega, hh⟩)] at this
    exact this
  have HB : Hid (∀ W v (k : Nat), Below w.heap.size w W → Sl W 1 v (gapL x zs.length xs k).length (ints (gapL x zs.length xs k)) → Calls Try.prog 133 #[terrV x y u, v] W fun e w' => e = .returned (.bool ((gapL x zs.length xs k).any (brdB x y))) ∧ Below W.heap.size W w') := fun W v k hW hv => l6Border_any x y u v _ W hv h1 h2 y1 y2 (fun z hz => by have := (mem_rchL.1 hz).1; omega)
  have Hown : Hid (∀ k : Nat, k < zs.length → hasB xs k = false → (k : Int) ∈ gapL x zs.length xs k) := fun k hk hh => gap_cls.own k (outL_iff.2 ⟨by omega, hh⟩)
  have Hin : Hid (∀ k, hasB xs (k : Nat) = true → holK x y zs.length xs (k + 1) = holK x y zs.length xs k) := fun k hk => holK_in hk
  have Hout : Hid (∀ k, hasB xs (k : Nat) = false → holK x y zs.length xs (k + 1) = if ((gapL x zs.length xs k).head? == some (k : Int)) && !((gapL x zs.length xs k).any (brdB x y)) then holK x y zs.length xs k ++ [gapL x zs.length xs k] else holK x y zs.length xs k) := fun k hk => holK_out hk
  have Hle : Hid (∀ k, (holK x y zs.length xs k).length ≤ k) := fun k => holK_le _ _ _ _ k
  have Hall : Hid (holK x y zs.length xs zs.length = holL x y zs.length xs) := holK_all
  have Hgl : Hid (∀ k : Nat, (gapL x zs.length xs k).length ≤ zs.length) := fun k => rchL_le _ _ _
  obtain ⟨A, c, rfl⟩ := h.val
  obtain ⟨Aa, ca, rfl⟩ := ha.val
  have hTB0 : Hid (TB ((w.alloc (.cells #[.int .i64 x, .int .i64 y, .slice A zs.length c] 28)).alloc (.cells #[] 22)) w.heap.size x y (.slice A zs.length c)) := by show TB _ _ _ _ _; unfold TB; simp [go_sem]
  have hR0 : Hid (RowsW ((w.alloc (.cells #[.int .i64 x, .int .i64 y, .slice A zs.length c] 28)).alloc (.cells #[] 22)) (w.heap.size + 1) ((w.alloc (.cells #[.int .i64 x, .int .i64 y, .slice A zs.length c] 28)).alloc (.cells #[] 22)).heap.size (.slice (some ⟨w.heap.size + 1, 0, none⟩) 0 0) [] (holK x y zs.length xs 0)) := by
    show RowsW _ _ _ _ _ _
    exact RowsW.nil (Qw.emptyAt (hp2 _ _ _) (Nat.le_refl _))
  have hb0 : Hid (Below w.heap.size w ((w.alloc (.cells #[.int .i64 x, .int .i64 y, .slice A zs.length c] 28)).alloc (.cells #[] 22))) := two_news _ _ _
  clear h ha
  generalize holL x y zs.length xs = L at *
  generalize holK x y zs.length xs = HK at *
  generalize gapL x zs.length xs = R at *
  generalize zs.length = N at *
  generalize xs.length = M at *
  go_enter Try.func76, Try.ntmps76
  go_wp2
  go_loopw [5, 6] (fun o i wr => ∃ k : Nat, k ≤ N ∧ i = .int .i64 k ∧ w.heap.size + 1 < wr.heap.size ∧ ∃ vs : List Value, Hid (Below w.heap.size w wr) ∧ Hid (TB wr w.heap.size x y (.slice A N c)) ∧ Hid (RowsW wr (w.heap.size + 1) wr.heap.size o vs (HK k))) (fun _ i _ => N - (intOf i).toNat)
  case atStart => exact ⟨0, Nat.zero_le _, rfl, by simp, [], hb0.out, hTB0.out, hR0.out⟩
  case round =>
    obtain ⟨k, hk, rfl, hsz, vs, hb, hT, hR⟩ := hrel
    obtain ⟨t0, t1, t2⟩ := hT.out
    by_cases hlt : k < N
    · have HC := Lib.hid (Hh.out wr hb.out (k : Int))
      have hlt' : (k : Int) < (N : Int) := by omega
      have hvl : vs.length ≤ k := by rw [hR.out.len]; exact Hle.out k
      have HO := Lib.hid (Hout.out k)
      have HI := Lib.hid (Hin.out k)
      have HG := Lib.hid (Hgl.out k)
      cases hh : hasB xs (k : Int) with
      | true =>
        rw [hh] at HC
        have HI2 := Lib.hid (HI.out hh)
        clear HO HI
        go_wp2_with fail
        with_reducible refine HC.out.mono ?_
        rintro e w4 ⟨rfl, hw4⟩
        have hb4 : Below wr.heap.size wr w4 := hw4 ▸ Below.refl _ _
        have hs4 := hb4.size
        have hT4 := Lib.hid (hT.out.below hb4)
        have hR4 := Lib.hid ((hR.out.below hb4).grow hs4 (Nat.le_refl _))
        have hb4 := Lib.hid (grow_trans hb.out hb4)
        go_wp2
        go_roundw
        case rel => exact ⟨k + 1, by omega, by go_num, by omega, vs, hb4.out, hT4.out, by show RowsW _ _ _ _ _ _; rw [HI2.out]; exact hR4.out⟩
        case measure => simp [intOf]; omega
      | false =>
        rw [hh] at HC
        have HO2 := Lib.hid (HO.out hh)
        have hzo := Hown.out k hlt hh
        have HSp := Lib.hid fun W (hW : Below w.heap.size w W) => HS.out W hW k hlt hh
        clear HO HI
        go_wp2_with fail
        with_reducible refine HC.out.mono ?_
        rintro e w4 ⟨rfl, hw4⟩
        have hb4 : Below wr.heap.size wr w4 := hw4 ▸ Below.refl _ _
        have hs4 := hb4.size
        have hT4 := Lib.hid (hT.out.below hb4)
        have hR4 := Lib.hid ((hR.out.below hb4).grow hs4 (Nat.le_refl _))
        have hb4 := Lib.hid (grow_trans hb.out hb4)
        have hsz4 : w.heap.size + 1 < w4.heap.size := by omega
        clear HC hb hT hR t0 t1 t2 hs4 hsz
        obtain ⟨t0, t1, t2⟩ := hT4.out
        have HC := Lib.hid (HSp.out w4 hb4.out)
        go_wp2_with fail
        with_reducible refine HC.out.mono ?_
        rintro e w5 ⟨v4, rfl, o4, hb5⟩
        have hs5 := hb5.size
        have hT5 := Lib.hid (hT4.out.below hb5)
        have hR5 := Lib.hid ((hR4.out.below hb5).grow hs5 (Nat.le_refl _))
        have o4 := o4.lower (show w.heap.size + 1 ≤ w4.heap.size by omega)
        have hb5 := Lib.hid (grow_trans hb4.out hb5)
        have hsz5 : w.heap.size + 1 < w5.heap.size := by omega
        have HBk := Lib.hid fun W v (hW : Below w.heap.size w W) hv => HB.out W v k hW hv
        clear HC hb4 hT4 hR4 t0 t1 t2 hs5 hsz4 HSp
        generalize hacc' : HK (k + 1) = acc' at *
        have Hacc' := Lib.hid hacc'
        generalize HK k = acc at *
        clear hacc'
        generalize R k = pl at *
        generalize hbr : pl.any (brdB x y) = br at *
        clear hbr
        obtain ⟨d, rest, rfl⟩ : ∃ d rest, pl = d :: rest := by
          cases pl with
          | nil => cases hzo
          | cons d rest => exact ⟨d, rest, rfl⟩
        clear hzo
        obtain ⟨A4, c4, rfl⟩ := (Sl.of_q o4).val
        obtain ⟨b4, off4, d', hA4, hd', hcell4⟩ := (Sl.of_q o4).at1 (xs := d :: rest) rfl (Nat.succ_pos _)
        subst hA4
        obtain rfl : d' = d := by simpa using hd'.symm
        clear hd'
        rw [Nat.add_zero] at hcell4
        have HBc := Lib.hid (HBk.out w5 _ hb5.out (Sl.of_q o4))
        clear HBk
        generalize hPL : (d' :: rest).length = PL at *
        have HPL := Lib.hid hPL
        have hPL1 : (0 : Int) < (PL : Int) := by rw [← hPL]; simp
        have o4 := Lib.hid o4
        clear hPL
        obtain ⟨t0, t1, t2⟩ := hT5.out
        by_cases hdz : d' = k
        · have e1 : (d' == (k : Int)) = true := by simpa using hdz
          cases br with
          | false =>
            have He : Hid (acc' = acc ++ [d' :: rest]) := by show _ = _; have := HO2.out; simpa [hdz] using this
            clear hdz HO2
            go_wp2_with fail
            with_reducible refine HBc.out.mono ?_
            rintro e w6 ⟨rfl, hb6⟩
            have hs6 := hb6.size
            have hT6 := Lib.hid (hT5.out.below hb6)
            have hR6 := Lib.hid ((hR5.out.below hb6).grow hs6 (Nat.le_refl _))
            have o6 := Lib.hid (o4.out.below hb6)
            have hb6 := Lib.hid (grow_trans hb5.out hb6)
            have hsz6 : w.heap.size + 1 < w6.heap.size := by omega
            clear hb5 hT5 hR5 o4 hcell4 HBc t0 t1 t2 hsz5 hs6
            go_wp2_with ((at_builtin; refine wpList_append_q _ rfl _ _ 49 rfl (w.heap.size + 1) 22 i0 (.slice none 0 0) 1 24 Try.underlying49 hi hz0 hz1 hz2 rfl (by decide) _ _ _ rfl (Qw.below hR6.out.outer (grow_alloc _ _)) _ 1 [.slice (some ⟨b4, off4, none⟩) PL c4] rfl (Sl.boxAt (hp0 _ _)) (by intro u hu; simp at hu; subst hu; rfl) (by unfold maxLen; omega) (by omega) (by simp; omega) ?_))
            intro vA wA hqA hgA hdA
            have hgs := hgA.size
            have hgs2 : w6.heap.size < wA.heap.size := by simp at hgs; omega
            have hR7 := Lib.hid (RowsW.add (l := d' :: rest) (T' := wA.heap.size) (hR6.out.below (grow_alloc _ _)) ((by rw [HPL.out]; exact o6.out : Qw w6 (w.heap.size + 1) 3 1 (.slice (some ⟨b4, off4, none⟩) PL c4) (d' :: rest).length (ints (d' :: rest))).below (grow_alloc _ _)) (fun j hj => by have := (o6.out.lt j hj).2; omega) hqA hgA (by omega) (Nat.le_refl _))
            have hb7 := Lib.hid ((hb6.out.alloc hb6.out.size _).grown hgA (by simp; omega) (fun j hj => by have := (hR6.out.outer.lt j hj).1; omega))
            have hT7 := Lib.hid ((hT6.out.below (grow_alloc _ _)).kept hgA (fun e => by have := (hR6.out.outer.lt _ e.symm).1; omega))
            clear hgA hdA hqA hgs
            go_wp2
            go_roundw
            case rel => exact ⟨k + 1, by omega, by go_num, by omega, _, hb7.out, hT7.out, by show RowsW _ _ _ _ _ _; rw [Hacc'.out, He.out]; exact hR7.out⟩
            case measure => simp [intOf]; omega
          | true =>
            have He : Hid (acc' = acc) := by show _ = _; have := HO2.out; simpa using this
            clear hdz HO2
            go_wp2_with fail
            with_reducible refine HBc.out.mono ?_
            rintro e w6 ⟨rfl, hb6⟩
            have hs6 := hb6.size
            have hT6 := Lib.hid (hT5.out.below hb6)
            have hR6 := Lib.hid ((hR5.out.below hb6).grow hs6 (Nat.le_refl _))
            have hb6 := Lib.hid (grow_trans hb5.out hb6)
            have hsz6 : w.heap.size + 1 < w6.heap.size := by omega
            clear hb5 hT5 hR5 o4 hcell4 HBc t0 t1 t2 hsz5 hs6
            go_wp2
            go_roundw
            case rel => exact ⟨k + 1, by omega, by go_num, by omega, vs, hb6.out, hT6.out, by show RowsW _ _ _ _ _ _; rw [Hacc'.out, He.out]; exact hR6.out⟩
            case measure => simp [intOf]; omega
        · have e1 : (d' == (k : Int)) = false := by simpa using hdz
          have He : Hid (acc' = acc) := by show _ = _; have := HO2.out; simpa [hdz] using this
          clear hdz HO2 HBc
          go_wp2
          go_roundw
          case rel => exact ⟨k + 1, by omega, by go_num, by omega, vs, hb5.out, hT5.out, by show RowsW _ _ _ _ _ _; rw [Hacc'.out, He.out]; exact hR5.out⟩
          case measure => simp [intOf]; omega
    · obtain rfl : k = N := by omega
      have hA := Hall.out
      rw [hA] at hR
      clear hA
      go_wp2
      go_ret
      exact ⟨_, vs, rfl, hR.out.grow (Nat.le_refl _) (Nat.le_succ _), hb.out⟩
end Go.Proofs.Ytefampjmbjbhcaa
