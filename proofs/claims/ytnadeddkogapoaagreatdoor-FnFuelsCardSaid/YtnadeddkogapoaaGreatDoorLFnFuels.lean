/- FnFuels returns true for all codes: fuels are recovered from their texts, an added fuel is there, fuels that burn have some speed, and the program answers as the reference. Conditions: none beyond the row's. -/
import Derived.Test.YtnadeddkogapoaaGreatDoorDrL2
import Derived.Test.YtnadeddkogapoaaGreatDoorRLst
import Derived.Test.YtnadeddkogapoaaGreatDoorAddF
import Derived.Test.YtnadeddkogapoaaGreatDoorFast3
import Derived.Test.YtnadeddkogapoaaGreatDoorFuel2
namespace Go.Proofs.YtnadeddkogapoaaGreatDoor.lFnFuels
open Go.ChangeShapes Go.WideShapes Go.ChangeAt Go.RowKit Go.Proofs.YtnadeddkogapoaaGreatDoor
set_option linter.unusedVariables false
set_option linter.unusedSimpArgs false
set_option maxRecDepth 100000

theorem syn_of6 {W : World} {a b c d f : String × DataW Unit} {rest : List (String × DataW Unit)} (h : laidMet Tryz.prog (a :: b :: c :: d :: f :: ("strconv.ErrSyntax", Rows.laid_strconv_ErrSyntax) :: rest) W) : SynIs W := by
  obtain ⟨a, s, h1, _⟩ := Go.laid_sentinel (laidMet.tail (laidMet.tail (laidMet.tail (laidMet.tail (laidMet.tail h))))) gSyn tSyn Tryz.underlying84 synRow Tryz.underlying160 Tryz.underlying162 rfl rfl Tryz.underlying9 synC1 synC2
  exact ⟨_, _, h1⟩
theorem rBig_any (v : Value) (N : Nat) (cs : List Value) (w : World) (h : Sl w 1 v N cs) : Calls Tryz.prog 4 #[v] w fun e w' => e = .returned (.bool (decide ((65536 : Int) < (N : Int)))) ∧ w = w' := by
  have := h.len
  obtain ⟨A, c, rfl⟩ := h.val
  unfold maxLen at this
  clear h
  go_enter Tryz.func4, Tryz.ntmps4
  go_wp2
  go_ret
  exact ⟨rfl, rfl⟩
theorem short_max {ps : List Fu} (h : ∀ p ∈ ps, p.n.size ≤ 20) : ∀ p ∈ ps, p.n.size ≤ maxLen := fun p hp => by have := h p hp; unfold maxLen; omega
theorem sl_len {w : World} {k n N c : Nat} {A : Option Addr} {cs : List Value} (h : Sl w k (.slice A n c) N cs) : n = N := by
  obtain ⟨_, _, e⟩ := h.val
  injection e
/-- What an added fuel's list tells. -/
theorem ad_told {ps : List Fu} {x : Fu} (h : adB ps x = true) : (adR ps x).length = ps.length + 1 ∧ areB (adR ps x) = true := by
  have e := adR_yes h
  rw [e]
  refine ⟨adL_length _ _, ?_⟩
  unfold adB at h
  simp only [Bool.and_eq_true] at h
  exact h.2
theorem burn_told {qs : List Fu} {m : Int} {k : Nat} {i r l o : Int} {n : ByteArray} (hx : qs[k]? = some ⟨i, n, r, l, o⟩) (hb : bfB qs m = true) :
    okR (fuelB i n.data.toList r l o && inB m 0 400 && inB 0 (-45) 45) (speedN r l m 0) = .tuple #[.int .i64 (speedN r l m 0), .bool true] ∧ hasT ((bfL qs m).map bs) n = decide (0 < speedN r l m 0) := by
  obtain ⟨h1, h2⟩ := burn_law hb hx
  exact ⟨h1, by rw [hasT_names]; exact h2⟩
set_option maxHeartbeats 16000000 in
theorem walk (W : World) (hL : laidMetH Tryz.prog Rows.fnFuelsRow.laid W) (hsh : W.ShapedOpen Tryz.prog) (v0 : Value) (z0 : List Int) (k0 : Sl W 1 v0 z0.length (octs z0) ∧ ∀ z ∈ z0, 0 ≤ z ∧ z ≤ 255) :
    Calls Tryz.prog 3 #[v0] W fun e w' => e = .returned (.bool true) ∧ Below W.heap.size W w' := by
  rw [MakeChecks.laidMetH_plain _ _ _ (by kernel_rfl)] at hL
  have hlen := len_of hsh
  have ht := pow_of hL
  have hy := syn_of6 hL
  have HI := Lib.hid fun s W' (hW : Below W.heap.size W W') (h : s.size ≤ 1048576) => ParseFuel_any s W' h (hlen.below hW) (tab_below gPow ht hW) (syn_below hy hW)
  have HX := Lib.hid fun i n r l o W' (hW : Below W.heap.size W W') (hn : n.size ≤ maxLen) => FuelText_any i n r l o W' hn (tab_below gPow ht hW)
  clear hL hlen hsh ht hy
  have HB := Lib.hid (rBig_any v0 _ _ W k0.1)
  by_cases hbig : (65536 : Int) < (z0.length : Int)
  case pos =>
    rw [decide_eq_true hbig] at HB
    clear HI HX
    go_enter Tryz.func3, Tryz.ntmps3
    go_wp2_with fail
    with_reducible refine HB.out.mono ?_
    rintro e w1 ⟨rfl, rfl⟩
    go_wp2
    go_ret
    exact ⟨rfl, Below.refl _ _⟩
  rw [decide_eq_false hbig] at HB
  have D1 := Lib.hid fun w' (hW : Below W.heap.size W w') => DrawFuelText_any v0 z0 w' (k0.1.below hW) k0.2
  have D2 := Lib.hid fun w' (hW : Below W.heap.size W w') => DrawParseFuel_any v0 z0 w' (k0.1.below hW) k0.2
  have D3 := Lib.hid fun w' (hW : Below W.heap.size W w') => DrawAddFuel_any v0 z0 w' (k0.1.below hW) k0.2
  have D4 := Lib.hid fun w' (hW : Below W.heap.size W w') => DrawBurningFuels_any v0 z0 w' (k0.1.below hW) k0.2
  have D5 := Lib.hid fun w' (hW : Below W.heap.size W w') => DrawFastestFuel_any v0 z0 w' (k0.1.below hW) k0.2
  have hb : Hid (Below W.heap.size W W) := Below.refl _ _
  clear k0 hbig
  go_enter Tryz.func3, Tryz.ntmps3
  go_wp2_with fail
  with_reducible refine HB.out.mono ?_
  rintro e w1 ⟨rfl, rfl⟩
  clear HB
  go_wp2_with fail
  refine (D1.out _ hb.out).mono ?_
  rintro e w2 ⟨i, n, r, l, o, rfl, hFS, hb'⟩
  replace hb := Lib.hid (grow_trans hb.out hb')
  clear hb'
  clear D1
  have hn20 : n.size ≤ maxLen := by have := hFS.2.1; unfold maxLen; omega
  have hn := grow_alloc w2 (.cells #[.int .i64 i, .string n, .int .i64 r, .int .i64 l, .int .i64 o] 25)
  replace hb := Lib.hid (grow_trans hb.out hn)
  have x : Hid (Bx (w2.alloc (.cells #[.int .i64 i, .string n, .int .i64 r, .int .i64 l, .int .i64 o] 25)) 25 w2.heap.size (fuC i n r l o)) := Bx.new w2 (fuC i n r l o) _
  clear hn
  cases hw : fuelB i n.data.toList r l o with
  | false =>
    have E1 := fun W hW => HX.out i n r l o W hW hn20
    have E2 := fun W => sFuelText_any i n r l o W hn20
    have E3 := fun W => IsFuel_any i n r l o W hn20
    obtain ⟨i1, n1, r1, l1, o1, b1, hv1⟩ := pfV_shape (⟨#[]⟩ : ByteArray) (splitS ⟨#[]⟩ 32)
    have E4 := fun W hW => HI.out (⟨#[]⟩ : ByteArray) W hW (by decide)
    rw [hw, show ∀ q, strV false q = .tuple #[.string ⟨#[]⟩, .bool false] from fun _ => rfl] at E1 E2
    rw [hw] at E3
    rw [hv1] at E4
    clear hv1
    replace E1 := Lib.hid E1
    replace E2 := Lib.hid E2
    replace E3 := Lib.hid E3
    replace E4 := Lib.hid E4
    clear hw HX hFS hn20
    obtain ⟨⟨x0, x1, x2, x3, x4⟩, _⟩ := fu_cells x.out
    go_wp2_with fail
    refine (E1.out _ hb.out).mono ?_
    rintro e w3 ⟨rfl, hb'⟩
    replace x := Lib.hid (x.out.below hb')
    replace hb := Lib.hid (grow_trans hb.out hb')
    clear hb'
    clear x0 x1 x2 x3 x4
    obtain ⟨⟨x0, x1, x2, x3, x4⟩, _⟩ := fu_cells x.out
    go_wp2_with fail
    refine (E2.out _).mono ?_
    rintro e w4 ⟨rfl, hb'⟩
    replace x := Lib.hid (x.out.below hb')
    replace hb := Lib.hid (grow_trans hb.out hb')
    clear hb'
    clear x0 x1 x2 x3 x4
    obtain ⟨⟨x0, x1, x2, x3, x4⟩, _⟩ := fu_cells x.out
    go_wp2_with fail
    refine (E3.out _).mono ?_
    rintro e w5 ⟨rfl, hb'⟩
    replace x := Lib.hid (x.out.below hb')
    replace hb := Lib.hid (grow_trans hb.out hb')
    clear hb'
    clear x0 x1 x2 x3 x4
    go_wp2_with fail
    refine (E4.out _ hb.out).mono ?_
    rintro e w6 ⟨rfl, hb'⟩
    replace x := Lib.hid (x.out.below hb')
    replace hb := Lib.hid (grow_trans hb.out hb')
    clear hb'
    have hn := grow_alloc w6 (.cells #[.int .i64 i1, .string n1, .int .i64 r1, .int .i64 l1, .int .i64 o1] 25)
    replace x := Lib.hid (x.out.below hn)
    replace hb := Lib.hid (grow_trans hb.out hn)
    have z : Hid (Bx (w6.alloc (.cells #[.int .i64 i1, .string n1, .int .i64 r1, .int .i64 l1, .int .i64 o1] 25)) 25 w6.heap.size (fuC i1 n1 r1 l1 o1)) := Bx.new w6 (fuC i1 n1 r1 l1 o1) _
    clear hn
    clear E1 E2 E3 E4
    obtain ⟨⟨x0, x1, x2, x3, x4⟩, _⟩ := fu_cells x.out
    obtain ⟨⟨z0, z1, z2, z3, z4⟩, _⟩ := fu_cells z.out
    go_wp2_with fail
    clear x0 x1 x2 x3 x4 z0 z1 z2 z3 z4
    clear x z
    refine (D2.out _ hb.out).mono ?_
    rintro e w7 ⟨t, rfl, hts, hb'⟩
    replace hb := Lib.hid (grow_trans hb.out hb')
    clear hb'
    clear D2
    obtain ⟨i2, n2, r2, l2, o2, b2, hv2⟩ := pfV_shape t (splitS t 32)
    have Q1 := fun W hW => HI.out t W hW (by omega)
    have Q2 := fun W => sParseFuel_any t W (by omega)
    rw [hv2] at Q1 Q2
    replace Q1 := Lib.hid Q1
    replace Q2 := Lib.hid Q2
    clear hv2 HI hts
    go_wp2_with fail
    refine (Q1.out _ hb.out).mono ?_
    rintro e w8 ⟨rfl, hb'⟩
    replace hb := Lib.hid (grow_trans hb.out hb')
    clear hb'
    have hn := grow_alloc w8 (.cells #[.int .i64 i2, .string n2, .int .i64 r2, .int .i64 l2, .int .i64 o2] 25)
    replace hb := Lib.hid (grow_trans hb.out hn)
    have u : Hid (Bx (w8.alloc (.cells #[.int .i64 i2, .string n2, .int .i64 r2, .int .i64 l2, .int .i64 o2] 25)) 25 w8.heap.size (fuC i2 n2 r2 l2 o2)) := Bx.new w8 (fuC i2 n2 r2 l2 o2) _
    clear hn
    go_wp2_with fail
    refine (Q2.out _).mono ?_
    rintro e w9 ⟨rfl, hb'⟩
    replace u := Lib.hid (u.out.below hb')
    replace hb := Lib.hid (grow_trans hb.out hb')
    clear hb'
    have hn := grow_alloc w9 (.cells #[.int .i64 i2, .string n2, .int .i64 r2, .int .i64 l2, .int .i64 o2] 25)
    replace u := Lib.hid (u.out.below hn)
    replace hb := Lib.hid (grow_trans hb.out hn)
    have v : Hid (Bx (w9.alloc (.cells #[.int .i64 i2, .string n2, .int .i64 r2, .int .i64 l2, .int .i64 o2] 25)) 25 w9.heap.size (fuC i2 n2 r2 l2 o2)) := Bx.new w9 (fuC i2 n2 r2 l2 o2) _
    clear hn
    obtain ⟨⟨u0, u1, u2, u3, u4⟩, _⟩ := fu_cells u.out
    obtain ⟨⟨v0, v1, v2, v3, v4⟩, _⟩ := fu_cells v.out
    clear Q1 Q2
    go_wp2_with fail
    clear u0 u1 u2 u3 u4 v0 v1 v2 v3 v4
    clear u v
    refine (D3.out _ hb.out).mono ?_
    rintro e w10 ⟨u, ps, fi, fn, fr, fl, fo, rfl, hs, hl, hps, hFS, hb'⟩
    replace hb := Lib.hid (grow_trans hb.out hb')
    clear hb'
    clear D3
    obtain ⟨AA, ca, rfl⟩ := hs.val
    have A1 := fun W' (hW : Below w10.heap.size w10 W') => AddFuel_any (.slice AA ps.length ca) ps fi fn fr fl fo W' (hs.below hW) (short_max hps) (by have := hFS.2.1; unfold maxLen; omega) (by omega)
    have A2 := fun W' (hW : Below w10.heap.size w10 W') => sAddFuel_any (.slice AA ps.length ca) ps fi fn fr fl fo W' (hs.below hW) (short_max hps) (by have := hFS.2.1; unfold maxLen; omega)
    have HT := Lib.hid fun (h : adB ps ⟨fi, fn, fr, fl, fo⟩ = true) => ad_told h
    have HQ := Lib.hid (short_max (adL_short (l := ps) (x := ⟨fi, fn, fr, fl, fo⟩) hps hFS.2.1))
    unfold RetAf at A1
    unfold RetAfQ at A2
    generalize adR ps ⟨fi, fn, fr, fl, fo⟩ = R at *
    generalize adB ps ⟨fi, fn, fr, fl, fo⟩ = B at *
    generalize ps.length = N at *
    replace A1 := Lib.hid A1
    replace A2 := Lib.hid A2
    clear hs hps hFS
    have hbl : Hid (Below w10.heap.size w10 w10) := Below.refl _ _
    replace hbl := Lib.hid (grow_trans hbl.out (grow_alloc w10 (.cells #[.int .i64 fi, .string fn, .int .i64 fr, .int .i64 fl, .int .i64 fo] 25)))
    have hn := grow_alloc w10 (.cells #[.int .i64 fi, .string fn, .int .i64 fr, .int .i64 fl, .int .i64 fo] 25)
    replace hb := Lib.hid (grow_trans hb.out hn)
    have y : Hid (Bx (w10.alloc (.cells #[.int .i64 fi, .string fn, .int .i64 fr, .int .i64 fl, .int .i64 fo] 25)) 25 w10.heap.size (fuC fi fn fr fl fo)) := Bx.new w10 (fuC fi fn fr fl fo) _
    clear hn
    cases B with
    | false =>
      generalize hMM : R.length = M at *
      have HMM := Lib.hid hMM
      clear hMM
      clear HT HQ
      obtain ⟨⟨y0, y1, y2, y3, y4⟩, _⟩ := fu_cells y.out
      go_wp2_with fail
      refine (A1.out _ hbl.out).mono ?_
      rintro e w11 ⟨mv, rfl, om, hb'⟩
      clear y0 y1 y2 y3 y4
      replace y := Lib.hid (y.out.below hb')
      replace hb := Lib.hid (grow_trans hb.out hb')
      replace hbl := Lib.hid (grow_trans hbl.out hb')
      clear hb'
      obtain ⟨AM, cm, rfl⟩ := (Sl.of_own om).val
      have om := Lib.hid (Sl.of_own om)
      obtain ⟨⟨y0, y1, y2, y3, y4⟩, _⟩ := fu_cells y.out
      go_wp2_with fail
      refine (A2.out _ hbl.out).mono ?_
      rintro e w12 ⟨sv, rfl, oq, hb'⟩
      clear y0 y1 y2 y3 y4
      clear y
      replace hb := Lib.hid (grow_trans hb.out hb')
      replace om := Lib.hid (om.out.below hb')
      clear hb' hbl A1 A2
      have RF := Lib.hid (rFuels_any _ _ R _ (by rw [HMM.out]; exact om.out) (by rw [HMM.out]; exact Sl.of_q oq))
      obtain ⟨AQ, cq, rfl⟩ := (Sl.of_q oq).val
      clear oq
      go_wp2_with fail
      refine RF.out.mono ?_
      rintro e w13 ⟨rfl, hb'⟩
      replace hb := Lib.hid (grow_trans hb.out hb')
      replace om := Lib.hid (om.out.below hb')
      clear hb' RF
      clear om HMM
      go_wp2_with fail
      refine (D4.out _ hb.out).mono ?_
      rintro e w14 ⟨A4, n4, c4, qs, m4, rfl, hs4, hl4, hq4, hb'⟩
      replace hb := Lib.hid (grow_trans hb.out hb')
      clear hb'
      clear D4
      obtain rfl := sl_len hs4
      have B1 := fun W' (hW : Below w14.heap.size w14 W') => BurningFuels_any (.slice A4 qs.length c4) qs m4 W' (hs4.below hW) (short_max hq4)
      have B2 := fun W' (hW : Below w14.heap.size w14 W') => sBurningFuels_any (.slice A4 qs.length c4) qs m4 W' (hs4.below hW) (short_max hq4)
      have hbt := fun (k : Nat) (i : Int) (n : ByteArray) (r l o : Int) (hx : qs[k]? = some ⟨i, n, r, l, o⟩) => burn_told (m := m4) hx
      unfold RetNm at B1
      unfold RetNmQ at B2
      simp only [nms_strs] at B1 B2
      have hlm : ((bfL qs m4).map bs).length = (bfL qs m4).length := by simp
      rw [← hlm] at B1 B2
      clear hlm
      generalize (bfL qs m4).map bs = rs at *
      generalize bfB qs m4 = K at *
      generalize hN4 : qs.length = N4 at *
      have HN4 := Lib.hid hN4
      replace B1 := Lib.hid B1
      replace B2 := Lib.hid B2
      replace hbt := Lib.hid hbt
      have hs4 := Lib.hid hs4
      have hq4 := Lib.hid hq4
      clear hN4
      have hbl : Hid (Below w14.heap.size w14 w14) := Below.refl _ _
      go_wp2_with fail
      refine (B1.out _ hbl.out).mono ?_
      rintro e w15 ⟨nv, rfl, on, hb'⟩
      replace hb := Lib.hid (grow_trans hb.out hb')
      replace hbl := Lib.hid (grow_trans hbl.out hb')
      clear hb'
      obtain ⟨AV, cv, rfl⟩ := (Sl.of_own on).val
      have on := Lib.hid (Sl.of_own on)
      go_wp2_with fail
      refine (B2.out _ hbl.out).mono ?_
      rintro e w16 ⟨sv, rfl, oq, hb'⟩
      replace hb := Lib.hid (grow_trans hb.out hb')
      replace hbl := Lib.hid (grow_trans hbl.out hb')
      replace on := Lib.hid (on.out.below hb')
      clear hb'
      have oq := Lib.hid (Sl.of_q oq)
      have RT := Lib.hid (rTexts_any _ _ rs _ on.out oq.out)
      generalize hRN : rs.length = RN at *
      have HRN := Lib.hid hRN
      clear hRN B1 B2
      go_wp2_with fail
      refine RT.out.mono ?_
      rintro e w17 ⟨rfl, hb'⟩
      replace hb := Lib.hid (grow_trans hb.out hb')
      replace hbl := Lib.hid (grow_trans hbl.out hb')
      replace on := Lib.hid (on.out.below hb')
      clear hb' RT oq
      replace hs4 := Lib.hid (hs4.out.below hbl.out)
      clear hbl
      obtain ⟨wl, hwl⟩ : ∃ wl : World, wl = w17 := ⟨_, rfl⟩
      clear hwl
      go_wp2_with fail
      go_loopw [27] (fun iv wr => ∃ k : Nat, iv = .int .i64 (k : Int) ∧ k ≤ N4 ∧ Hid (Below w17.heap.size w17 wr)) (fun iv _ => N4 - (intOf iv).toNat)
      case atStart => exact ⟨0, rfl, Nat.zero_le _, Below.refl _ _⟩
      case round =>
        obtain ⟨k, rfl, hk, hbr⟩ := hrel
        by_cases hlt : k < N4
        case neg =>
          have d0 : decide (k < N4) = false := decide_eq_false hlt
          replace hb := Lib.hid (grow_trans hb.out hbr.out)
          clear hs4 hq4 hbt on hbr hlt hk HN4 HRN
          go_wp2_with fail
          refine (D5.out _ hb.out).mono ?_
          rintro e w18 ⟨A5, n5, c5, qs5, m5, rfl, hs5, hl5, hq5, hb'⟩
          replace hb := Lib.hid (grow_trans hb.out hb')
          clear hb'
          obtain rfl := sl_len hs5
          obtain ⟨p1, p2, p3, hp⟩ := triV_shape (areB qs5 && inB m5 0 400 && decide (0 < qs5.length)) (idF qs5 (bst (spU qs5 m5) qs5.length)) (spU qs5 m5 (bst (spU qs5 m5) qs5.length))
          have F1 := fun W' (hW : Below w18.heap.size w18 W') => FastestFuel_any (.slice A5 qs5.length c5) qs5 m5 W' (hs5.below hW) (short_max hq5)
          have F2 := fun W' (hW : Below w18.heap.size w18 W') => sFastestFuel_any (.slice A5 qs5.length c5) qs5 m5 W' (hs5.below hW) (short_max hq5)
          unfold fastR at F1 F2
          rw [hp] at F1 F2
          generalize qs5.length = N5 at *
          replace F1 := Lib.hid F1
          replace F2 := Lib.hid F2
          clear hp hs5 hl5 hq5 D5
          have hbl : Hid (Below w18.heap.size w18 w18) := Below.refl _ _
          go_wp2_with fail
          refine (F1.out _ hbl.out).mono ?_
          rintro e w19 ⟨rfl, hb'⟩
          replace hb := Lib.hid (grow_trans hb.out hb')
          replace hbl := Lib.hid (grow_trans hbl.out hb')
          clear hb'
          go_wp2_with fail
          refine (F2.out _ hbl.out).mono ?_
          rintro e w20 ⟨rfl, hb'⟩
          replace hb := Lib.hid (grow_trans hb.out hb')
          clear hb' hbl F1 F2
          go_wp2
          go_ret
          exact ⟨by simp, hb.out⟩
        case pos =>
          have d0 : decide (k < N4) = true := decide_eq_true hlt
          cases K with
          | false =>
            replace hb := Lib.hid (grow_trans hb.out hbr.out)
            clear hs4 hq4 hbt on hbr hlt hk HN4 HRN
            go_wp2_with fail
            refine (D5.out _ hb.out).mono ?_
            rintro e w18 ⟨A5, n5, c5, qs5, m5, rfl, hs5, hl5, hq5, hb'⟩
            replace hb := Lib.hid (grow_trans hb.out hb')
            clear hb'
            obtain rfl := sl_len hs5
            obtain ⟨p1, p2, p3, hp⟩ := triV_shape (areB qs5 && inB m5 0 400 && decide (0 < qs5.length)) (idF qs5 (bst (spU qs5 m5) qs5.length)) (spU qs5 m5 (bst (spU qs5 m5) qs5.length))
            have F1 := fun W' (hW : Below w18.heap.size w18 W') => FastestFuel_any (.slice A5 qs5.length c5) qs5 m5 W' (hs5.below hW) (short_max hq5)
            have F2 := fun W' (hW : Below w18.heap.size w18 W') => sFastestFuel_any (.slice A5 qs5.length c5) qs5 m5 W' (hs5.below hW) (short_max hq5)
            unfold fastR at F1 F2
            rw [hp] at F1 F2
            generalize qs5.length = N5 at *
            replace F1 := Lib.hid F1
            replace F2 := Lib.hid F2
            clear hp hs5 hl5 hq5 D5
            have hbl : Hid (Below w18.heap.size w18 w18) := Below.refl _ _
            go_wp2_with fail
            refine (F1.out _ hbl.out).mono ?_
            rintro e w19 ⟨rfl, hb'⟩
            replace hb := Lib.hid (grow_trans hb.out hb')
            replace hbl := Lib.hid (grow_trans hbl.out hb')
            clear hb'
            go_wp2_with fail
            refine (F2.out _ hbl.out).mono ?_
            rintro e w20 ⟨rfl, hb'⟩
            replace hb := Lib.hid (grow_trans hb.out hb')
            clear hb' hbl F1 F2
            go_wp2
            go_ret
            exact ⟨by simp, hb.out⟩
          | true =>
            obtain ⟨fb, off, fi, fn, fr, fl, fo, rfl, hx, c0, c1, c2, c3, c4'⟩ := (hs4.out.below hbr.out).fu HN4.out hlt
            obtain ⟨t1, t2⟩ := hbt.out k fi fn fr fl fo hx rfl
            have hfn : fn.size ≤ maxLen := short_max hq4.out _ (List.mem_of_getElem? hx)
            have SP := SpeedIn_any fi fn fr fl fo m4 0 wr hfn
            rw [t1] at SP
            have RH := fun W' (hW : Below w17.heap.size w17 W') => rHasText_any (.slice AV RN cv) rs fn W' (by rw [HRN.out]; exact on.out.below hW)
            rw [t2] at RH
            generalize speedN fr fl m4 0 = sp at *
            replace SP := Lib.hid SP
            replace RH := Lib.hid RH
            have hlz : (k : Int) < (N4 : Int) := by omega
            clear t1 t2 hx hfn
            go_wp2_with fail
            refine SP.out.mono ?_
            rintro e w20 ⟨rfl, hb'⟩
            replace c1 := cell_below0 c1 hb'
            replace hbr := Lib.hid (grow_trans hbr.out hb')
            have RHx := Lib.hid (RH.out _ hbr.out)
            clear hb' SP RH c0 c2 c3 c4'
            go_wp2_with fail
            refine RHx.out.mono ?_
            rintro e w21 ⟨rfl, rfl⟩
            clear RHx
            go_wp2
            go_roundw
            case rel => exact ⟨k + 1, by go_num, by omega, hbr.out⟩
            case measure => simp [intOf]; omega
    | true =>
      obtain ⟨hM, hA⟩ := HT.out rfl
      have AR := Lib.hid fun W' u (h : Sl W' 5 u R.length (fus R)) => AreFuels_any u R W' h HQ.out
      rw [hA] at AR
      generalize hMM : R.length = M at *
      have HMM := Lib.hid hMM
      have m1 : (N : Int) + 1 = (M : Int) := by omega
      have m2 : IntKind.i64.wrap (M : Int) = (M : Int) := IntWalk.i64_in _ (by omega)
      clear hM hA hMM
      clear HT HQ
      obtain ⟨⟨y0, y1, y2, y3, y4⟩, _⟩ := fu_cells y.out
      go_wp2_with fail
      refine (A1.out _ hbl.out).mono ?_
      rintro e w11 ⟨mv, rfl, om, hb'⟩
      clear y0 y1 y2 y3 y4
      replace y := Lib.hid (y.out.below hb')
      replace hb := Lib.hid (grow_trans hb.out hb')
      replace hbl := Lib.hid (grow_trans hbl.out hb')
      clear hb'
      obtain ⟨AM, cm, rfl⟩ := (Sl.of_own om).val
      have om := Lib.hid (Sl.of_own om)
      obtain ⟨⟨y0, y1, y2, y3, y4⟩, _⟩ := fu_cells y.out
      go_wp2_with fail
      refine (A2.out _ hbl.out).mono ?_
      rintro e w12 ⟨sv, rfl, oq, hb'⟩
      clear y0 y1 y2 y3 y4
      clear y
      replace hb := Lib.hid (grow_trans hb.out hb')
      replace om := Lib.hid (om.out.below hb')
      clear hb' hbl A1 A2
      have RF := Lib.hid (rFuels_any _ _ R _ (by rw [HMM.out]; exact om.out) (by rw [HMM.out]; exact Sl.of_q oq))
      obtain ⟨AQ, cq, rfl⟩ := (Sl.of_q oq).val
      clear oq
      go_wp2_with fail
      refine RF.out.mono ?_
      rintro e w13 ⟨rfl, hb'⟩
      replace hb := Lib.hid (grow_trans hb.out hb')
      replace om := Lib.hid (om.out.below hb')
      clear hb' RF
      have AR := Lib.hid (AR.out _ _ om.out)
      go_wp2_with fail
      refine AR.out.mono ?_
      rintro e w14 ⟨rfl, hb'⟩
      replace hb := Lib.hid (grow_trans hb.out hb')
      clear hb' AR m1 m2
      clear om HMM
      go_wp2_with fail
      refine (D4.out _ hb.out).mono ?_
      rintro e w15 ⟨A4, n4, c4, qs, m4, rfl, hs4, hl4, hq4, hb'⟩
      replace hb := Lib.hid (grow_trans hb.out hb')
      clear hb'
      clear D4
      obtain rfl := sl_len hs4
      have B1 := fun W' (hW : Below w15.heap.size w15 W') => BurningFuels_any (.slice A4 qs.length c4) qs m4 W' (hs4.below hW) (short_max hq4)
      have B2 := fun W' (hW : Below w15.heap.size w15 W') => sBurningFuels_any (.slice A4 qs.length c4) qs m4 W' (hs4.below hW) (short_max hq4)
      have hbt := fun (k : Nat) (i : Int) (n : ByteArray) (r l o : Int) (hx : qs[k]? = some ⟨i, n, r, l, o⟩) => burn_told (m := m4) hx
      unfold RetNm at B1
      unfold RetNmQ at B2
      simp only [nms_strs] at B1 B2
      have hlm : ((bfL qs m4).map bs).length = (bfL qs m4).length := by simp
      rw [← hlm] at B1 B2
      clear hlm
      generalize (bfL qs m4).map bs = rs at *
      generalize bfB qs m4 = K at *
      generalize hN4 : qs.length = N4 at *
      have HN4 := Lib.hid hN4
      replace B1 := Lib.hid B1
      replace B2 := Lib.hid B2
      replace hbt := Lib.hid hbt
      have hs4 := Lib.hid hs4
      have hq4 := Lib.hid hq4
      clear hN4
      have hbl : Hid (Below w15.heap.size w15 w15) := Below.refl _ _
      go_wp2_with fail
      refine (B1.out _ hbl.out).mono ?_
      rintro e w16 ⟨nv, rfl, on, hb'⟩
      replace hb := Lib.hid (grow_trans hb.out hb')
      replace hbl := Lib.hid (grow_trans hbl.out hb')
      clear hb'
      obtain ⟨AV, cv, rfl⟩ := (Sl.of_own on).val
      have on := Lib.hid (Sl.of_own on)
      go_wp2_with fail
      refine (B2.out _ hbl.out).mono ?_
      rintro e w17 ⟨sv, rfl, oq, hb'⟩
      replace hb := Lib.hid (grow_trans hb.out hb')
      replace hbl := Lib.hid (grow_trans hbl.out hb')
      replace on := Lib.hid (on.out.below hb')
      clear hb'
      have oq := Lib.hid (Sl.of_q oq)
      have RT := Lib.hid (rTexts_any _ _ rs _ on.out oq.out)
      generalize hRN : rs.length = RN at *
      have HRN := Lib.hid hRN
      clear hRN B1 B2
      go_wp2_with fail
      refine RT.out.mono ?_
      rintro e w18 ⟨rfl, hb'⟩
      replace hb := Lib.hid (grow_trans hb.out hb')
      replace hbl := Lib.hid (grow_trans hbl.out hb')
      replace on := Lib.hid (on.out.below hb')
      clear hb' RT oq
      replace hs4 := Lib.hid (hs4.out.below hbl.out)
      clear hbl
      obtain ⟨wl, hwl⟩ : ∃ wl : World, wl = w18 := ⟨_, rfl⟩
      clear hwl
      go_wp2_with fail
      go_loopw [27] (fun iv wr => ∃ k : Nat, iv = .int .i64 (k : Int) ∧ k ≤ N4 ∧ Hid (Below w18.heap.size w18 wr)) (fun iv _ => N4 - (intOf iv).toNat)
      case atStart => exact ⟨0, rfl, Nat.zero_le _, Below.refl _ _⟩
      case round =>
        obtain ⟨k, rfl, hk, hbr⟩ := hrel
        by_cases hlt : k < N4
        case neg =>
          have d0 : decide (k < N4) = false := decide_eq_false hlt
          replace hb := Lib.hid (grow_trans hb.out hbr.out)
          clear hs4 hq4 hbt on hbr hlt hk HN4 HRN
          go_wp2_with fail
          refine (D5.out _ hb.out).mono ?_
          rintro e w19 ⟨A5, n5, c5, qs5, m5, rfl, hs5, hl5, hq5, hb'⟩
          replace hb := Lib.hid (grow_trans hb.out hb')
          clear hb'
          obtain rfl := sl_len hs5
          obtain ⟨p1, p2, p3, hp⟩ := triV_shape (areB qs5 && inB m5 0 400 && decide (0 < qs5.length)) (idF qs5 (bst (spU qs5 m5) qs5.length)) (spU qs5 m5 (bst (spU qs5 m5) qs5.length))
          have F1 := fun W' (hW : Below w19.heap.size w19 W') => FastestFuel_any (.slice A5 qs5.length c5) qs5 m5 W' (hs5.below hW) (short_max hq5)
          have F2 := fun W' (hW : Below w19.heap.size w19 W') => sFastestFuel_any (.slice A5 qs5.length c5) qs5 m5 W' (hs5.below hW) (short_max hq5)
          unfold fastR at F1 F2
          rw [hp] at F1 F2
          generalize qs5.length = N5 at *
          replace F1 := Lib.hid F1
          replace F2 := Lib.hid F2
          clear hp hs5 hl5 hq5 D5
          have hbl : Hid (Below w19.heap.size w19 w19) := Below.refl _ _
          go_wp2_with fail
          refine (F1.out _ hbl.out).mono ?_
          rintro e w20 ⟨rfl, hb'⟩
          replace hb := Lib.hid (grow_trans hb.out hb')
          replace hbl := Lib.hid (grow_trans hbl.out hb')
          clear hb'
          go_wp2_with fail
          refine (F2.out _ hbl.out).mono ?_
          rintro e w21 ⟨rfl, hb'⟩
          replace hb := Lib.hid (grow_trans hb.out hb')
          clear hb' hbl F1 F2
          go_wp2
          go_ret
          exact ⟨by simp, hb.out⟩
        case pos =>
          have d0 : decide (k < N4) = true := decide_eq_true hlt
          cases K with
          | false =>
            replace hb := Lib.hid (grow_trans hb.out hbr.out)
            clear hs4 hq4 hbt on hbr hlt hk HN4 HRN
            go_wp2_with fail
            refine (D5.out _ hb.out).mono ?_
            rintro e w19 ⟨A5, n5, c5, qs5, m5, rfl, hs5, hl5, hq5, hb'⟩
            replace hb := Lib.hid (grow_trans hb.out hb')
            clear hb'
            obtain rfl := sl_len hs5
            obtain ⟨p1, p2, p3, hp⟩ := triV_shape (areB qs5 && inB m5 0 400 && decide (0 < qs5.length)) (idF qs5 (bst (spU qs5 m5) qs5.length)) (spU qs5 m5 (bst (spU qs5 m5) qs5.length))
            have F1 := fun W' (hW : Below w19.heap.size w19 W') => FastestFuel_any (.slice A5 qs5.length c5) qs5 m5 W' (hs5.below hW) (short_max hq5)
            have F2 := fun W' (hW : Below w19.heap.size w19 W') => sFastestFuel_any (.slice A5 qs5.length c5) qs5 m5 W' (hs5.below hW) (short_max hq5)
            unfold fastR at F1 F2
            rw [hp] at F1 F2
            generalize qs5.length = N5 at *
            replace F1 := Lib.hid F1
            replace F2 := Lib.hid F2
            clear hp hs5 hl5 hq5 D5
            have hbl : Hid (Below w19.heap.size w19 w19) := Below.refl _ _
            go_wp2_with fail
            refine (F1.out _ hbl.out).mono ?_
            rintro e w20 ⟨rfl, hb'⟩
            replace hb := Lib.hid (grow_trans hb.out hb')
            replace hbl := Lib.hid (grow_trans hbl.out hb')
            clear hb'
            go_wp2_with fail
            refine (F2.out _ hbl.out).mono ?_
            rintro e w21 ⟨rfl, hb'⟩
            replace hb := Lib.hid (grow_trans hb.out hb')
            clear hb' hbl F1 F2
            go_wp2
            go_ret
            exact ⟨by simp, hb.out⟩
          | true =>
            obtain ⟨fb, off, fi, fn, fr, fl, fo, rfl, hx, c0, c1, c2, c3, c4'⟩ := (hs4.out.below hbr.out).fu HN4.out hlt
            obtain ⟨t1, t2⟩ := hbt.out k fi fn fr fl fo hx rfl
            have hfn : fn.size ≤ maxLen := short_max hq4.out _ (List.mem_of_getElem? hx)
            have SP := SpeedIn_any fi fn fr fl fo m4 0 wr hfn
            rw [t1] at SP
            have RH := fun W' (hW : Below w18.heap.size w18 W') => rHasText_any (.slice AV RN cv) rs fn W' (by rw [HRN.out]; exact on.out.below hW)
            rw [t2] at RH
            generalize speedN fr fl m4 0 = sp at *
            replace SP := Lib.hid SP
            replace RH := Lib.hid RH
            have hlz : (k : Int) < (N4 : Int) := by omega
            clear t1 t2 hx hfn
            go_wp2_with fail
            refine SP.out.mono ?_
            rintro e w20 ⟨rfl, hb'⟩
            replace c1 := cell_below0 c1 hb'
            replace hbr := Lib.hid (grow_trans hbr.out hb')
            have RHx := Lib.hid (RH.out _ hbr.out)
            clear hb' SP RH c0 c2 c3 c4'
            go_wp2_with fail
            refine RHx.out.mono ?_
            rintro e w21 ⟨rfl, rfl⟩
            clear RHx
            go_wp2
            go_roundw
            case rel => exact ⟨k + 1, by go_num, by omega, hbr.out⟩
            case measure => simp [intOf]; omega
  | true =>
    have E1 := fun W hW => HX.out i n r l o W hW hn20
    have E2 := fun W => sFuelText_any i n r l o W hn20
    have E3 := fun W => IsFuel_any i n r l o W hn20
    have hv1 := pf_text hw
    have hsz := fu_small hw
    have E4 := fun W hW => HI.out (fuT i n r l o) W hW (by omega)
    rw [hw, show ∀ q, strV true q = .tuple #[.string q, .bool true] from fun _ => rfl] at E1 E2
    rw [hw] at E3
    rw [hv1] at E4
    clear hv1 hsz
    generalize fuT i n r l o = q at *
    replace E1 := Lib.hid E1
    replace E2 := Lib.hid E2
    replace E3 := Lib.hid E3
    replace E4 := Lib.hid E4
    clear hw HX hFS hn20
    obtain ⟨⟨x0, x1, x2, x3, x4⟩, _⟩ := fu_cells x.out
    go_wp2_with fail
    refine (E1.out _ hb.out).mono ?_
    rintro e w3 ⟨rfl, hb'⟩
    replace x := Lib.hid (x.out.below hb')
    replace hb := Lib.hid (grow_trans hb.out hb')
    clear hb'
    clear x0 x1 x2 x3 x4
    obtain ⟨⟨x0, x1, x2, x3, x4⟩, _⟩ := fu_cells x.out
    go_wp2_with fail
    refine (E2.out _).mono ?_
    rintro e w4 ⟨rfl, hb'⟩
    replace x := Lib.hid (x.out.below hb')
    replace hb := Lib.hid (grow_trans hb.out hb')
    clear hb'
    clear x0 x1 x2 x3 x4
    obtain ⟨⟨x0, x1, x2, x3, x4⟩, _⟩ := fu_cells x.out
    go_wp2_with fail
    refine (E3.out _).mono ?_
    rintro e w5 ⟨rfl, hb'⟩
    replace x := Lib.hid (x.out.below hb')
    replace hb := Lib.hid (grow_trans hb.out hb')
    clear hb'
    clear x0 x1 x2 x3 x4
    go_wp2_with fail
    refine (E4.out _ hb.out).mono ?_
    rintro e w6 ⟨rfl, hb'⟩
    replace x := Lib.hid (x.out.below hb')
    replace hb := Lib.hid (grow_trans hb.out hb')
    clear hb'
    have hn := grow_alloc w6 (.cells #[.int .i64 i, .string n, .int .i64 r, .int .i64 l, .int .i64 o] 25)
    replace x := Lib.hid (x.out.below hn)
    replace hb := Lib.hid (grow_trans hb.out hn)
    have z : Hid (Bx (w6.alloc (.cells #[.int .i64 i, .string n, .int .i64 r, .int .i64 l, .int .i64 o] 25)) 25 w6.heap.size (fuC i n r l o)) := Bx.new w6 (fuC i n r l o) _
    clear hn
    clear E1 E2 E3 E4
    obtain ⟨⟨x0, x1, x2, x3, x4⟩, _⟩ := fu_cells x.out
    obtain ⟨⟨z0, z1, z2, z3, z4⟩, _⟩ := fu_cells z.out
    go_wp2_with fail
    clear x0 x1 x2 x3 x4 z0 z1 z2 z3 z4
    clear x z
    refine (D2.out _ hb.out).mono ?_
    rintro e w7 ⟨t, rfl, hts, hb'⟩
    replace hb := Lib.hid (grow_trans hb.out hb')
    clear hb'
    clear D2
    obtain ⟨i2, n2, r2, l2, o2, b2, hv2⟩ := pfV_shape t (splitS t 32)
    have Q1 := fun W hW => HI.out t W hW (by omega)
    have Q2 := fun W => sParseFuel_any t W (by omega)
    rw [hv2] at Q1 Q2
    replace Q1 := Lib.hid Q1
    replace Q2 := Lib.hid Q2
    clear hv2 HI hts
    go_wp2_with fail
    refine (Q1.out _ hb.out).mono ?_
    rintro e w8 ⟨rfl, hb'⟩
    replace hb := Lib.hid (grow_trans hb.out hb')
    clear hb'
    have hn := grow_alloc w8 (.cells #[.int .i64 i2, .string n2, .int .i64 r2, .int .i64 l2, .int .i64 o2] 25)
    replace hb := Lib.hid (grow_trans hb.out hn)
    have u : Hid (Bx (w8.alloc (.cells #[.int .i64 i2, .string n2, .int .i64 r2, .int .i64 l2, .int .i64 o2] 25)) 25 w8.heap.size (fuC i2 n2 r2 l2 o2)) := Bx.new w8 (fuC i2 n2 r2 l2 o2) _
    clear hn
    go_wp2_with fail
    refine (Q2.out _).mono ?_
    rintro e w9 ⟨rfl, hb'⟩
    replace u := Lib.hid (u.out.below hb')
    replace hb := Lib.hid (grow_trans hb.out hb')
    clear hb'
    have hn := grow_alloc w9 (.cells #[.int .i64 i2, .string n2, .int .i64 r2, .int .i64 l2, .int .i64 o2] 25)
    replace u := Lib.hid (u.out.below hn)
    replace hb := Lib.hid (grow_trans hb.out hn)
    have v : Hid (Bx (w9.alloc (.cells #[.int .i64 i2, .string n2, .int .i64 r2, .int .i64 l2, .int .i64 o2] 25)) 25 w9.heap.size (fuC i2 n2 r2 l2 o2)) := Bx.new w9 (fuC i2 n2 r2 l2 o2) _
    clear hn
    obtain ⟨⟨u0, u1, u2, u3, u4⟩, _⟩ := fu_cells u.out
    obtain ⟨⟨v0, v1, v2, v3, v4⟩, _⟩ := fu_cells v.out
    clear Q1 Q2
    go_wp2_with fail
    clear u0 u1 u2 u3 u4 v0 v1 v2 v3 v4
    clear u v
    refine (D3.out _ hb.out).mono ?_
    rintro e w10 ⟨u, ps, fi, fn, fr, fl, fo, rfl, hs, hl, hps, hFS, hb'⟩
    replace hb := Lib.hid (grow_trans hb.out hb')
    clear hb'
    clear D3
    obtain ⟨AA, ca, rfl⟩ := hs.val
    have A1 := fun W' (hW : Below w10.heap.size w10 W') => AddFuel_any (.slice AA ps.length ca) ps fi fn fr fl fo W' (hs.below hW) (short_max hps) (by have := hFS.2.1; unfold maxLen; omega) (by omega)
    have A2 := fun W' (hW : Below w10.heap.size w10 W') => sAddFuel_any (.slice AA ps.length ca) ps fi fn fr fl fo W' (hs.below hW) (short_max hps) (by have := hFS.2.1; unfold maxLen; omega)
    have HT := Lib.hid fun (h : adB ps ⟨fi, fn, fr, fl, fo⟩ = true) => ad_told h
    have HQ := Lib.hid (short_max (adL_short (l := ps) (x := ⟨fi, fn, fr, fl, fo⟩) hps hFS.2.1))
    unfold RetAf at A1
    unfold RetAfQ at A2
    generalize adR ps ⟨fi, fn, fr, fl, fo⟩ = R at *
    generalize adB ps ⟨fi, fn, fr, fl, fo⟩ = B at *
    generalize ps.length = N at *
    replace A1 := Lib.hid A1
    replace A2 := Lib.hid A2
    clear hs hps hFS
    have hbl : Hid (Below w10.heap.size w10 w10) := Below.refl _ _
    replace hbl := Lib.hid (grow_trans hbl.out (grow_alloc w10 (.cells #[.int .i64 fi, .string fn, .int .i64 fr, .int .i64 fl, .int .i64 fo] 25)))
    have hn := grow_alloc w10 (.cells #[.int .i64 fi, .string fn, .int .i64 fr, .int .i64 fl, .int .i64 fo] 25)
    replace hb := Lib.hid (grow_trans hb.out hn)
    have y : Hid (Bx (w10.alloc (.cells #[.int .i64 fi, .string fn, .int .i64 fr, .int .i64 fl, .int .i64 fo] 25)) 25 w10.heap.size (fuC fi fn fr fl fo)) := Bx.new w10 (fuC fi fn fr fl fo) _
    clear hn
    cases B with
    | false =>
      generalize hMM : R.length = M at *
      have HMM := Lib.hid hMM
      clear hMM
      clear HT HQ
      obtain ⟨⟨y0, y1, y2, y3, y4⟩, _⟩ := fu_cells y.out
      go_wp2_with fail
      refine (A1.out _ hbl.out).mono ?_
      rintro e w11 ⟨mv, rfl, om, hb'⟩
      clear y0 y1 y2 y3 y4
      replace y := Lib.hid (y.out.below hb')
      replace hb := Lib.hid (grow_trans hb.out hb')
      replace hbl := Lib.hid (grow_trans hbl.out hb')
      clear hb'
      obtain ⟨AM, cm, rfl⟩ := (Sl.of_own om).val
      have om := Lib.hid (Sl.of_own om)
      obtain ⟨⟨y0, y1, y2, y3, y4⟩, _⟩ := fu_cells y.out
      go_wp2_with fail
      refine (A2.out _ hbl.out).mono ?_
      rintro e w12 ⟨sv, rfl, oq, hb'⟩
      clear y0 y1 y2 y3 y4
      clear y
      replace hb := Lib.hid (grow_trans hb.out hb')
      replace om := Lib.hid (om.out.below hb')
      clear hb' hbl A1 A2
      have RF := Lib.hid (rFuels_any _ _ R _ (by rw [HMM.out]; exact om.out) (by rw [HMM.out]; exact Sl.of_q oq))
      obtain ⟨AQ, cq, rfl⟩ := (Sl.of_q oq).val
      clear oq
      go_wp2_with fail
      refine RF.out.mono ?_
      rintro e w13 ⟨rfl, hb'⟩
      replace hb := Lib.hid (grow_trans hb.out hb')
      replace om := Lib.hid (om.out.below hb')
      clear hb' RF
      clear om HMM
      go_wp2_with fail
      refine (D4.out _ hb.out).mono ?_
      rintro e w14 ⟨A4, n4, c4, qs, m4, rfl, hs4, hl4, hq4, hb'⟩
      replace hb := Lib.hid (grow_trans hb.out hb')
      clear hb'
      clear D4
      obtain rfl := sl_len hs4
      have B1 := fun W' (hW : Below w14.heap.size w14 W') => BurningFuels_any (.slice A4 qs.length c4) qs m4 W' (hs4.below hW) (short_max hq4)
      have B2 := fun W' (hW : Below w14.heap.size w14 W') => sBurningFuels_any (.slice A4 qs.length c4) qs m4 W' (hs4.below hW) (short_max hq4)
      have hbt := fun (k : Nat) (i : Int) (n : ByteArray) (r l o : Int) (hx : qs[k]? = some ⟨i, n, r, l, o⟩) => burn_told (m := m4) hx
      unfold RetNm at B1
      unfold RetNmQ at B2
      simp only [nms_strs] at B1 B2
      have hlm : ((bfL qs m4).map bs).length = (bfL qs m4).length := by simp
      rw [← hlm] at B1 B2
      clear hlm
      generalize (bfL qs m4).map bs = rs at *
      generalize bfB qs m4 = K at *
      generalize hN4 : qs.length = N4 at *
      have HN4 := Lib.hid hN4
      replace B1 := Lib.hid B1
      replace B2 := Lib.hid B2
      replace hbt := Lib.hid hbt
      have hs4 := Lib.hid hs4
      have hq4 := Lib.hid hq4
      clear hN4
      have hbl : Hid (Below w14.heap.size w14 w14) := Below.refl _ _
      go_wp2_with fail
      refine (B1.out _ hbl.out).mono ?_
      rintro e w15 ⟨nv, rfl, on, hb'⟩
      replace hb := Lib.hid (grow_trans hb.out hb')
      replace hbl := Lib.hid (grow_trans hbl.out hb')
      clear hb'
      obtain ⟨AV, cv, rfl⟩ := (Sl.of_own on).val
      have on := Lib.hid (Sl.of_own on)
      go_wp2_with fail
      refine (B2.out _ hbl.out).mono ?_
      rintro e w16 ⟨sv, rfl, oq, hb'⟩
      replace hb := Lib.hid (grow_trans hb.out hb')
      replace hbl := Lib.hid (grow_trans hbl.out hb')
      replace on := Lib.hid (on.out.below hb')
      clear hb'
      have oq := Lib.hid (Sl.of_q oq)
      have RT := Lib.hid (rTexts_any _ _ rs _ on.out oq.out)
      generalize hRN : rs.length = RN at *
      have HRN := Lib.hid hRN
      clear hRN B1 B2
      go_wp2_with fail
      refine RT.out.mono ?_
      rintro e w17 ⟨rfl, hb'⟩
      replace hb := Lib.hid (grow_trans hb.out hb')
      replace hbl := Lib.hid (grow_trans hbl.out hb')
      replace on := Lib.hid (on.out.below hb')
      clear hb' RT oq
      replace hs4 := Lib.hid (hs4.out.below hbl.out)
      clear hbl
      obtain ⟨wl, hwl⟩ : ∃ wl : World, wl = w17 := ⟨_, rfl⟩
      clear hwl
      go_wp2_with fail
      go_loopw [27] (fun iv wr => ∃ k : Nat, iv = .int .i64 (k : Int) ∧ k ≤ N4 ∧ Hid (Below w17.heap.size w17 wr)) (fun iv _ => N4 - (intOf iv).toNat)
      case atStart => exact ⟨0, rfl, Nat.zero_le _, Below.refl _ _⟩
      case round =>
        obtain ⟨k, rfl, hk, hbr⟩ := hrel
        by_cases hlt : k < N4
        case neg =>
          have d0 : decide (k < N4) = false := decide_eq_false hlt
          replace hb := Lib.hid (grow_trans hb.out hbr.out)
          clear hs4 hq4 hbt on hbr hlt hk HN4 HRN
          go_wp2_with fail
          refine (D5.out _ hb.out).mono ?_
          rintro e w18 ⟨A5, n5, c5, qs5, m5, rfl, hs5, hl5, hq5, hb'⟩
          replace hb := Lib.hid (grow_trans hb.out hb')
          clear hb'
          obtain rfl := sl_len hs5
          obtain ⟨p1, p2, p3, hp⟩ := triV_shape (areB qs5 && inB m5 0 400 && decide (0 < qs5.length)) (idF qs5 (bst (spU qs5 m5) qs5.length)) (spU qs5 m5 (bst (spU qs5 m5) qs5.length))
          have F1 := fun W' (hW : Below w18.heap.size w18 W') => FastestFuel_any (.slice A5 qs5.length c5) qs5 m5 W' (hs5.below hW) (short_max hq5)
          have F2 := fun W' (hW : Below w18.heap.size w18 W') => sFastestFuel_any (.slice A5 qs5.length c5) qs5 m5 W' (hs5.below hW) (short_max hq5)
          unfold fastR at F1 F2
          rw [hp] at F1 F2
          generalize qs5.length = N5 at *
          replace F1 := Lib.hid F1
          replace F2 := Lib.hid F2
          clear hp hs5 hl5 hq5 D5
          have hbl : Hid (Below w18.heap.size w18 w18) := Below.refl _ _
          go_wp2_with fail
          refine (F1.out _ hbl.out).mono ?_
          rintro e w19 ⟨rfl, hb'⟩
          replace hb := Lib.hid (grow_trans hb.out hb')
          replace hbl := Lib.hid (grow_trans hbl.out hb')
          clear hb'
          go_wp2_with fail
          refine (F2.out _ hbl.out).mono ?_
          rintro e w20 ⟨rfl, hb'⟩
          replace hb := Lib.hid (grow_trans hb.out hb')
          clear hb' hbl F1 F2
          go_wp2
          go_ret
          exact ⟨by simp, hb.out⟩
        case pos =>
          have d0 : decide (k < N4) = true := decide_eq_true hlt
          cases K with
          | false =>
            replace hb := Lib.hid (grow_trans hb.out hbr.out)
            clear hs4 hq4 hbt on hbr hlt hk HN4 HRN
            go_wp2_with fail
            refine (D5.out _ hb.out).mono ?_
            rintro e w18 ⟨A5, n5, c5, qs5, m5, rfl, hs5, hl5, hq5, hb'⟩
            replace hb := Lib.hid (grow_trans hb.out hb')
            clear hb'
            obtain rfl := sl_len hs5
            obtain ⟨p1, p2, p3, hp⟩ := triV_shape (areB qs5 && inB m5 0 400 && decide (0 < qs5.length)) (idF qs5 (bst (spU qs5 m5) qs5.length)) (spU qs5 m5 (bst (spU qs5 m5) qs5.length))
            have F1 := fun W' (hW : Below w18.heap.size w18 W') => FastestFuel_any (.slice A5 qs5.length c5) qs5 m5 W' (hs5.below hW) (short_max hq5)
            have F2 := fun W' (hW : Below w18.heap.size w18 W') => sFastestFuel_any (.slice A5 qs5.length c5) qs5 m5 W' (hs5.below hW) (short_max hq5)
            unfold fastR at F1 F2
            rw [hp] at F1 F2
            generalize qs5.length = N5 at *
            replace F1 := Lib.hid F1
            replace F2 := Lib.hid F2
            clear hp hs5 hl5 hq5 D5
            have hbl : Hid (Below w18.heap.size w18 w18) := Below.refl _ _
            go_wp2_with fail
            refine (F1.out _ hbl.out).mono ?_
            rintro e w19 ⟨rfl, hb'⟩
            replace hb := Lib.hid (grow_trans hb.out hb')
            replace hbl := Lib.hid (grow_trans hbl.out hb')
            clear hb'
            go_wp2_with fail
            refine (F2.out _ hbl.out).mono ?_
            rintro e w20 ⟨rfl, hb'⟩
            replace hb := Lib.hid (grow_trans hb.out hb')
            clear hb' hbl F1 F2
            go_wp2
            go_ret
            exact ⟨by simp, hb.out⟩
          | true =>
            obtain ⟨fb, off, fi, fn, fr, fl, fo, rfl, hx, c0, c1, c2, c3, c4'⟩ := (hs4.out.below hbr.out).fu HN4.out hlt
            obtain ⟨t1, t2⟩ := hbt.out k fi fn fr fl fo hx rfl
            have hfn : fn.size ≤ maxLen := short_max hq4.out _ (List.mem_of_getElem? hx)
            have SP := SpeedIn_any fi fn fr fl fo m4 0 wr hfn
            rw [t1] at SP
            have RH := fun W' (hW : Below w17.heap.size w17 W') => rHasText_any (.slice AV RN cv) rs fn W' (by rw [HRN.out]; exact on.out.below hW)
            rw [t2] at RH
            generalize speedN fr fl m4 0 = sp at *
            replace SP := Lib.hid SP
            replace RH := Lib.hid RH
            have hlz : (k : Int) < (N4 : Int) := by omega
            clear t1 t2 hx hfn
            go_wp2_with fail
            refine SP.out.mono ?_
            rintro e w20 ⟨rfl, hb'⟩
            replace c1 := cell_below0 c1 hb'
            replace hbr := Lib.hid (grow_trans hbr.out hb')
            have RHx := Lib.hid (RH.out _ hbr.out)
            clear hb' SP RH c0 c2 c3 c4'
            go_wp2_with fail
            refine RHx.out.mono ?_
            rintro e w21 ⟨rfl, rfl⟩
            clear RHx
            go_wp2
            go_roundw
            case rel => exact ⟨k + 1, by go_num, by omega, hbr.out⟩
            case measure => simp [intOf]; omega
    | true =>
      obtain ⟨hM, hA⟩ := HT.out rfl
      have AR := Lib.hid fun W' u (h : Sl W' 5 u R.length (fus R)) => AreFuels_any u R W' h HQ.out
      rw [hA] at AR
      generalize hMM : R.length = M at *
      have HMM := Lib.hid hMM
      have m1 : (N : Int) + 1 = (M : Int) := by omega
      have m2 : IntKind.i64.wrap (M : Int) = (M : Int) := IntWalk.i64_in _ (by omega)
      clear hM hA hMM
      clear HT HQ
      obtain ⟨⟨y0, y1, y2, y3, y4⟩, _⟩ := fu_cells y.out
      go_wp2_with fail
      refine (A1.out _ hbl.out).mono ?_
      rintro e w11 ⟨mv, rfl, om, hb'⟩
      clear y0 y1 y2 y3 y4
      replace y := Lib.hid (y.out.below hb')
      replace hb := Lib.hid (grow_trans hb.out hb')
      replace hbl := Lib.hid (grow_trans hbl.out hb')
      clear hb'
      obtain ⟨AM, cm, rfl⟩ := (Sl.of_own om).val
      have om := Lib.hid (Sl.of_own om)
      obtain ⟨⟨y0, y1, y2, y3, y4⟩, _⟩ := fu_cells y.out
      go_wp2_with fail
      refine (A2.out _ hbl.out).mono ?_
      rintro e w12 ⟨sv, rfl, oq, hb'⟩
      clear y0 y1 y2 y3 y4
      clear y
      replace hb := Lib.hid (grow_trans hb.out hb')
      replace om := Lib.hid (om.out.below hb')
      clear hb' hbl A1 A2
      have RF := Lib.hid (rFuels_any _ _ R _ (by rw [HMM.out]; exact om.out) (by rw [HMM.out]; exact Sl.of_q oq))
      obtain ⟨AQ, cq, rfl⟩ := (Sl.of_q oq).val
      clear oq
      go_wp2_with fail
      refine RF.out.mono ?_
      rintro e w13 ⟨rfl, hb'⟩
      replace hb := Lib.hid (grow_trans hb.out hb')
      replace om := Lib.hid (om.out.below hb')
      clear hb' RF
      have AR := Lib.hid (AR.out _ _ om.out)
      go_wp2_with fail
      refine AR.out.mono ?_
      rintro e w14 ⟨rfl, hb'⟩
      replace hb := Lib.hid (grow_trans hb.out hb')
      clear hb' AR m1 m2
      clear om HMM
      go_wp2_with fail
      refine (D4.out _ hb.out).mono ?_
      rintro e w15 ⟨A4, n4, c4, qs, m4, rfl, hs4, hl4, hq4, hb'⟩
      replace hb := Lib.hid (grow_trans hb.out hb')
      clear hb'
      clear D4
      obtain rfl := sl_len hs4
      have B1 := fun W' (hW : Below w15.heap.size w15 W') => BurningFuels_any (.slice A4 qs.length c4) qs m4 W' (hs4.below hW) (short_max hq4)
      have B2 := fun W' (hW : Below w15.heap.size w15 W') => sBurningFuels_any (.slice A4 qs.length c4) qs m4 W' (hs4.below hW) (short_max hq4)
      have hbt := fun (k : Nat) (i : Int) (n : ByteArray) (r l o : Int) (hx : qs[k]? = some ⟨i, n, r, l, o⟩) => burn_told (m := m4) hx
      unfold RetNm at B1
      unfold RetNmQ at B2
      simp only [nms_strs] at B1 B2
      have hlm : ((bfL qs m4).map bs).length = (bfL qs m4).length := by simp
      rw [← hlm] at B1 B2
      clear hlm
      generalize (bfL qs m4).map bs = rs at *
      generalize bfB qs m4 = K at *
      generalize hN4 : qs.length = N4 at *
      have HN4 := Lib.hid hN4
      replace B1 := Lib.hid B1
      replace B2 := Lib.hid B2
      replace hbt := Lib.hid hbt
      have hs4 := Lib.hid hs4
      have hq4 := Lib.hid hq4
      clear hN4
      have hbl : Hid (Below w15.heap.size w15 w15) := Below.refl _ _
      go_wp2_with fail
      refine (B1.out _ hbl.out).mono ?_
      rintro e w16 ⟨nv, rfl, on, hb'⟩
      replace hb := Lib.hid (grow_trans hb.out hb')
      replace hbl := Lib.hid (grow_trans hbl.out hb')
      clear hb'
      obtain ⟨AV, cv, rfl⟩ := (Sl.of_own on).val
      have on := Lib.hid (Sl.of_own on)
      go_wp2_with fail
      refine (B2.out _ hbl.out).mono ?_
      rintro e w17 ⟨sv, rfl, oq, hb'⟩
      replace hb := Lib.hid (grow_trans hb.out hb')
      replace hbl := Lib.hid (grow_trans hbl.out hb')
      replace on := Lib.hid (on.out.below hb')
      clear hb'
      have oq := Lib.hid (Sl.of_q oq)
      have RT := Lib.hid (rTexts_any _ _ rs _ on.out oq.out)
      generalize hRN : rs.length = RN at *
      have HRN := Lib.hid hRN
      clear hRN B1 B2
      go_wp2_with fail
      refine RT.out.mono ?_
      rintro e w18 ⟨rfl, hb'⟩
      replace hb := Lib.hid (grow_trans hb.out hb')
      replace hbl := Lib.hid (grow_trans hbl.out hb')
      replace on := Lib.hid (on.out.below hb')
      clear hb' RT oq
      replace hs4 := Lib.hid (hs4.out.below hbl.out)
      clear hbl
      obtain ⟨wl, hwl⟩ : ∃ wl : World, wl = w18 := ⟨_, rfl⟩
      clear hwl
      go_wp2_with fail
      go_loopw [27] (fun iv wr => ∃ k : Nat, iv = .int .i64 (k : Int) ∧ k ≤ N4 ∧ Hid (Below w18.heap.size w18 wr)) (fun iv _ => N4 - (intOf iv).toNat)
      case atStart => exact ⟨0, rfl, Nat.zero_le _, Below.refl _ _⟩
      case round =>
        obtain ⟨k, rfl, hk, hbr⟩ := hrel
        by_cases hlt : k < N4
        case neg =>
          have d0 : decide (k < N4) = false := decide_eq_false hlt
          replace hb := Lib.hid (grow_trans hb.out hbr.out)
          clear hs4 hq4 hbt on hbr hlt hk HN4 HRN
          go_wp2_with fail
          refine (D5.out _ hb.out).mono ?_
          rintro e w19 ⟨A5, n5, c5, qs5, m5, rfl, hs5, hl5, hq5, hb'⟩
          replace hb := Lib.hid (grow_trans hb.out hb')
          clear hb'
          obtain rfl := sl_len hs5
          obtain ⟨p1, p2, p3, hp⟩ := triV_shape (areB qs5 && inB m5 0 400 && decide (0 < qs5.length)) (idF qs5 (bst (spU qs5 m5) qs5.length)) (spU qs5 m5 (bst (spU qs5 m5) qs5.length))
          have F1 := fun W' (hW : Below w19.heap.size w19 W') => FastestFuel_any (.slice A5 qs5.length c5) qs5 m5 W' (hs5.below hW) (short_max hq5)
          have F2 := fun W' (hW : Below w19.heap.size w19 W') => sFastestFuel_any (.slice A5 qs5.length c5) qs5 m5 W' (hs5.below hW) (short_max hq5)
          unfold fastR at F1 F2
          rw [hp] at F1 F2
          generalize qs5.length = N5 at *
          replace F1 := Lib.hid F1
          replace F2 := Lib.hid F2
          clear hp hs5 hl5 hq5 D5
          have hbl : Hid (Below w19.heap.size w19 w19) := Below.refl _ _
          go_wp2_with fail
          refine (F1.out _ hbl.out).mono ?_
          rintro e w20 ⟨rfl, hb'⟩
          replace hb := Lib.hid (grow_trans hb.out hb')
          replace hbl := Lib.hid (grow_trans hbl.out hb')
          clear hb'
          go_wp2_with fail
          refine (F2.out _ hbl.out).mono ?_
          rintro e w21 ⟨rfl, hb'⟩
          replace hb := Lib.hid (grow_trans hb.out hb')
          clear hb' hbl F1 F2
          go_wp2
          go_ret
          exact ⟨by simp, hb.out⟩
        case pos =>
          have d0 : decide (k < N4) = true := decide_eq_true hlt
          cases K with
          | false =>
            replace hb := Lib.hid (grow_trans hb.out hbr.out)
            clear hs4 hq4 hbt on hbr hlt hk HN4 HRN
            go_wp2_with fail
            refine (D5.out _ hb.out).mono ?_
            rintro e w19 ⟨A5, n5, c5, qs5, m5, rfl, hs5, hl5, hq5, hb'⟩
            replace hb := Lib.hid (grow_trans hb.out hb')
            clear hb'
            obtain rfl := sl_len hs5
            obtain ⟨p1, p2, p3, hp⟩ := triV_shape (areB qs5 && inB m5 0 400 && decide (0 < qs5.length)) (idF qs5 (bst (spU qs5 m5) qs5.length)) (spU qs5 m5 (bst (spU qs5 m5) qs5.length))
            have F1 := fun W' (hW : Below w19.heap.size w19 W') => FastestFuel_any (.slice A5 qs5.length c5) qs5 m5 W' (hs5.below hW) (short_max hq5)
            have F2 := fun W' (hW : Below w19.heap.size w19 W') => sFastestFuel_any (.slice A5 qs5.length c5) qs5 m5 W' (hs5.below hW) (short_max hq5)
            unfold fastR at F1 F2
            rw [hp] at F1 F2
            generalize qs5.length = N5 at *
            replace F1 := Lib.hid F1
            replace F2 := Lib.hid F2
            clear hp hs5 hl5 hq5 D5
            have hbl : Hid (Below w19.heap.size w19 w19) := Below.refl _ _
            go_wp2_with fail
            refine (F1.out _ hbl.out).mono ?_
            rintro e w20 ⟨rfl, hb'⟩
            replace hb := Lib.hid (grow_trans hb.out hb')
            replace hbl := Lib.hid (grow_trans hbl.out hb')
            clear hb'
            go_wp2_with fail
            refine (F2.out _ hbl.out).mono ?_
            rintro e w21 ⟨rfl, hb'⟩
            replace hb := Lib.hid (grow_trans hb.out hb')
            clear hb' hbl F1 F2
            go_wp2
            go_ret
            exact ⟨by simp, hb.out⟩
          | true =>
            obtain ⟨fb, off, fi, fn, fr, fl, fo, rfl, hx, c0, c1, c2, c3, c4'⟩ := (hs4.out.below hbr.out).fu HN4.out hlt
            obtain ⟨t1, t2⟩ := hbt.out k fi fn fr fl fo hx rfl
            have hfn : fn.size ≤ maxLen := short_max hq4.out _ (List.mem_of_getElem? hx)
            have SP := SpeedIn_any fi fn fr fl fo m4 0 wr hfn
            rw [t1] at SP
            have RH := fun W' (hW : Below w18.heap.size w18 W') => rHasText_any (.slice AV RN cv) rs fn W' (by rw [HRN.out]; exact on.out.below hW)
            rw [t2] at RH
            generalize speedN fr fl m4 0 = sp at *
            replace SP := Lib.hid SP
            replace RH := Lib.hid RH
            have hlz : (k : Int) < (N4 : Int) := by omega
            clear t1 t2 hx hfn
            go_wp2_with fail
            refine SP.out.mono ?_
            rintro e w20 ⟨rfl, hb'⟩
            replace c1 := cell_below0 c1 hb'
            replace hbr := Lib.hid (grow_trans hbr.out hb')
            have RHx := Lib.hid (RH.out _ hbr.out)
            clear hb' SP RH c0 c2 c3 c4'
            go_wp2_with fail
            refine RHx.out.mono ?_
            rintro e w21 ⟨rfl, rfl⟩
            clear RHx
            go_wp2
            go_roundw
            case rel => exact ⟨k + 1, by go_num, by omega, hbr.out⟩
            case measure => simp [intOf]; omega

/-! the frame: the arguments opened, the row closed -/
set_option maxRecDepth 100000 in
theorem lifted (os : Os) (started : os.Started) (H : Type) (enc : TypeId × Value → H) :
    ReturnsInHanded {} Tryz.checked os 3 .any (fun w args => (Rows.fnFuelsSpec.pre enc Tryz.prog Tryz.f3 [] false w args ∧ laidMetH Tryz.prog Rows.fnFuelsRow.laid w) ∧ sizedMet enc Tryz.prog Tryz.f3 (OpenSpec.ofChange Rows.fnFuelsSpec) false w args) (Rows.fnFuelsSpec.post enc Tryz.prog Tryz.f3 false true false false) := by
  refine law_laidS (C := Tryz.checked) Rows.fnFuelsRow.laid own started (by kernel_rfl) Tryz.func3
    (ChangeSpec.witness_shaped (enc := enc) (C := Tryz.checked) (os := os) (X := fun w _ => laidMetH Tryz.prog Rows.fnFuelsRow.laid w) false (World.laidAll Tryz.prog os Rows.fnFuelsRow.laid) #[.slice none 0 0] 8 (World.laidAll_os _ _ _) (World.shaped_of_ZipB (by kernel_rfl) (by kernel_rfl)) (by kernel_rfl) (by kernel_rfl) (by kernel_rfl) (by rw [MakeChecks.laidMetH_plain _ _ _ (by kernel_rfl)]; exact laidMet_laidAll _ (by kernel_rfl) (by kernel_rfl)))
    laidOut (of_decide_eq_true (by kernel_rfl)) rfl Tryz.underlying4 rfl ?_
  intro W base args ds p hL hsh hval hA
  rw [Tryz.params3] at hA hval
  obtain ⟨v0, vs0, d0, ds0, p0, q0, hargs, rfl, rfl, h0, r0⟩ := trodAll_cons hA
  obtain ⟨rfl, rfl, rfl⟩ := trodAll_nil r0
  obtain rfl : args = #[v0] := by cases args; simp_all
  obtain ⟨z0, b0⟩ := open_bs (hval 0 22 v0 rfl rfl) h0
  exact ⟨rfl, walk W hL hsh v0 z0 b0⟩

theorem over : Rows.fnFuelsRow.holds Tryz.pinned (OpenSpec.ofChange Rows.fnFuelsSpec) :=
  OpenClaim.holds_of_wide 3 Tryz.f3 rfl rfl rfl rfl rfl rfl rfl ⟨rfl, rfl, rfl, rfl, rfl⟩ rfl rfl rfl rfl rfl (by kernel_rfl) Tryz.func3 (by kernel_rfl)
    (of_decide_eq_true (by kernel_rfl)) (by unfold Func.isWrapper; first | (rw [if_pos (by decide +kernel)]; kernel_rfl) | (rw [if_neg (by decide +kernel)]; exact ⟨rfl, rfl⟩))
    (fun os started H enc _ => lifted os started H enc)

theorem proved : Rows.FnFuelsCardSaid :=
  Claim7.holds_tied_plain_at .later [] [.data, .data, .data, .data, .sentinel, .sentinel, .pinned] true (true, "eab5be46d383f3d115cd8e97df66debbbd524c80f23e648b36b51af8d58e6d16") true
    over (fun _ h => by cases h) (by kernel_rfl) (fun _ h => by cases h) fnFuels_row_tie rfl ⟨rfl, rfl⟩ (by kernel_rfl) rfl
    (fun f fn hf hfn => by
      obtain rfl : f = 3 := Option.some.inj ((show Tryz.prog.funcNamed Rows.fnFuelsRow.func = some 3 by kernel_rfl).symm.trans hf) |>.symm
      obtain rfl : fn = Tryz.f3 := (Option.some.inj (Tryz.func3.symm.trans hfn)).symm
      exact ⟨by kernel_rfl, fun j t ht => by
        rw [Tryz.params3] at ht
        have hm : t ∈ [22] := by simpa using Array.mem_of_getElem? ht
        have hall : ([22].all fun u => !Tryz.prog.wantsStandIn u) = true := by kernel_rfl
        exact (show Tryz.prog.wantsStandIn t = false by simpa using List.all_eq_true.1 hall t hm)⟩)
    (by kernel_rfl)
#print axioms proved
end Go.Proofs.YtnadeddkogapoaaGreatDoor.lFnFuels
