/- FnBreezes returns true for all codes: winds are recovered from their texts, a turn is mutual, the push backwards is the opposite of that forwards. Conditions: none beyond the row's. -/
import Derived.Test.YtabedcpibnnnhaaDoorDrPB
import Derived.Test.YtabedcpibnnnhaaDoorPush
namespace Go.Proofs.YtabedcpibnnnhaaDoor.lFnBreezes
open Go.ChangeShapes Go.WideShapes Go.ChangeAt Go.RowKit Go.Proofs.YtabedcpibnnnhaaDoor
set_option linter.unusedVariables false
set_option linter.unusedSimpArgs false
set_option maxRecDepth 100000

theorem syn_of6 {W : World} {a b c d f : String × DataW Unit} {rest : List (String × DataW Unit)} (h : laidMet Tryd.prog (a :: b :: c :: d :: f :: ("strconv.ErrSyntax", Rows.laid_strconv_ErrSyntax) :: rest) W) : SynIs W := by
  obtain ⟨a, s, h1, _⟩ := Go.laid_sentinel (laidMet.tail (laidMet.tail (laidMet.tail (laidMet.tail (laidMet.tail h))))) gSyn tSyn Tryd.underlying65 synRow Tryd.underlying127 Tryd.underlying129 rfl rfl Tryd.underlying9 synC1 synC2
  exact ⟨_, _, h1⟩
theorem rBig_any (v : Value) (N : Nat) (cs : List Value) (w : World) (h : Sl w 1 v N cs) : Calls Tryd.prog 23 #[v] w fun e w' => e = .returned (.bool (decide ((65536 : Int) < (N : Int)))) ∧ w = w' := by
  have := h.len
  obtain ⟨A, c, rfl⟩ := h.val
  unfold maxLen at this
  clear h
  go_enter Tryd.func23, Tryd.ntmps23
  go_wp2
  go_ret
  exact ⟨rfl, rfl⟩
theorem push_bd {f s to : Int} (h : 0 ≤ s) (h' : s ≤ 120) : -120 ≤ pushN f s to ∧ pushN f s to ≤ 120 := by
  have h1 := push_le (f := f) (to := to) h h'
  refine ⟨?_, by omega⟩
  unfold pushN
  have h1 := tab_le (turnN ((f + 4) % 8) to)
  have h2 : s * (-100) ≤ s * tabN (turnN ((f + 4) % 8) to) := Int.mul_le_mul_of_nonneg_left h1.1 h
  have h3 := Int.tdiv_le_tdiv (show (0 : Int) < 100 by omega) h2
  have h4 : (s * (-100)).tdiv 100 = -s := by rw [Int.mul_neg, Int.neg_tdiv, Int.mul_tdiv_cancel _ (by omega)]
  omega
set_option maxHeartbeats 16000000 in
theorem walk (W : World) (hL : laidMetH Tryd.prog Rows.fnBreezesRow.laid W) (hsh : W.ShapedOpen Tryd.prog) (v0 : Value) (z0 : List Int) (k0 : Sl W 1 v0 z0.length (octs z0) ∧ ∀ z ∈ z0, 0 ≤ z ∧ z ≤ 255) :
    Calls Tryd.prog 5 #[v0] W fun e w' => e = .returned (.bool true) ∧ Below W.heap.size W w' := by
  rw [MakeChecks.laidMetH_plain _ _ _ (by kernel_rfl)] at hL
  have hlen := len_of hsh
  have ht := pow_of hL
  have hy := syn_of6 hL
  have HI := Lib.hid fun s W' (hW : Below W.heap.size W W') (h : s.size ≤ 1048576) => ParseBreeze_any s W' h (hlen.below hW) (tab_below gPow ht hW) (syn_below hy hW)
  have HX := Lib.hid fun f s W' (hW : Below W.heap.size W W') => BreezeText_any f s W' (tab_below gPow ht hW)
  clear hL hlen hsh ht hy
  have HB := Lib.hid (rBig_any v0 _ _ W k0.1)
  by_cases hbig : (65536 : Int) < (z0.length : Int)
  case pos =>
    rw [decide_eq_true hbig] at HB
    clear HI HX
    go_enter Tryd.func5, Tryd.ntmps5
    go_wp2_with fail
    with_reducible refine HB.out.mono ?_
    rintro e w1 ⟨rfl, rfl⟩
    go_wp2
    go_ret
    exact ⟨rfl, Below.refl _ _⟩
  rw [decide_eq_false hbig] at HB
  have D1 := Lib.hid fun w' (hW : Below W.heap.size W w') => DrawBreezeText_any v0 z0 w' (k0.1.below hW) k0.2
  have D2 := Lib.hid fun w' (hW : Below W.heap.size W w') => DrawParseBreeze_any v0 z0 w' (k0.1.below hW) k0.2
  have D3 := Lib.hid fun w' (hW : Below W.heap.size W w') => DrawTurnBetween_any v0 z0 w' (k0.1.below hW) k0.2
  have D4 := Lib.hid fun w' (hW : Below W.heap.size W w') => DrawPushTowards_any v0 z0 w' (k0.1.below hW) k0.2
  have hb : Hid (Below W.heap.size W W) := Below.refl _ _
  clear k0
  go_enter Tryd.func5, Tryd.ntmps5
  go_wp2_with fail
  with_reducible refine HB.out.mono ?_
  rintro e w1 ⟨rfl, rfl⟩
  clear HB
  go_wp2_with fail
  refine (D1.out _ hb.out).mono ?_
  rintro e w2 ⟨f, s, rfl, hFS, hb'⟩
  replace hb := Lib.hid (grow_trans hb.out hb')
  clear hb'
  clear D1
  have hn := grow_alloc w2 (.cells #[.int .i64 f, .int .i64 s] 41)
  replace hb := Lib.hid (grow_trans hb.out hn)
  have x : Hid (Bx (w2.alloc (.cells #[.int .i64 f, .int .i64 s] 41)) 41 w2.heap.size (bzC f s)) := Bx.new w2 (bzC f s) _
  clear hn
  cases hw : windB f s with
  | false =>
    have E1 := fun W hW => HX.out f s W hW
    have E2 := fun W => sBreezeText_any f s W
    have E3 := fun W => IsBreeze_any f s W
    obtain ⟨f1, s1, c1, hv1⟩ := brV_shape (⟨#[]⟩ : ByteArray)
    have E4 := fun W hW => HI.out (⟨#[]⟩ : ByteArray) W hW (by decide)
    rw [hw, show ∀ q, strV false q = .tuple #[.string ⟨#[]⟩, .bool false] from fun _ => rfl] at E1 E2
    rw [hw] at E3
    rw [hv1] at E4
    replace E1 := Lib.hid E1
    replace E2 := Lib.hid E2
    replace E3 := Lib.hid E3
    replace E4 := Lib.hid E4
    clear hv1 hw HX hFS
    obtain ⟨⟨x0, x1⟩, _⟩ := bz_cells x.out
    go_wp2_with fail
    refine (E1.out _ hb.out).mono ?_
    rintro e w3 ⟨rfl, hb'⟩
    replace x := Lib.hid (x.out.below hb')
    replace hb := Lib.hid (grow_trans hb.out hb')
    clear hb'
    clear x0 x1
    obtain ⟨⟨x0, x1⟩, _⟩ := bz_cells x.out
    go_wp2_with fail
    refine (E2.out _).mono ?_
    rintro e w4 ⟨rfl, hb'⟩
    replace x := Lib.hid (x.out.below hb')
    replace hb := Lib.hid (grow_trans hb.out hb')
    clear hb'
    clear x0 x1
    obtain ⟨⟨x0, x1⟩, _⟩ := bz_cells x.out
    go_wp2_with fail
    refine (E3.out _).mono ?_
    rintro e w5 ⟨rfl, hb'⟩
    replace x := Lib.hid (x.out.below hb')
    replace hb := Lib.hid (grow_trans hb.out hb')
    clear hb'
    clear x0 x1
    go_wp2_with fail
    refine (E4.out _ hb.out).mono ?_
    rintro e w6 ⟨rfl, hb'⟩
    replace x := Lib.hid (x.out.below hb')
    replace hb := Lib.hid (grow_trans hb.out hb')
    clear hb'
    have hn := grow_alloc w6 (.cells #[.int .i64 f1, .int .i64 s1] 41)
    replace x := Lib.hid (x.out.below hn)
    replace hb := Lib.hid (grow_trans hb.out hn)
    have z : Hid (Bx (w6.alloc (.cells #[.int .i64 f1, .int .i64 s1] 41)) 41 w6.heap.size (bzC f1 s1)) := Bx.new w6 (bzC f1 s1) _
    clear hn
    clear E1 E2 E3 E4
    obtain ⟨⟨x0, x1⟩, _⟩ := bz_cells x.out
    obtain ⟨⟨z0, z1⟩, _⟩ := bz_cells z.out
    go_wp2_with fail
    clear x0 x1 z0 z1
    refine (D2.out _ hb.out).mono ?_
    rintro e w7 ⟨t, rfl, hts, hb'⟩
    replace x := Lib.hid (x.out.below hb')
    replace z := Lib.hid (z.out.below hb')
    replace hb := Lib.hid (grow_trans hb.out hb')
    clear hb'
    clear D2
    obtain ⟨f2, s2, c2, hv2⟩ := brV_shape t
    have Q1 := fun W hW => HI.out t W hW (by omega)
    have Q2 := fun W => sParseBreeze_any t W (by omega)
    rw [hv2] at Q1 Q2
    replace Q1 := Lib.hid Q1
    replace Q2 := Lib.hid Q2
    clear hv2 HI hts
    go_wp2_with fail
    refine (Q1.out _ hb.out).mono ?_
    rintro e w8 ⟨rfl, hb'⟩
    replace x := Lib.hid (x.out.below hb')
    replace z := Lib.hid (z.out.below hb')
    replace hb := Lib.hid (grow_trans hb.out hb')
    clear hb'
    have hn := grow_alloc w8 (.cells #[.int .i64 f2, .int .i64 s2] 41)
    replace x := Lib.hid (x.out.below hn)
    replace z := Lib.hid (z.out.below hn)
    replace hb := Lib.hid (grow_trans hb.out hn)
    have u : Hid (Bx (w8.alloc (.cells #[.int .i64 f2, .int .i64 s2] 41)) 41 w8.heap.size (bzC f2 s2)) := Bx.new w8 (bzC f2 s2) _
    clear hn
    go_wp2_with fail
    refine (Q2.out _).mono ?_
    rintro e w9 ⟨rfl, hb'⟩
    replace x := Lib.hid (x.out.below hb')
    replace z := Lib.hid (z.out.below hb')
    replace u := Lib.hid (u.out.below hb')
    replace hb := Lib.hid (grow_trans hb.out hb')
    clear hb'
    have hn := grow_alloc w9 (.cells #[.int .i64 f2, .int .i64 s2] 41)
    replace x := Lib.hid (x.out.below hn)
    replace z := Lib.hid (z.out.below hn)
    replace u := Lib.hid (u.out.below hn)
    replace hb := Lib.hid (grow_trans hb.out hn)
    have v : Hid (Bx (w9.alloc (.cells #[.int .i64 f2, .int .i64 s2] 41)) 41 w9.heap.size (bzC f2 s2)) := Bx.new w9 (bzC f2 s2) _
    clear hn
    obtain ⟨⟨u0, u1⟩, _⟩ := bz_cells u.out
    obtain ⟨⟨v0, v1⟩, _⟩ := bz_cells v.out
    clear Q1 Q2
    go_wp2_with fail
    clear u0 u1 v0 v1
    clear u
    clear v
    refine (D3.out _ hb.out).mono ?_
    rintro e w10 ⟨a, b, rfl, ha, hbb, hb'⟩
    replace x := Lib.hid (x.out.below hb')
    replace z := Lib.hid (z.out.below hb')
    replace hb := Lib.hid (grow_trans hb.out hb')
    clear hb'
    clear D3
    have T3 := turnR_comm a b
    have T1 := fun W => TurnBetween_any a b W
    have T2 := fun W => TurnBetween_any b a W
    have T4 := fun W => sTurnBetween_any a b W
    rw [← T3] at T2
    clear T3
    by_cases ht3 : inB a 0 7 = true ∧ inB b 0 7 = true
    case pos =>
      obtain ⟨hi, hj⟩ := ht3
      obtain ⟨a0, a1⟩ := inB_iff.1 hi
      obtain ⟨b0, b1⟩ := inB_iff.1 hj
      have hz := turn_zero a0 a1 b0 b1
      rw [turnR_yes hi hj] at T1 T2 T4
      generalize turnN a b = tv at *
      replace T1 := Lib.hid T1
      replace T2 := Lib.hid T2
      replace T4 := Lib.hid T4
      clear hi hj
      by_cases hab : a = b
      case pos =>
        subst hab
        obtain rfl : tv = 0 := hz.2 rfl
        clear hz
        go_wp2_with fail
        refine (T1.out _).mono ?_
        rintro e w11 ⟨rfl, rfl⟩
        go_wp2_with fail
        refine (T1.out _).mono ?_
        rintro e w11 ⟨rfl, rfl⟩
        go_wp2_with fail
        refine (T4.out _).mono ?_
        rintro e w11 ⟨rfl, rfl⟩
        clear T1 T2 T4
        go_wp2_with fail
        refine (D4.out _ hb.out).mono ?_
        rintro e w11 ⟨f4, s4, to, rfl, hF4, hto, hb'⟩
        replace x := Lib.hid (x.out.below hb')
        replace z := Lib.hid (z.out.below hb')
        replace hb := Lib.hid (grow_trans hb.out hb')
        clear hb'
        have hn := grow_alloc w11 (.cells #[.int .i64 f4, .int .i64 s4] 41)
        replace x := Lib.hid (x.out.below hn)
        replace z := Lib.hid (z.out.below hn)
        replace hb := Lib.hid (grow_trans hb.out hn)
        have y : Hid (Bx (w11.alloc (.cells #[.int .i64 f4, .int .i64 s4] 41)) 41 w11.heap.size (bzC f4 s4)) := Bx.new w11 (bzC f4 s4) _
        clear hn
        obtain ⟨⟨f40, f41⟩, s40, s41⟩ := hF4
        clear D4
        by_cases hw4 : windB f4 s4 = true ∧ inB to 0 7 = true
        case pos =>
          obtain ⟨hv4, hi4⟩ := hw4
          obtain ⟨t0, t1⟩ := inB_iff.1 hi4
          obtain ⟨⟨g0, g1⟩, ⟨u0, u1⟩, _⟩ := windB_iff.1 hv4
          have h5 : inB ((to + 4) % 8) 0 7 = true := inB_iff.2 (by omega)
          have hbk := push_back (f := f4) (s := s4) g0 g1 t0 t1
          have hpl := push_le (f := f4) (s := s4) (to := to) u0 u1
          have P1 := fun W => PushTowards_any f4 s4 to W
          have P2 := fun W => sPushTowards_any f4 s4 to W
          have P3 := fun W => PushTowards_any f4 s4 ((to + 4) % 8) W
          rw [pushR_yes hv4 hi4] at P1 P2
          rw [pushR_yes hv4 h5, hbk] at P3
          have m1 : (to + 4).tmod 8 = (to + 4) % 8 := Int.tmod_eq_emod_of_nonneg (by omega)
          have m2 : IntKind.i64.wrap (to + 4) = to + 4 := IntWalk.i64_in _ (by omega)
          have m3 : IntKind.i64.wrap ((to + 4) % 8) = (to + 4) % 8 := IntWalk.i64_in _ (by omega)
          have hpd := push_bd (f := f4) (s := s4) (to := to) u0 u1
          have m4 : IntKind.i64.wrap (- pushN f4 s4 to) = - pushN f4 s4 to := IntWalk.i64_in _ (by omega)
          have m5 : IntKind.i64.wrap (0 - pushN f4 s4 to) = - pushN f4 s4 to := by rw [Int.zero_sub]; exact m4
          generalize pushN f4 s4 to = pv at *
          generalize hq8 : (to + 4) % 8 = t8 at *
          replace P1 := Lib.hid P1
          replace P2 := Lib.hid P2
          replace P3 := Lib.hid P3
          clear hbk h5 hv4 hi4 hq8
          obtain ⟨⟨y0, y1⟩, _⟩ := bz_cells y.out
          go_wp2_with fail
          refine (P1.out _).mono ?_
          rintro e w12 ⟨rfl, hb'⟩
          replace x := Lib.hid (x.out.below hb')
          replace z := Lib.hid (z.out.below hb')
          replace y := Lib.hid (y.out.below hb')
          replace hb := Lib.hid (grow_trans hb.out hb')
          clear hb'
          clear y0 y1
          obtain ⟨⟨y0, y1⟩, _⟩ := bz_cells y.out
          go_wp2_with fail
          refine (P2.out _).mono ?_
          rintro e w13 ⟨rfl, hb'⟩
          replace x := Lib.hid (x.out.below hb')
          replace z := Lib.hid (z.out.below hb')
          replace y := Lib.hid (y.out.below hb')
          replace hb := Lib.hid (grow_trans hb.out hb')
          clear hb'
          clear y0 y1
          obtain ⟨⟨y0, y1⟩, _⟩ := bz_cells y.out
          go_wp2_with fail
          refine (P3.out _).mono ?_
          rintro e w14 ⟨rfl, hb'⟩
          replace x := Lib.hid (x.out.below hb')
          replace z := Lib.hid (z.out.below hb')
          replace y := Lib.hid (y.out.below hb')
          replace hb := Lib.hid (grow_trans hb.out hb')
          clear hb'
          clear y0 y1
          obtain ⟨⟨y0, y1⟩, _⟩ := bz_cells y.out
          go_wp2
          go_ret
          exact ⟨by simp <;> omega, hb.out⟩
        case neg =>
          have hno : pushR f4 s4 to = .tuple #[.int .i64 0, .bool false] := by
            cases h1 : windB f4 s4 with
            | false => exact pushR_no1 h1
            | true => cases h2 : inB to 0 7 with
              | false => exact pushR_no2 h2
              | true => exact absurd ⟨h1, h2⟩ hw4
          have P1 := fun W => PushTowards_any f4 s4 to W
          have P2 := fun W => sPushTowards_any f4 s4 to W
          rw [hno] at P1 P2
          replace P1 := Lib.hid P1
          replace P2 := Lib.hid P2
          clear hno hw4
          obtain ⟨⟨y0, y1⟩, _⟩ := bz_cells y.out
          go_wp2_with fail
          refine (P1.out _).mono ?_
          rintro e w12 ⟨rfl, hb'⟩
          replace x := Lib.hid (x.out.below hb')
          replace z := Lib.hid (z.out.below hb')
          replace y := Lib.hid (y.out.below hb')
          replace hb := Lib.hid (grow_trans hb.out hb')
          clear hb'
          clear y0 y1
          obtain ⟨⟨y0, y1⟩, _⟩ := bz_cells y.out
          go_wp2_with fail
          refine (P2.out _).mono ?_
          rintro e w13 ⟨rfl, hb'⟩
          replace x := Lib.hid (x.out.below hb')
          replace z := Lib.hid (z.out.below hb')
          replace y := Lib.hid (y.out.below hb')
          replace hb := Lib.hid (grow_trans hb.out hb')
          clear hb'
          clear y0 y1
          go_wp2
          go_ret
          exact ⟨rfl, hb.out⟩
      case neg =>
        have q1 : (a == b) = false := by simpa using hab
        have q2 : (tv == 0) = false := by simpa using fun e => hab (hz.1 e)
        clear hz hab
        go_wp2_with fail
        refine (T1.out _).mono ?_
        rintro e w11 ⟨rfl, rfl⟩
        go_wp2_with fail
        refine (T2.out _).mono ?_
        rintro e w11 ⟨rfl, rfl⟩
        go_wp2_with fail
        refine (T4.out _).mono ?_
        rintro e w11 ⟨rfl, rfl⟩
        clear T1 T2 T4
        go_wp2_with fail
        refine (D4.out _ hb.out).mono ?_
        rintro e w11 ⟨f4, s4, to, rfl, hF4, hto, hb'⟩
        replace x := Lib.hid (x.out.below hb')
        replace z := Lib.hid (z.out.below hb')
        replace hb := Lib.hid (grow_trans hb.out hb')
        clear hb'
        have hn := grow_alloc w11 (.cells #[.int .i64 f4, .int .i64 s4] 41)
        replace x := Lib.hid (x.out.below hn)
        replace z := Lib.hid (z.out.below hn)
        replace hb := Lib.hid (grow_trans hb.out hn)
        have y : Hid (Bx (w11.alloc (.cells #[.int .i64 f4, .int .i64 s4] 41)) 41 w11.heap.size (bzC f4 s4)) := Bx.new w11 (bzC f4 s4) _
        clear hn
        obtain ⟨⟨f40, f41⟩, s40, s41⟩ := hF4
        clear D4
        by_cases hw4 : windB f4 s4 = true ∧ inB to 0 7 = true
        case pos =>
          obtain ⟨hv4, hi4⟩ := hw4
          obtain ⟨t0, t1⟩ := inB_iff.1 hi4
          obtain ⟨⟨g0, g1⟩, ⟨u0, u1⟩, _⟩ := windB_iff.1 hv4
          have h5 : inB ((to + 4) % 8) 0 7 = true := inB_iff.2 (by omega)
          have hbk := push_back (f := f4) (s := s4) g0 g1 t0 t1
          have hpl := push_le (f := f4) (s := s4) (to := to) u0 u1
          have P1 := fun W => PushTowards_any f4 s4 to W
          have P2 := fun W => sPushTowards_any f4 s4 to W
          have P3 := fun W => PushTowards_any f4 s4 ((to + 4) % 8) W
          rw [pushR_yes hv4 hi4] at P1 P2
          rw [pushR_yes hv4 h5, hbk] at P3
          have m1 : (to + 4).tmod 8 = (to + 4) % 8 := Int.tmod_eq_emod_of_nonneg (by omega)
          have m2 : IntKind.i64.wrap (to + 4) = to + 4 := IntWalk.i64_in _ (by omega)
          have m3 : IntKind.i64.wrap ((to + 4) % 8) = (to + 4) % 8 := IntWalk.i64_in _ (by omega)
          have hpd := push_bd (f := f4) (s := s4) (to := to) u0 u1
          have m4 : IntKind.i64.wrap (- pushN f4 s4 to) = - pushN f4 s4 to := IntWalk.i64_in _ (by omega)
          have m5 : IntKind.i64.wrap (0 - pushN f4 s4 to) = - pushN f4 s4 to := by rw [Int.zero_sub]; exact m4
          generalize pushN f4 s4 to = pv at *
          generalize hq8 : (to + 4) % 8 = t8 at *
          replace P1 := Lib.hid P1
          replace P2 := Lib.hid P2
          replace P3 := Lib.hid P3
          clear hbk h5 hv4 hi4 hq8
          obtain ⟨⟨y0, y1⟩, _⟩ := bz_cells y.out
          go_wp2_with fail
          refine (P1.out _).mono ?_
          rintro e w12 ⟨rfl, hb'⟩
          replace x := Lib.hid (x.out.below hb')
          replace z := Lib.hid (z.out.below hb')
          replace y := Lib.hid (y.out.below hb')
          replace hb := Lib.hid (grow_trans hb.out hb')
          clear hb'
          clear y0 y1
          obtain ⟨⟨y0, y1⟩, _⟩ := bz_cells y.out
          go_wp2_with fail
          refine (P2.out _).mono ?_
          rintro e w13 ⟨rfl, hb'⟩
          replace x := Lib.hid (x.out.below hb')
          replace z := Lib.hid (z.out.below hb')
          replace y := Lib.hid (y.out.below hb')
          replace hb := Lib.hid (grow_trans hb.out hb')
          clear hb'
          clear y0 y1
          obtain ⟨⟨y0, y1⟩, _⟩ := bz_cells y.out
          go_wp2_with fail
          refine (P3.out _).mono ?_
          rintro e w14 ⟨rfl, hb'⟩
          replace x := Lib.hid (x.out.below hb')
          replace z := Lib.hid (z.out.below hb')
          replace y := Lib.hid (y.out.below hb')
          replace hb := Lib.hid (grow_trans hb.out hb')
          clear hb'
          clear y0 y1
          obtain ⟨⟨y0, y1⟩, _⟩ := bz_cells y.out
          go_wp2
          go_ret
          exact ⟨by simp <;> omega, hb.out⟩
        case neg =>
          have hno : pushR f4 s4 to = .tuple #[.int .i64 0, .bool false] := by
            cases h1 : windB f4 s4 with
            | false => exact pushR_no1 h1
            | true => cases h2 : inB to 0 7 with
              | false => exact pushR_no2 h2
              | true => exact absurd ⟨h1, h2⟩ hw4
          have P1 := fun W => PushTowards_any f4 s4 to W
          have P2 := fun W => sPushTowards_any f4 s4 to W
          rw [hno] at P1 P2
          replace P1 := Lib.hid P1
          replace P2 := Lib.hid P2
          clear hno hw4
          obtain ⟨⟨y0, y1⟩, _⟩ := bz_cells y.out
          go_wp2_with fail
          refine (P1.out _).mono ?_
          rintro e w12 ⟨rfl, hb'⟩
          replace x := Lib.hid (x.out.below hb')
          replace z := Lib.hid (z.out.below hb')
          replace y := Lib.hid (y.out.below hb')
          replace hb := Lib.hid (grow_trans hb.out hb')
          clear hb'
          clear y0 y1
          obtain ⟨⟨y0, y1⟩, _⟩ := bz_cells y.out
          go_wp2_with fail
          refine (P2.out _).mono ?_
          rintro e w13 ⟨rfl, hb'⟩
          replace x := Lib.hid (x.out.below hb')
          replace z := Lib.hid (z.out.below hb')
          replace y := Lib.hid (y.out.below hb')
          replace hb := Lib.hid (grow_trans hb.out hb')
          clear hb'
          clear y0 y1
          go_wp2
          go_ret
          exact ⟨rfl, hb.out⟩
    case neg =>
      have hno : turnR a b = .tuple #[.int .i64 0, .bool false] := by
        cases h1 : inB a 0 7 with
        | false => exact turnR_no1 h1
        | true => cases h2 : inB b 0 7 with
          | false => exact turnR_no2 h2
          | true => exact absurd ⟨h1, h2⟩ ht3
      rw [hno] at T1 T2 T4
      replace T1 := Lib.hid T1
      replace T2 := Lib.hid T2
      replace T4 := Lib.hid T4
      clear hno ht3
      go_wp2_with fail
      refine (T1.out _).mono ?_
      rintro e w11 ⟨rfl, rfl⟩
      go_wp2_with fail
      refine (T2.out _).mono ?_
      rintro e w11 ⟨rfl, rfl⟩
      go_wp2_with fail
      refine (T4.out _).mono ?_
      rintro e w11 ⟨rfl, rfl⟩
      clear T1 T2 T4
      go_wp2_with fail
      refine (D4.out _ hb.out).mono ?_
      rintro e w11 ⟨f4, s4, to, rfl, hF4, hto, hb'⟩
      replace x := Lib.hid (x.out.below hb')
      replace z := Lib.hid (z.out.below hb')
      replace hb := Lib.hid (grow_trans hb.out hb')
      clear hb'
      have hn := grow_alloc w11 (.cells #[.int .i64 f4, .int .i64 s4] 41)
      replace x := Lib.hid (x.out.below hn)
      replace z := Lib.hid (z.out.below hn)
      replace hb := Lib.hid (grow_trans hb.out hn)
      have y : Hid (Bx (w11.alloc (.cells #[.int .i64 f4, .int .i64 s4] 41)) 41 w11.heap.size (bzC f4 s4)) := Bx.new w11 (bzC f4 s4) _
      clear hn
      obtain ⟨⟨f40, f41⟩, s40, s41⟩ := hF4
      clear D4
      by_cases hw4 : windB f4 s4 = true ∧ inB to 0 7 = true
      case pos =>
        obtain ⟨hv4, hi4⟩ := hw4
        obtain ⟨t0, t1⟩ := inB_iff.1 hi4
        obtain ⟨⟨g0, g1⟩, ⟨u0, u1⟩, _⟩ := windB_iff.1 hv4
        have h5 : inB ((to + 4) % 8) 0 7 = true := inB_iff.2 (by omega)
        have hbk := push_back (f := f4) (s := s4) g0 g1 t0 t1
        have hpl := push_le (f := f4) (s := s4) (to := to) u0 u1
        have P1 := fun W => PushTowards_any f4 s4 to W
        have P2 := fun W => sPushTowards_any f4 s4 to W
        have P3 := fun W => PushTowards_any f4 s4 ((to + 4) % 8) W
        rw [pushR_yes hv4 hi4] at P1 P2
        rw [pushR_yes hv4 h5, hbk] at P3
        have m1 : (to + 4).tmod 8 = (to + 4) % 8 := Int.tmod_eq_emod_of_nonneg (by omega)
        have m2 : IntKind.i64.wrap (to + 4) = to + 4 := IntWalk.i64_in _ (by omega)
        have m3 : IntKind.i64.wrap ((to + 4) % 8) = (to + 4) % 8 := IntWalk.i64_in _ (by omega)
        have hpd := push_bd (f := f4) (s := s4) (to := to) u0 u1
        have m4 : IntKind.i64.wrap (- pushN f4 s4 to) = - pushN f4 s4 to := IntWalk.i64_in _ (by omega)
        have m5 : IntKind.i64.wrap (0 - pushN f4 s4 to) = - pushN f4 s4 to := by rw [Int.zero_sub]; exact m4
        generalize pushN f4 s4 to = pv at *
        generalize hq8 : (to + 4) % 8 = t8 at *
        replace P1 := Lib.hid P1
        replace P2 := Lib.hid P2
        replace P3 := Lib.hid P3
        clear hbk h5 hv4 hi4 hq8
        obtain ⟨⟨y0, y1⟩, _⟩ := bz_cells y.out
        go_wp2_with fail
        refine (P1.out _).mono ?_
        rintro e w12 ⟨rfl, hb'⟩
        replace x := Lib.hid (x.out.below hb')
        replace z := Lib.hid (z.out.below hb')
        replace y := Lib.hid (y.out.below hb')
        replace hb := Lib.hid (grow_trans hb.out hb')
        clear hb'
        clear y0 y1
        obtain ⟨⟨y0, y1⟩, _⟩ := bz_cells y.out
        go_wp2_with fail
        refine (P2.out _).mono ?_
        rintro e w13 ⟨rfl, hb'⟩
        replace x := Lib.hid (x.out.below hb')
        replace z := Lib.hid (z.out.below hb')
        replace y := Lib.hid (y.out.below hb')
        replace hb := Lib.hid (grow_trans hb.out hb')
        clear hb'
        clear y0 y1
        obtain ⟨⟨y0, y1⟩, _⟩ := bz_cells y.out
        go_wp2_with fail
        refine (P3.out _).mono ?_
        rintro e w14 ⟨rfl, hb'⟩
        replace x := Lib.hid (x.out.below hb')
        replace z := Lib.hid (z.out.below hb')
        replace y := Lib.hid (y.out.below hb')
        replace hb := Lib.hid (grow_trans hb.out hb')
        clear hb'
        clear y0 y1
        obtain ⟨⟨y0, y1⟩, _⟩ := bz_cells y.out
        go_wp2
        go_ret
        exact ⟨by simp <;> omega, hb.out⟩
      case neg =>
        have hno : pushR f4 s4 to = .tuple #[.int .i64 0, .bool false] := by
          cases h1 : windB f4 s4 with
          | false => exact pushR_no1 h1
          | true => cases h2 : inB to 0 7 with
            | false => exact pushR_no2 h2
            | true => exact absurd ⟨h1, h2⟩ hw4
        have P1 := fun W => PushTowards_any f4 s4 to W
        have P2 := fun W => sPushTowards_any f4 s4 to W
        rw [hno] at P1 P2
        replace P1 := Lib.hid P1
        replace P2 := Lib.hid P2
        clear hno hw4
        obtain ⟨⟨y0, y1⟩, _⟩ := bz_cells y.out
        go_wp2_with fail
        refine (P1.out _).mono ?_
        rintro e w12 ⟨rfl, hb'⟩
        replace x := Lib.hid (x.out.below hb')
        replace z := Lib.hid (z.out.below hb')
        replace y := Lib.hid (y.out.below hb')
        replace hb := Lib.hid (grow_trans hb.out hb')
        clear hb'
        clear y0 y1
        obtain ⟨⟨y0, y1⟩, _⟩ := bz_cells y.out
        go_wp2_with fail
        refine (P2.out _).mono ?_
        rintro e w13 ⟨rfl, hb'⟩
        replace x := Lib.hid (x.out.below hb')
        replace z := Lib.hid (z.out.below hb')
        replace y := Lib.hid (y.out.below hb')
        replace hb := Lib.hid (grow_trans hb.out hb')
        clear hb'
        clear y0 y1
        go_wp2
        go_ret
        exact ⟨rfl, hb.out⟩
  | true =>
    have E1 := fun W hW => HX.out f s W hW
    have E2 := fun W => sBreezeText_any f s W
    have E3 := fun W => IsBreeze_any f s W
    have hv1 := brV_text hw
    have hsz := brz_size hw
    have E4 := fun W hW => HI.out (bs (brzL f s)) W hW (by omega)
    rw [hw, show ∀ q, strV true q = .tuple #[.string q, .bool true] from fun _ => rfl] at E1 E2
    rw [show brR true f s = .tuple #[.agg #[.int .i64 f, .int .i64 s], .bool true] from rfl] at hv1
    rw [hw] at E3
    rw [hv1] at E4
    generalize bs (brzL f s) = ms at *
    replace E1 := Lib.hid E1
    replace E2 := Lib.hid E2
    replace E3 := Lib.hid E3
    replace E4 := Lib.hid E4
    clear hv1 hw HX hFS
    obtain ⟨⟨x0, x1⟩, _⟩ := bz_cells x.out
    go_wp2_with fail
    refine (E1.out _ hb.out).mono ?_
    rintro e w3 ⟨rfl, hb'⟩
    replace x := Lib.hid (x.out.below hb')
    replace hb := Lib.hid (grow_trans hb.out hb')
    clear hb'
    clear x0 x1
    obtain ⟨⟨x0, x1⟩, _⟩ := bz_cells x.out
    go_wp2_with fail
    refine (E2.out _).mono ?_
    rintro e w4 ⟨rfl, hb'⟩
    replace x := Lib.hid (x.out.below hb')
    replace hb := Lib.hid (grow_trans hb.out hb')
    clear hb'
    clear x0 x1
    obtain ⟨⟨x0, x1⟩, _⟩ := bz_cells x.out
    go_wp2_with fail
    refine (E3.out _).mono ?_
    rintro e w5 ⟨rfl, hb'⟩
    replace x := Lib.hid (x.out.below hb')
    replace hb := Lib.hid (grow_trans hb.out hb')
    clear hb'
    clear x0 x1
    go_wp2_with fail
    refine (E4.out _ hb.out).mono ?_
    rintro e w6 ⟨rfl, hb'⟩
    replace x := Lib.hid (x.out.below hb')
    replace hb := Lib.hid (grow_trans hb.out hb')
    clear hb'
    have hn := grow_alloc w6 (.cells #[.int .i64 f, .int .i64 s] 41)
    replace x := Lib.hid (x.out.below hn)
    replace hb := Lib.hid (grow_trans hb.out hn)
    have z : Hid (Bx (w6.alloc (.cells #[.int .i64 f, .int .i64 s] 41)) 41 w6.heap.size (bzC f s)) := Bx.new w6 (bzC f s) _
    clear hn
    clear E1 E2 E3 E4
    obtain ⟨⟨x0, x1⟩, _⟩ := bz_cells x.out
    obtain ⟨⟨z0, z1⟩, _⟩ := bz_cells z.out
    go_wp2_with fail
    clear x0 x1 z0 z1
    refine (D2.out _ hb.out).mono ?_
    rintro e w7 ⟨t, rfl, hts, hb'⟩
    replace x := Lib.hid (x.out.below hb')
    replace z := Lib.hid (z.out.below hb')
    replace hb := Lib.hid (grow_trans hb.out hb')
    clear hb'
    clear D2
    obtain ⟨f2, s2, c2, hv2⟩ := brV_shape t
    have Q1 := fun W hW => HI.out t W hW (by omega)
    have Q2 := fun W => sParseBreeze_any t W (by omega)
    rw [hv2] at Q1 Q2
    replace Q1 := Lib.hid Q1
    replace Q2 := Lib.hid Q2
    clear hv2 HI hts
    go_wp2_with fail
    refine (Q1.out _ hb.out).mono ?_
    rintro e w8 ⟨rfl, hb'⟩
    replace x := Lib.hid (x.out.below hb')
    replace z := Lib.hid (z.out.below hb')
    replace hb := Lib.hid (grow_trans hb.out hb')
    clear hb'
    have hn := grow_alloc w8 (.cells #[.int .i64 f2, .int .i64 s2] 41)
    replace x := Lib.hid (x.out.below hn)
    replace z := Lib.hid (z.out.below hn)
    replace hb := Lib.hid (grow_trans hb.out hn)
    have u : Hid (Bx (w8.alloc (.cells #[.int .i64 f2, .int .i64 s2] 41)) 41 w8.heap.size (bzC f2 s2)) := Bx.new w8 (bzC f2 s2) _
    clear hn
    go_wp2_with fail
    refine (Q2.out _).mono ?_
    rintro e w9 ⟨rfl, hb'⟩
    replace x := Lib.hid (x.out.below hb')
    replace z := Lib.hid (z.out.below hb')
    replace u := Lib.hid (u.out.below hb')
    replace hb := Lib.hid (grow_trans hb.out hb')
    clear hb'
    have hn := grow_alloc w9 (.cells #[.int .i64 f2, .int .i64 s2] 41)
    replace x := Lib.hid (x.out.below hn)
    replace z := Lib.hid (z.out.below hn)
    replace u := Lib.hid (u.out.below hn)
    replace hb := Lib.hid (grow_trans hb.out hn)
    have v : Hid (Bx (w9.alloc (.cells #[.int .i64 f2, .int .i64 s2] 41)) 41 w9.heap.size (bzC f2 s2)) := Bx.new w9 (bzC f2 s2) _
    clear hn
    obtain ⟨⟨u0, u1⟩, _⟩ := bz_cells u.out
    obtain ⟨⟨v0, v1⟩, _⟩ := bz_cells v.out
    clear Q1 Q2
    go_wp2_with fail
    clear u0 u1 v0 v1
    clear u
    clear v
    refine (D3.out _ hb.out).mono ?_
    rintro e w10 ⟨a, b, rfl, ha, hbb, hb'⟩
    replace x := Lib.hid (x.out.below hb')
    replace z := Lib.hid (z.out.below hb')
    replace hb := Lib.hid (grow_trans hb.out hb')
    clear hb'
    clear D3
    have T3 := turnR_comm a b
    have T1 := fun W => TurnBetween_any a b W
    have T2 := fun W => TurnBetween_any b a W
    have T4 := fun W => sTurnBetween_any a b W
    rw [← T3] at T2
    clear T3
    by_cases ht3 : inB a 0 7 = true ∧ inB b 0 7 = true
    case pos =>
      obtain ⟨hi, hj⟩ := ht3
      obtain ⟨a0, a1⟩ := inB_iff.1 hi
      obtain ⟨b0, b1⟩ := inB_iff.1 hj
      have hz := turn_zero a0 a1 b0 b1
      rw [turnR_yes hi hj] at T1 T2 T4
      generalize turnN a b = tv at *
      replace T1 := Lib.hid T1
      replace T2 := Lib.hid T2
      replace T4 := Lib.hid T4
      clear hi hj
      by_cases hab : a = b
      case pos =>
        subst hab
        obtain rfl : tv = 0 := hz.2 rfl
        clear hz
        go_wp2_with fail
        refine (T1.out _).mono ?_
        rintro e w11 ⟨rfl, rfl⟩
        go_wp2_with fail
        refine (T1.out _).mono ?_
        rintro e w11 ⟨rfl, rfl⟩
        go_wp2_with fail
        refine (T4.out _).mono ?_
        rintro e w11 ⟨rfl, rfl⟩
        clear T1 T2 T4
        go_wp2_with fail
        refine (D4.out _ hb.out).mono ?_
        rintro e w11 ⟨f4, s4, to, rfl, hF4, hto, hb'⟩
        replace x := Lib.hid (x.out.below hb')
        replace z := Lib.hid (z.out.below hb')
        replace hb := Lib.hid (grow_trans hb.out hb')
        clear hb'
        have hn := grow_alloc w11 (.cells #[.int .i64 f4, .int .i64 s4] 41)
        replace x := Lib.hid (x.out.below hn)
        replace z := Lib.hid (z.out.below hn)
        replace hb := Lib.hid (grow_trans hb.out hn)
        have y : Hid (Bx (w11.alloc (.cells #[.int .i64 f4, .int .i64 s4] 41)) 41 w11.heap.size (bzC f4 s4)) := Bx.new w11 (bzC f4 s4) _
        clear hn
        obtain ⟨⟨f40, f41⟩, s40, s41⟩ := hF4
        clear D4
        by_cases hw4 : windB f4 s4 = true ∧ inB to 0 7 = true
        case pos =>
          obtain ⟨hv4, hi4⟩ := hw4
          obtain ⟨t0, t1⟩ := inB_iff.1 hi4
          obtain ⟨⟨g0, g1⟩, ⟨u0, u1⟩, _⟩ := windB_iff.1 hv4
          have h5 : inB ((to + 4) % 8) 0 7 = true := inB_iff.2 (by omega)
          have hbk := push_back (f := f4) (s := s4) g0 g1 t0 t1
          have hpl := push_le (f := f4) (s := s4) (to := to) u0 u1
          have P1 := fun W => PushTowards_any f4 s4 to W
          have P2 := fun W => sPushTowards_any f4 s4 to W
          have P3 := fun W => PushTowards_any f4 s4 ((to + 4) % 8) W
          rw [pushR_yes hv4 hi4] at P1 P2
          rw [pushR_yes hv4 h5, hbk] at P3
          have m1 : (to + 4).tmod 8 = (to + 4) % 8 := Int.tmod_eq_emod_of_nonneg (by omega)
          have m2 : IntKind.i64.wrap (to + 4) = to + 4 := IntWalk.i64_in _ (by omega)
          have m3 : IntKind.i64.wrap ((to + 4) % 8) = (to + 4) % 8 := IntWalk.i64_in _ (by omega)
          have hpd := push_bd (f := f4) (s := s4) (to := to) u0 u1
          have m4 : IntKind.i64.wrap (- pushN f4 s4 to) = - pushN f4 s4 to := IntWalk.i64_in _ (by omega)
          have m5 : IntKind.i64.wrap (0 - pushN f4 s4 to) = - pushN f4 s4 to := by rw [Int.zero_sub]; exact m4
          generalize pushN f4 s4 to = pv at *
          generalize hq8 : (to + 4) % 8 = t8 at *
          replace P1 := Lib.hid P1
          replace P2 := Lib.hid P2
          replace P3 := Lib.hid P3
          clear hbk h5 hv4 hi4 hq8
          obtain ⟨⟨y0, y1⟩, _⟩ := bz_cells y.out
          go_wp2_with fail
          refine (P1.out _).mono ?_
          rintro e w12 ⟨rfl, hb'⟩
          replace x := Lib.hid (x.out.below hb')
          replace z := Lib.hid (z.out.below hb')
          replace y := Lib.hid (y.out.below hb')
          replace hb := Lib.hid (grow_trans hb.out hb')
          clear hb'
          clear y0 y1
          obtain ⟨⟨y0, y1⟩, _⟩ := bz_cells y.out
          go_wp2_with fail
          refine (P2.out _).mono ?_
          rintro e w13 ⟨rfl, hb'⟩
          replace x := Lib.hid (x.out.below hb')
          replace z := Lib.hid (z.out.below hb')
          replace y := Lib.hid (y.out.below hb')
          replace hb := Lib.hid (grow_trans hb.out hb')
          clear hb'
          clear y0 y1
          obtain ⟨⟨y0, y1⟩, _⟩ := bz_cells y.out
          go_wp2_with fail
          refine (P3.out _).mono ?_
          rintro e w14 ⟨rfl, hb'⟩
          replace x := Lib.hid (x.out.below hb')
          replace z := Lib.hid (z.out.below hb')
          replace y := Lib.hid (y.out.below hb')
          replace hb := Lib.hid (grow_trans hb.out hb')
          clear hb'
          clear y0 y1
          obtain ⟨⟨y0, y1⟩, _⟩ := bz_cells y.out
          go_wp2
          go_ret
          exact ⟨by simp <;> omega, hb.out⟩
        case neg =>
          have hno : pushR f4 s4 to = .tuple #[.int .i64 0, .bool false] := by
            cases h1 : windB f4 s4 with
            | false => exact pushR_no1 h1
            | true => cases h2 : inB to 0 7 with
              | false => exact pushR_no2 h2
              | true => exact absurd ⟨h1, h2⟩ hw4
          have P1 := fun W => PushTowards_any f4 s4 to W
          have P2 := fun W => sPushTowards_any f4 s4 to W
          rw [hno] at P1 P2
          replace P1 := Lib.hid P1
          replace P2 := Lib.hid P2
          clear hno hw4
          obtain ⟨⟨y0, y1⟩, _⟩ := bz_cells y.out
          go_wp2_with fail
          refine (P1.out _).mono ?_
          rintro e w12 ⟨rfl, hb'⟩
          replace x := Lib.hid (x.out.below hb')
          replace z := Lib.hid (z.out.below hb')
          replace y := Lib.hid (y.out.below hb')
          replace hb := Lib.hid (grow_trans hb.out hb')
          clear hb'
          clear y0 y1
          obtain ⟨⟨y0, y1⟩, _⟩ := bz_cells y.out
          go_wp2_with fail
          refine (P2.out _).mono ?_
          rintro e w13 ⟨rfl, hb'⟩
          replace x := Lib.hid (x.out.below hb')
          replace z := Lib.hid (z.out.below hb')
          replace y := Lib.hid (y.out.below hb')
          replace hb := Lib.hid (grow_trans hb.out hb')
          clear hb'
          clear y0 y1
          go_wp2
          go_ret
          exact ⟨rfl, hb.out⟩
      case neg =>
        have q1 : (a == b) = false := by simpa using hab
        have q2 : (tv == 0) = false := by simpa using fun e => hab (hz.1 e)
        clear hz hab
        go_wp2_with fail
        refine (T1.out _).mono ?_
        rintro e w11 ⟨rfl, rfl⟩
        go_wp2_with fail
        refine (T2.out _).mono ?_
        rintro e w11 ⟨rfl, rfl⟩
        go_wp2_with fail
        refine (T4.out _).mono ?_
        rintro e w11 ⟨rfl, rfl⟩
        clear T1 T2 T4
        go_wp2_with fail
        refine (D4.out _ hb.out).mono ?_
        rintro e w11 ⟨f4, s4, to, rfl, hF4, hto, hb'⟩
        replace x := Lib.hid (x.out.below hb')
        replace z := Lib.hid (z.out.below hb')
        replace hb := Lib.hid (grow_trans hb.out hb')
        clear hb'
        have hn := grow_alloc w11 (.cells #[.int .i64 f4, .int .i64 s4] 41)
        replace x := Lib.hid (x.out.below hn)
        replace z := Lib.hid (z.out.below hn)
        replace hb := Lib.hid (grow_trans hb.out hn)
        have y : Hid (Bx (w11.alloc (.cells #[.int .i64 f4, .int .i64 s4] 41)) 41 w11.heap.size (bzC f4 s4)) := Bx.new w11 (bzC f4 s4) _
        clear hn
        obtain ⟨⟨f40, f41⟩, s40, s41⟩ := hF4
        clear D4
        by_cases hw4 : windB f4 s4 = true ∧ inB to 0 7 = true
        case pos =>
          obtain ⟨hv4, hi4⟩ := hw4
          obtain ⟨t0, t1⟩ := inB_iff.1 hi4
          obtain ⟨⟨g0, g1⟩, ⟨u0, u1⟩, _⟩ := windB_iff.1 hv4
          have h5 : inB ((to + 4) % 8) 0 7 = true := inB_iff.2 (by omega)
          have hbk := push_back (f := f4) (s := s4) g0 g1 t0 t1
          have hpl := push_le (f := f4) (s := s4) (to := to) u0 u1
          have P1 := fun W => PushTowards_any f4 s4 to W
          have P2 := fun W => sPushTowards_any f4 s4 to W
          have P3 := fun W => PushTowards_any f4 s4 ((to + 4) % 8) W
          rw [pushR_yes hv4 hi4] at P1 P2
          rw [pushR_yes hv4 h5, hbk] at P3
          have m1 : (to + 4).tmod 8 = (to + 4) % 8 := Int.tmod_eq_emod_of_nonneg (by omega)
          have m2 : IntKind.i64.wrap (to + 4) = to + 4 := IntWalk.i64_in _ (by omega)
          have m3 : IntKind.i64.wrap ((to + 4) % 8) = (to + 4) % 8 := IntWalk.i64_in _ (by omega)
          have hpd := push_bd (f := f4) (s := s4) (to := to) u0 u1
          have m4 : IntKind.i64.wrap (- pushN f4 s4 to) = - pushN f4 s4 to := IntWalk.i64_in _ (by omega)
          have m5 : IntKind.i64.wrap (0 - pushN f4 s4 to) = - pushN f4 s4 to := by rw [Int.zero_sub]; exact m4
          generalize pushN f4 s4 to = pv at *
          generalize hq8 : (to + 4) % 8 = t8 at *
          replace P1 := Lib.hid P1
          replace P2 := Lib.hid P2
          replace P3 := Lib.hid P3
          clear hbk h5 hv4 hi4 hq8
          obtain ⟨⟨y0, y1⟩, _⟩ := bz_cells y.out
          go_wp2_with fail
          refine (P1.out _).mono ?_
          rintro e w12 ⟨rfl, hb'⟩
          replace x := Lib.hid (x.out.below hb')
          replace z := Lib.hid (z.out.below hb')
          replace y := Lib.hid (y.out.below hb')
          replace hb := Lib.hid (grow_trans hb.out hb')
          clear hb'
          clear y0 y1
          obtain ⟨⟨y0, y1⟩, _⟩ := bz_cells y.out
          go_wp2_with fail
          refine (P2.out _).mono ?_
          rintro e w13 ⟨rfl, hb'⟩
          replace x := Lib.hid (x.out.below hb')
          replace z := Lib.hid (z.out.below hb')
          replace y := Lib.hid (y.out.below hb')
          replace hb := Lib.hid (grow_trans hb.out hb')
          clear hb'
          clear y0 y1
          obtain ⟨⟨y0, y1⟩, _⟩ := bz_cells y.out
          go_wp2_with fail
          refine (P3.out _).mono ?_
          rintro e w14 ⟨rfl, hb'⟩
          replace x := Lib.hid (x.out.below hb')
          replace z := Lib.hid (z.out.below hb')
          replace y := Lib.hid (y.out.below hb')
          replace hb := Lib.hid (grow_trans hb.out hb')
          clear hb'
          clear y0 y1
          obtain ⟨⟨y0, y1⟩, _⟩ := bz_cells y.out
          go_wp2
          go_ret
          exact ⟨by simp <;> omega, hb.out⟩
        case neg =>
          have hno : pushR f4 s4 to = .tuple #[.int .i64 0, .bool false] := by
            cases h1 : windB f4 s4 with
            | false => exact pushR_no1 h1
            | true => cases h2 : inB to 0 7 with
              | false => exact pushR_no2 h2
              | true => exact absurd ⟨h1, h2⟩ hw4
          have P1 := fun W => PushTowards_any f4 s4 to W
          have P2 := fun W => sPushTowards_any f4 s4 to W
          rw [hno] at P1 P2
          replace P1 := Lib.hid P1
          replace P2 := Lib.hid P2
          clear hno hw4
          obtain ⟨⟨y0, y1⟩, _⟩ := bz_cells y.out
          go_wp2_with fail
          refine (P1.out _).mono ?_
          rintro e w12 ⟨rfl, hb'⟩
          replace x := Lib.hid (x.out.below hb')
          replace z := Lib.hid (z.out.below hb')
          replace y := Lib.hid (y.out.below hb')
          replace hb := Lib.hid (grow_trans hb.out hb')
          clear hb'
          clear y0 y1
          obtain ⟨⟨y0, y1⟩, _⟩ := bz_cells y.out
          go_wp2_with fail
          refine (P2.out _).mono ?_
          rintro e w13 ⟨rfl, hb'⟩
          replace x := Lib.hid (x.out.below hb')
          replace z := Lib.hid (z.out.below hb')
          replace y := Lib.hid (y.out.below hb')
          replace hb := Lib.hid (grow_trans hb.out hb')
          clear hb'
          clear y0 y1
          go_wp2
          go_ret
          exact ⟨rfl, hb.out⟩
    case neg =>
      have hno : turnR a b = .tuple #[.int .i64 0, .bool false] := by
        cases h1 : inB a 0 7 with
        | false => exact turnR_no1 h1
        | true => cases h2 : inB b 0 7 with
          | false => exact turnR_no2 h2
          | true => exact absurd ⟨h1, h2⟩ ht3
      rw [hno] at T1 T2 T4
      replace T1 := Lib.hid T1
      replace T2 := Lib.hid T2
      replace T4 := Lib.hid T4
      clear hno ht3
      go_wp2_with fail
      refine (T1.out _).mono ?_
      rintro e w11 ⟨rfl, rfl⟩
      go_wp2_with fail
      refine (T2.out _).mono ?_
      rintro e w11 ⟨rfl, rfl⟩
      go_wp2_with fail
      refine (T4.out _).mono ?_
      rintro e w11 ⟨rfl, rfl⟩
      clear T1 T2 T4
      go_wp2_with fail
      refine (D4.out _ hb.out).mono ?_
      rintro e w11 ⟨f4, s4, to, rfl, hF4, hto, hb'⟩
      replace x := Lib.hid (x.out.below hb')
      replace z := Lib.hid (z.out.below hb')
      replace hb := Lib.hid (grow_trans hb.out hb')
      clear hb'
      have hn := grow_alloc w11 (.cells #[.int .i64 f4, .int .i64 s4] 41)
      replace x := Lib.hid (x.out.below hn)
      replace z := Lib.hid (z.out.below hn)
      replace hb := Lib.hid (grow_trans hb.out hn)
      have y : Hid (Bx (w11.alloc (.cells #[.int .i64 f4, .int .i64 s4] 41)) 41 w11.heap.size (bzC f4 s4)) := Bx.new w11 (bzC f4 s4) _
      clear hn
      obtain ⟨⟨f40, f41⟩, s40, s41⟩ := hF4
      clear D4
      by_cases hw4 : windB f4 s4 = true ∧ inB to 0 7 = true
      case pos =>
        obtain ⟨hv4, hi4⟩ := hw4
        obtain ⟨t0, t1⟩ := inB_iff.1 hi4
        obtain ⟨⟨g0, g1⟩, ⟨u0, u1⟩, _⟩ := windB_iff.1 hv4
        have h5 : inB ((to + 4) % 8) 0 7 = true := inB_iff.2 (by omega)
        have hbk := push_back (f := f4) (s := s4) g0 g1 t0 t1
        have hpl := push_le (f := f4) (s := s4) (to := to) u0 u1
        have P1 := fun W => PushTowards_any f4 s4 to W
        have P2 := fun W => sPushTowards_any f4 s4 to W
        have P3 := fun W => PushTowards_any f4 s4 ((to + 4) % 8) W
        rw [pushR_yes hv4 hi4] at P1 P2
        rw [pushR_yes hv4 h5, hbk] at P3
        have m1 : (to + 4).tmod 8 = (to + 4) % 8 := Int.tmod_eq_emod_of_nonneg (by omega)
        have m2 : IntKind.i64.wrap (to + 4) = to + 4 := IntWalk.i64_in _ (by omega)
        have m3 : IntKind.i64.wrap ((to + 4) % 8) = (to + 4) % 8 := IntWalk.i64_in _ (by omega)
        have hpd := push_bd (f := f4) (s := s4) (to := to) u0 u1
        have m4 : IntKind.i64.wrap (- pushN f4 s4 to) = - pushN f4 s4 to := IntWalk.i64_in _ (by omega)
        have m5 : IntKind.i64.wrap (0 - pushN f4 s4 to) = - pushN f4 s4 to := by rw [Int.zero_sub]; exact m4
        generalize pushN f4 s4 to = pv at *
        generalize hq8 : (to + 4) % 8 = t8 at *
        replace P1 := Lib.hid P1
        replace P2 := Lib.hid P2
        replace P3 := Lib.hid P3
        clear hbk h5 hv4 hi4 hq8
        obtain ⟨⟨y0, y1⟩, _⟩ := bz_cells y.out
        go_wp2_with fail
        refine (P1.out _).mono ?_
        rintro e w12 ⟨rfl, hb'⟩
        replace x := Lib.hid (x.out.below hb')
        replace z := Lib.hid (z.out.below hb')
        replace y := Lib.hid (y.out.below hb')
        replace hb := Lib.hid (grow_trans hb.out hb')
        clear hb'
        clear y0 y1
        obtain ⟨⟨y0, y1⟩, _⟩ := bz_cells y.out
        go_wp2_with fail
        refine (P2.out _).mono ?_
        rintro e w13 ⟨rfl, hb'⟩
        replace x := Lib.hid (x.out.below hb')
        replace z := Lib.hid (z.out.below hb')
        replace y := Lib.hid (y.out.below hb')
        replace hb := Lib.hid (grow_trans hb.out hb')
        clear hb'
        clear y0 y1
        obtain ⟨⟨y0, y1⟩, _⟩ := bz_cells y.out
        go_wp2_with fail
        refine (P3.out _).mono ?_
        rintro e w14 ⟨rfl, hb'⟩
        replace x := Lib.hid (x.out.below hb')
        replace z := Lib.hid (z.out.below hb')
        replace y := Lib.hid (y.out.below hb')
        replace hb := Lib.hid (grow_trans hb.out hb')
        clear hb'
        clear y0 y1
        obtain ⟨⟨y0, y1⟩, _⟩ := bz_cells y.out
        go_wp2
        go_ret
        exact ⟨by simp <;> omega, hb.out⟩
      case neg =>
        have hno : pushR f4 s4 to = .tuple #[.int .i64 0, .bool false] := by
          cases h1 : windB f4 s4 with
          | false => exact pushR_no1 h1
          | true => cases h2 : inB to 0 7 with
            | false => exact pushR_no2 h2
            | true => exact absurd ⟨h1, h2⟩ hw4
        have P1 := fun W => PushTowards_any f4 s4 to W
        have P2 := fun W => sPushTowards_any f4 s4 to W
        rw [hno] at P1 P2
        replace P1 := Lib.hid P1
        replace P2 := Lib.hid P2
        clear hno hw4
        obtain ⟨⟨y0, y1⟩, _⟩ := bz_cells y.out
        go_wp2_with fail
        refine (P1.out _).mono ?_
        rintro e w12 ⟨rfl, hb'⟩
        replace x := Lib.hid (x.out.below hb')
        replace z := Lib.hid (z.out.below hb')
        replace y := Lib.hid (y.out.below hb')
        replace hb := Lib.hid (grow_trans hb.out hb')
        clear hb'
        clear y0 y1
        obtain ⟨⟨y0, y1⟩, _⟩ := bz_cells y.out
        go_wp2_with fail
        refine (P2.out _).mono ?_
        rintro e w13 ⟨rfl, hb'⟩
        replace x := Lib.hid (x.out.below hb')
        replace z := Lib.hid (z.out.below hb')
        replace y := Lib.hid (y.out.below hb')
        replace hb := Lib.hid (grow_trans hb.out hb')
        clear hb'
        clear y0 y1
        go_wp2
        go_ret
        exact ⟨rfl, hb.out⟩
/-! the frame: the arguments opened, the row closed -/
set_option maxRecDepth 100000 in
theorem lifted (os : Os) (started : os.Started) (H : Type) (enc : TypeId × Value → H) :
    ReturnsInHanded {} Tryd.checked os 5 .any (fun w args => (Rows.fnBreezesSpec.pre enc Tryd.prog Tryd.f5 [] false w args ∧ laidMetH Tryd.prog Rows.fnBreezesRow.laid w) ∧ sizedMet enc Tryd.prog Tryd.f5 (OpenSpec.ofChange Rows.fnBreezesSpec) false w args) (Rows.fnBreezesSpec.post enc Tryd.prog Tryd.f5 false true false false) := by
  refine law_laidS (C := Tryd.checked) Rows.fnBreezesRow.laid own started (by kernel_rfl) Tryd.func5
    (ChangeSpec.witness_shaped (enc := enc) (C := Tryd.checked) (os := os) (X := fun w _ => laidMetH Tryd.prog Rows.fnBreezesRow.laid w) false (World.laidAll Tryd.prog os Rows.fnBreezesRow.laid) #[.slice none 0 0] 8 (World.laidAll_os _ _ _) (World.shaped_of_ZipB (by kernel_rfl) (by kernel_rfl)) (by kernel_rfl) (by kernel_rfl) (by kernel_rfl) (by rw [MakeChecks.laidMetH_plain _ _ _ (by kernel_rfl)]; exact laidMet_laidAll _ (by kernel_rfl) (by kernel_rfl)))
    laidOut (of_decide_eq_true (by kernel_rfl)) rfl Tryd.underlying4 rfl ?_
  intro W base args ds p hL hsh hval hA
  rw [Tryd.params5] at hA hval
  obtain ⟨v0, vs0, d0, ds0, p0, q0, hargs, rfl, rfl, h0, r0⟩ := trodAll_cons hA
  obtain ⟨rfl, rfl, rfl⟩ := trodAll_nil r0
  obtain rfl : args = #[v0] := by cases args; simp_all
  obtain ⟨z0, b0⟩ := open_bs (hval 0 22 v0 rfl rfl) h0
  exact ⟨rfl, walk W hL hsh v0 z0 b0⟩

theorem over : Rows.fnBreezesRow.holds Tryd.pinned (OpenSpec.ofChange Rows.fnBreezesSpec) :=
  OpenClaim.holds_of_wide 5 Tryd.f5 rfl rfl rfl rfl rfl rfl rfl ⟨rfl, rfl, rfl, rfl, rfl⟩ rfl rfl rfl rfl rfl (by kernel_rfl) Tryd.func5 (by kernel_rfl)
    (of_decide_eq_true (by kernel_rfl)) (by unfold Func.isWrapper; first | (rw [if_pos (by decide +kernel)]; kernel_rfl) | (rw [if_neg (by decide +kernel)]; exact ⟨rfl, rfl⟩))
    (fun os started H enc _ => lifted os started H enc)

theorem proved : Rows.FnBreezesCardSaid :=
  Claim7.holds_tied_plain_at .later [] [.data, .data, .data, .data, .sentinel, .sentinel, .pinned] true (true, "1bc418486c525293c149fd31809b774809e3d2f13b776d816489c80c7f0b6c47") true
    over (fun _ h => by cases h) (by kernel_rfl) (fun _ h => by cases h) fnBreezes_row_tie rfl ⟨rfl, rfl⟩ (by kernel_rfl) rfl
    (fun f fn hf hfn => by
      obtain rfl : f = 5 := Option.some.inj ((show Tryd.prog.funcNamed Rows.fnBreezesRow.func = some 5 by kernel_rfl).symm.trans hf) |>.symm
      obtain rfl : fn = Tryd.f5 := (Option.some.inj (Tryd.func5.symm.trans hfn)).symm
      exact ⟨by kernel_rfl, fun j t ht => by
        rw [Tryd.params5] at ht
        have hm : t ∈ [22] := by simpa using Array.mem_of_getElem? ht
        have hall : ([22].all fun u => !Tryd.prog.wantsStandIn u) = true := by kernel_rfl
        exact (show Tryd.prog.wantsStandIn t = false by simpa using List.all_eq_true.1 hall t hm)⟩)
    (by kernel_rfl)
#print axioms proved
end Go.Proofs.YtabedcpibnnnhaaDoor.lFnBreezes
