/- FnExactWindShifts returns true for all arguments: the program's WindShifts answers as the reference's, leaves its arguments, and its result is new memory. Conditions: none. -/
import Derived.Test.YtpnebbkinncepaaShift2
import Derived.Test.YtpnebbkinncepaaOpenW
namespace Go.Proofs.Ytpnebbkinncepaa.lWindShifts
open Go.ChangeShapes Go.WideShapes Go.ChangeAt Go.RowKit
set_option linter.unusedVariables false
set_option linter.unusedSimpArgs false
set_option maxRecDepth 100000


set_option maxHeartbeats 4000000 in
theorem walk (w : World) (v0 : Value) (z0 : List Wx) (k0 : Sl w 4 v0 z0.length (wxs z0)) (a1 : Int) (k1 : I64 a1) :
    Calls Try.prog 10 #[v0, .int .i64 a1] w fun e w' => e = .returned (.bool true) ∧ Below w.heap.size w w' := by
  have hw0 : Below w.heap.size w w := Below.refl _ _
  have hb : Below w.heap.size w w := Below.refl _ _
  have hc := (bcell hb).1
  have m0 := k0.len
  unfold maxLen at m0
  by_cases q0 : z0.length ≤ 1048576
  case neg =>
    go_enter Try.func10, Try.ntmps10
    go_wp2_with fail
    with_reducible refine (szWeatherS_no _ (1048576 : Int) _ _ _ (k0.below (grow_trans hw0 hb)) (by omega) (by omega) (by omega)).mono ?_
    rintro e w1 ⟨rfl, hb1⟩
    replace hb := grow_trans hb hb1
    replace hc := (bcell hb).1
    go_wp2
    go_ret
    exact ⟨rfl, grow_trans hw0 hb⟩
  have hs := fun (W : World) (u0 : Value) (e0 : Sl W 4 u0 z0.length (wxs z0)) => sWindShifts_any u0 z0 a1 W e0
  have hi := fun (W : World) (u0 : Value) (e0 : Sl W 4 u0 z0.length (wxs z0)) => WindShifts_any u0 z0 a1 W e0
  have hlen : (selR (foreB z0 && inB a1 1 4) (shO z0 a1 z0.length)).length ≤ 1048576 := by unfold selR; split; exact Nat.le_trans (shO_le _ _ _) (by omega); simp
  generalize selR (foreB z0 && inB a1 1 4) (shO z0 a1 z0.length) = rs at hs hi hlen
  generalize (foreB z0 && inB a1 1 4) = ok at hs hi
  have Hs := Lib.hid hs
  have Hi := Lib.hid hi
  clear hs hi
  go_enter Try.func10, Try.ntmps10
  go_wp2_with fail
  with_reducible refine (szWeatherS_ok _ (1048576 : Int) _ _ _ (k0.below (grow_trans hw0 hb)) (by omega) (by omega) (by omega)).mono ?_
  rintro e w1 ⟨rfl, hb1⟩
  replace hb := grow_trans hb hb1
  replace hc := (bcell hb).1
  go_wp2_with fail
  with_reducible refine (toWeatherS_any v0 z0 _ (k0.below (grow_trans hw0 hb)) (by omega)).mono ?_
  rintro e w2 ⟨cg0, rfl, ocg0, hb2⟩
  replace hb := grow_trans hb hb2
  replace hc := (bcell hb).1
  have srw0 := Lib.hid hb.size
  go_wp2_with fail
  with_reducible refine (Hs.out _ cg0 (Sl.of_own ocg0)).mono ?_
  rintro e w3 ⟨rw0, rfl, orw0, hb3⟩
  replace ocg0 := own_below ocg0 hb3
  replace hb := grow_trans hb hb3
  replace hc := (bcell hb).1
  have lrw0 := Lib.hid orw0.lt
  have hArw0 : Below w3.heap.size w3 w3 := Below.refl _ _
  have scx0 := Lib.hid hb.size
  have srw0cx0 := Lib.hid hArw0.size
  go_wp2_with fail
  with_reducible refine (toWeatherS_any v0 z0 _ (k0.below (grow_trans hw0 hb)) (by omega)).mono ?_
  rintro e w4 ⟨cx0, rfl, ocx0, hb4⟩
  replace ocg0 := own_below ocg0 hb4
  replace orw0 := own_below orw0 hb4
  replace hb := grow_trans hb hb4
  replace hArw0 := grow_trans hArw0 hb4
  replace hc := (bcell hb).1
  have lcx0 := Lib.hid ocx0.lt
  have hAcx0 : Below w4.heap.size w4 w4 := Below.refl _ _
  have srg0 := Lib.hid hb.size
  have srw0rg0 := Lib.hid hArw0.size
  have scx0rg0 := Lib.hid hAcx0.size
  go_wp2_with fail
  with_reducible refine (Hi.out _ cx0 (Sl.of_own ocx0)).mono ?_
  rintro e w5 ⟨rg0, rfl, org0, hb5⟩
  replace ocg0 := own_below ocg0 hb5
  replace orw0 := own_below orw0 hb5
  replace ocx0 := own_below ocx0 hb5
  replace hb := grow_trans hb hb5
  replace hArw0 := grow_trans hArw0 hb5
  replace hAcx0 := grow_trans hAcx0 hb5
  replace hc := (bcell hb).1
  have lrg0 := Lib.hid org0.lt
  have hArg0 : Below w5.heap.size w5 w5 := Below.refl _ _
  clear hArw0 hAcx0 hArg0
  go_wp2_with fail
  with_reducible refine (eqIntS_any _ _ rs _ (Sl.of_own org0) (Sl.of_own orw0)).mono ?_
  rintro e w6 ⟨rfl, hb6⟩
  replace ocg0 := own_below ocg0 hb6
  replace orw0 := own_below orw0 hb6
  replace ocx0 := own_below ocx0 hb6
  replace org0 := own_below org0 hb6
  replace hb := grow_trans hb hb6
  replace hc := (bcell hb).1
  go_wp2_with fail
  with_reducible refine (toWeatherS_any v0 z0 _ (k0.below (grow_trans hw0 hb)) (by omega)).mono ?_
  rintro e w7 ⟨cy0, rfl, ocy0, hb7⟩
  replace ocg0 := own_below ocg0 hb7
  replace orw0 := own_below orw0 hb7
  replace ocx0 := own_below ocx0 hb7
  replace org0 := own_below org0 hb7
  replace hb := grow_trans hb hb7
  replace hc := (bcell hb).1
  go_wp2_with fail
  with_reducible refine (eqWeatherS_any _ _ z0 _ (Sl.of_own ocx0) (Sl.of_own ocy0)).mono ?_
  rintro e w8 ⟨rfl, hb8⟩
  replace ocg0 := own_below ocg0 hb8
  replace orw0 := own_below orw0 hb8
  replace ocx0 := own_below ocx0 hb8
  replace org0 := own_below org0 hb8
  replace ocy0 := own_below ocy0 hb8
  replace hb := grow_trans hb hb8
  replace hc := (bcell hb).1
  clear ocg0 ocy0
  go_wp2_with fail
  with_reducible refine (markWeatherS_any _ (1) z0.length _ _ _ ocx0 (by omega) (by omega) (by omega)).mono ?_
  intro e w9 hm
  obtain ⟨rfl, hg⟩ := hm
  replace orw0 := own_kept orw0 hg (fun j hj e => by have h1 := lrw0.out j hj; have h2 := lcx0.out j e.symm; have h3 := srw0cx0.out; omega)
  replace org0 := own_kept org0 hg (fun j hj e => by have h1 := lrg0.out j hj; have h2 := lcx0.out j e.symm; have h3 := scx0rg0.out; omega)
  replace hb := hb.grown hg hb.size (fun j hj => by have h1 := scx0.out; have h2 := lcx0.out j hj; omega)
  clear hg
  replace hc := (bcell hb).1
  clear ocx0
  go_wp2_with fail
  with_reducible refine (eqIntS_any _ _ rs _ (Sl.of_own org0) (Sl.of_own orw0)).mono ?_
  rintro e w10 ⟨rfl, hb10⟩
  replace orw0 := own_below orw0 hb10
  replace org0 := own_below org0 hb10
  replace hb := grow_trans hb hb10
  replace hc := (bcell hb).1
  go_wp2_with fail
  with_reducible refine (markIntS_any _ 1 rs.length _ _ _ org0 (by omega) (by omega) (by omega)).mono ?_
  intro e w11 hm
  unfold RetMark at hm
  obtain ⟨rfl, om, hg⟩ := hm
  replace orw0 := own_kept orw0 hg (fun j hj e => by have h1 := lrw0.out j hj; have h2 := lrg0.out j e.symm; have h3 := srw0rg0.out; omega)
  replace hb := hb.grown hg hb.size (fun j hj => by have h1 := srg0.out; have h2 := lrg0.out j hj; omega)
  clear hg
  replace hc := (bcell hb).1
  replace org0 := om
  go_wp2_with fail
  with_reducible refine (heldIntS_any _ 1 rs.length _ (Sl.of_own org0) (by omega) (by omega) (by omega)).mono ?_
  rintro e w9 ⟨rfl, rfl⟩
  go_wp2_with fail
  with_reducible refine (toWeatherS_any v0 z0 _ (k0.below (grow_trans hw0 hb)) (by omega)).mono ?_
  rintro e w12 ⟨ch0, rfl, och0, hb12⟩
  replace orw0 := own_below orw0 hb12
  replace org0 := own_below org0 hb12
  replace hb := grow_trans hb hb12
  replace hc := (bcell hb).1
  go_wp2_with fail
  with_reducible refine (Hi.out _ ch0 (Sl.of_own och0)).mono ?_
  rintro e w13 ⟨rh0, rfl, orh0, hb13⟩
  replace orw0 := own_below orw0 hb13
  replace org0 := own_below org0 hb13
  replace och0 := own_below och0 hb13
  replace hb := grow_trans hb hb13
  replace hc := (bcell hb).1
  go_wp2_with fail
  with_reducible refine (eqIntS_any _ _ rs _ (Sl.of_own orh0) (Sl.of_own orw0)).mono ?_
  rintro e w14 ⟨rfl, hb14⟩
  replace orw0 := own_below orw0 hb14
  replace org0 := own_below org0 hb14
  replace och0 := own_below och0 hb14
  replace orh0 := own_below orh0 hb14
  replace hb := grow_trans hb hb14
  replace hc := (bcell hb).1
  go_wp2_with fail
  with_reducible refine (heldIntS_any _ 1 rs.length _ (Sl.of_own org0) (by omega) (by omega) (by omega)).mono ?_
  rintro e w9 ⟨rfl, rfl⟩
  go_wp2
  go_ret
  exact ⟨rfl, grow_trans hw0 hb⟩

/-! the frame: the arguments opened, the row closed -/
set_option maxRecDepth 100000 in
theorem lifted (os : Os) (started : os.Started) (H : Type) (enc : TypeId × Value → H) :
    ReturnsInHanded {} Try.checked os 10 .any (Rows.fnExactWindShiftsSpec.pre6 enc Try.prog Try.f10 Rows.fnExactWindShiftsRow.domain false) (Rows.fnExactWindShiftsSpec.post enc Try.prog Try.f10 false true false false) := by
  refine law_lifted (C := Try.checked) own started (by kernel_rfl) Try.func10
    (ChangeSpec.witness6 (enc := enc) (C := Try.checked) false ⟨#[], #[.slice none 0 0, .int .i64 0], []⟩ 8 (by kernel_rfl) (by kernel_rfl) (by kernel_rfl) (by kernel_rfl))
    laidOut (of_decide_eq_true (by kernel_rfl)) rfl Try.underlying4 rfl ?_
  intro W base args ds p hval hA
  rw [Try.params10] at hA hval
  obtain ⟨v0, vs0, d0, ds0, p0, q0, hargs, rfl, rfl, h0, r0⟩ := trodAll_cons hA
  obtain ⟨v1, vs1, d1, ds1, p1, q1, rfl, rfl, rfl, h1, r1⟩ := trodAll_cons r0
  obtain ⟨rfl, rfl, rfl⟩ := trodAll_nil r1
  obtain rfl : args = #[v0, v1] := by cases args; simp_all
  obtain ⟨z0, b0⟩ := open_weathers (hval 0 46 v0 rfl rfl) h0
  obtain ⟨a1, rfl, b1⟩ := open_i (hval 1 3 v1 rfl rfl) h1
  exact ⟨rfl, walk W v0 z0 b0 a1 b1⟩

theorem over : Rows.fnExactWindShiftsRow.holds Try.pinned (OpenSpec.ofChange Rows.fnExactWindShiftsSpec) :=
  OpenClaim.holds_of_wide 10 Try.f10 rfl rfl rfl rfl rfl rfl rfl ⟨rfl, rfl, rfl, rfl, rfl⟩ rfl rfl rfl rfl rfl (by kernel_rfl) Try.func10 (by kernel_rfl)
    (of_decide_eq_true (by kernel_rfl)) (by unfold Func.isWrapper; first | (rw [if_pos (by decide +kernel)]; kernel_rfl) | (rw [if_neg (by decide +kernel)]; exact ⟨rfl, rfl⟩))
    (fun os started H enc _ => lifted os started H enc)

theorem proved : Rows.FnExactWindShiftsSaid := over
#print axioms proved
end Go.Proofs.Ytpnebbkinncepaa.lWindShifts
