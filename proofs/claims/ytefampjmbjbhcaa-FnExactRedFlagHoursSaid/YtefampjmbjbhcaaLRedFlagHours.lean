/- FnExactRedFlagHours returns true for all arguments: the program's RedFlagHours answers as the reference's, leaves its arguments, and its result is new memory. Conditions: none. -/
import Derived.Test.YtefampjmbjbhcaaRed3
import Derived.Test.YtefampjmbjbhcaaShift2
import Derived.Test.YtefampjmbjbhcaaOpenW
namespace Go.Proofs.Ytefampjmbjbhcaa.lRedFlagHours
open Go.ChangeShapes Go.WideShapes Go.ChangeAt Go.RowKit
set_option linter.unusedVariables false
set_option linter.unusedSimpArgs false
set_option maxRecDepth 100000


set_option maxHeartbeats 4000000 in
theorem walk (w : World) (v0 : Value) (z0 : List Wx) (k0 : Sl w 4 v0 z0.length (wxs z0)) (a1 : Int) (k1 : I64 a1) (a2 : Int) (k2 : I64 a2) :
    Calls Try.prog 5 #[v0, .int .i64 a1, .int .i64 a2] w fun e w' => e = .returned (.bool true) ∧ Below w.heap.size w w' := by
  have hw0 : Below w.heap.size w w := Below.refl _ _
  have hb : Below w.heap.size w w := Below.refl _ _
  have hc := (bcell hb).1
  have m0 := k0.len
  unfold maxLen at m0
  by_cases q0 : z0.length ≤ 1048576
  case neg =>
    go_enter Try.func5, Try.ntmps5
    go_wp2_with fail
    with_reducible refine (szWeatherS_no _ (1048576 : Int) _ _ _ (k0.below (grow_trans hw0 hb)) (by omega) (by omega) (by omega)).mono ?_
    rintro e w1 ⟨rfl, hb1⟩
    replace hb := grow_trans hb hb1
    replace hc := (bcell hb).1
    go_wp2
    go_ret
    exact ⟨rfl, grow_trans hw0 hb⟩
  have hs := fun (W : World) (u0 : Value) (e0 : Sl W 4 u0 z0.length (wxs z0)) => sRedFlagHours_any u0 z0 a1 a2 W e0
  have hi := fun (W : World) (u0 : Value) (e0 : Sl W 4 u0 z0.length (wxs z0)) => RedFlagHours_any u0 z0 a1 a2 W e0
  have hlen : (selRR (foreB z0 && inB a1 0 120 && inB a2 0 100) (rfS z0 a1 a2 z0.length)).length ≤ 1048576 ∧ tot (selRR (foreB z0 && inB a1 0 120 && inB a2 0 100) (rfS z0 a1 a2 z0.length)) (selRR (foreB z0 && inB a1 0 120 && inB a2 0 100) (rfS z0 a1 a2 z0.length)).length ≤ 1048576 := rf_bound _ _ _ _ (fun h => (fore_len (by simp only [Bool.and_eq_true] at h; exact h.1.1)).2)
  generalize selRR (foreB z0 && inB a1 0 120 && inB a2 0 100) (rfS z0 a1 a2 z0.length) = rs at hs hi hlen
  generalize (foreB z0 && inB a1 0 120 && inB a2 0 100) = ok at hs hi
  obtain ⟨hlen, htot⟩ := hlen
  have Hs := Lib.hid hs
  have Hi := Lib.hid hi
  clear hs hi
  go_enter Try.func5, Try.ntmps5
  go_wp2_with fail
  with_reducible refine (szWeatherS_ok _ (1048576 : Int) _ _ _ (k0.below (grow_trans hw0 hb)) (by omega) (by omega) (by omega)).mono ?_
  rintro e w1 ⟨rfl, hb1⟩
  replace hb := grow_trans hb hb1
  replace hc := (bcell hb).1
  go_wp2_with fail
  with_reducible refine (toWeatherS_any _ z0 _ (k0.below (grow_trans hw0 hb)) (by omega)).mono ?_
  rintro e w2 ⟨cg0, rfl, ocg0, hb2⟩
  replace hb := grow_trans hb hb2
  replace hc := (bcell hb).1
  have srw0 := Lib.hid hb.size
  go_wp2_with fail
  with_reducible refine (Hs.out _ cg0 (Sl.of_own ocg0)).mono ?_
  rintro e w3 ⟨rw0, vw0, rfl, orw0, hb3⟩
  replace ocg0 := own_below ocg0 hb3
  replace hb := grow_trans hb hb3
  replace hc := (bcell hb).1
  have hArw0 : Below w3.heap.size w3 w3 := Below.refl _ _
  have scx0 := Lib.hid hb.size
  have srw0cx0 := Lib.hid hArw0.size
  go_wp2_with fail
  with_reducible refine (toWeatherS_any _ z0 _ (k0.below (grow_trans hw0 hb)) (by omega)).mono ?_
  rintro e w4 ⟨cx0, rfl, ocx0, hb4⟩
  replace ocg0 := own_below ocg0 hb4
  replace orw0 := RowsW.below orw0 hb4
  replace hb := grow_trans hb hb4
  replace hArw0 := grow_trans hArw0 hb4
  replace hc := (bcell hb).1
  have lcx0 := Lib.hid ocx0.lt
  have hAcx0 : Below w4.heap.size w4 w4 := Below.refl _ _
  have srg0 := Lib.hid hb.size
  have srw0rg0 := Lib.hid hArw0.size
  have scx0rg0 := Lib.hid hAcx0.size
  go_wp2_with fail
  with_reducible refine (Hi.out _ cx0 (Sl.of_own ocx0)).mono ?_
  rintro e w5 ⟨rg0, vg0, rfl, org0, hb5⟩
  replace ocg0 := own_below ocg0 hb5
  replace orw0 := RowsW.below orw0 hb5
  replace ocx0 := own_below ocx0 hb5
  replace hb := grow_trans hb hb5
  replace hArw0 := grow_trans hArw0 hb5
  replace hAcx0 := grow_trans hAcx0 hb5
  replace hc := (bcell hb).1
  have hX0 : w4.heap.size ≤ w5.heap.size := hb5.size
  clear hArw0 hAcx0
  go_wp2_with fail
  with_reducible refine (eqIntSS_any _ _ _ _ rs _ (RowsV.sl org0) (RowsW.sl orw0)).mono ?_
  rintro e w6 ⟨rfl, hb6⟩
  replace ocg0 := own_below ocg0 hb6
  replace orw0 := RowsW.below orw0 hb6
  replace ocx0 := own_below ocx0 hb6
  replace org0 := RowsV.below org0 hb6
  replace hb := grow_trans hb hb6
  replace hX0 := Nat.le_trans hX0 hb6.size
  replace hc := (bcell hb).1
  go_wp2_with fail
  with_reducible refine (toWeatherS_any _ z0 _ (k0.below (grow_trans hw0 hb)) (by omega)).mono ?_
  rintro e w7 ⟨cy0, rfl, ocy0, hb7⟩
  replace ocg0 := own_below ocg0 hb7
  replace orw0 := RowsW.below orw0 hb7
  replace ocx0 := own_below ocx0 hb7
  replace org0 := RowsV.below org0 hb7
  replace hb := grow_trans hb hb7
  replace hX0 := Nat.le_trans hX0 hb7.size
  replace hc := (bcell hb).1
  go_wp2_with fail
  with_reducible refine (eqWeatherS_any _ _ z0 _ (Sl.of_own ocx0) (Sl.of_own ocy0)).mono ?_
  rintro e w8 ⟨rfl, hb8⟩
  replace ocg0 := own_below ocg0 hb8
  replace orw0 := RowsW.below orw0 hb8
  replace ocx0 := own_below ocx0 hb8
  replace org0 := RowsV.below org0 hb8
  replace ocy0 := own_below ocy0 hb8
  replace hb := grow_trans hb hb8
  replace hX0 := Nat.le_trans hX0 hb8.size
  replace hc := (bcell hb).1
  clear ocg0 ocy0
  go_wp2_with fail
  with_reducible refine (markWeatherS_any _ (1) z0.length _ _ _ ocx0 (by omega) (by omega) (by omega)).mono ?_
  intro e w9 hm
  obtain ⟨rfl, hg⟩ := hm
  replace orw0 := RowsW.kept orw0 hg (fun j e => by have h2 := lcx0.out j e; have h3 := srw0cx0.out; omega)
  replace org0 := RowsV.keptB org0 hg (fun j e => by have h2 := lcx0.out j e; have h3 := scx0rg0.out; omega)
  replace hb := hb.grown hg hb.size (fun j hj => by have h1 := scx0.out; have h2 := lcx0.out j hj; omega)
  replace hX0 := Nat.le_trans hX0 hg.size
  clear hg
  replace hc := (bcell hb).1
  clear ocx0
  go_wp2_with fail
  with_reducible refine (eqIntSS_any _ _ _ _ rs _ (RowsV.sl org0) (RowsW.sl orw0)).mono ?_
  rintro e w10 ⟨rfl, hb10⟩
  replace orw0 := RowsW.below orw0 hb10
  replace org0 := RowsV.below org0 hb10
  replace hb := grow_trans hb hb10
  replace hX0 := Nat.le_trans hX0 hb10.size
  replace hc := (bcell hb).1
  go_wp2_with fail
  with_reducible refine (markIntSS_any _ _ rs 1 _ _ org0 hX0 (by omega) (by omega) hlen htot).mono ?_
  intro e w11 hm
  unfold RetMarks at hm
  obtain ⟨rfl, om, hgB⟩ := hm
  replace orw0 := RowsW.belowT orw0 hgB srw0rg0.out
  replace hX0 := Nat.le_trans hX0 hgB.size
  replace hb := hb.trans (hgB.mono srg0.out)
  clear hgB
  replace hc := (bcell hb).1
  replace org0 := om
  go_wp2_with fail
  with_reducible refine (heldIntSS_any _ _ rs 1 _ (RowsV.sl org0) (by omega) (by omega) hlen htot).mono ?_
  rintro e w9 ⟨rfl, rfl⟩
  go_wp2_with fail
  with_reducible refine (toWeatherS_any _ z0 _ (k0.below (grow_trans hw0 hb)) (by omega)).mono ?_
  rintro e w12 ⟨ch0, rfl, och0, hb12⟩
  replace orw0 := RowsW.below orw0 hb12
  replace org0 := RowsV.below org0 hb12
  replace hb := grow_trans hb hb12
  replace hX0 := Nat.le_trans hX0 hb12.size
  replace hc := (bcell hb).1
  go_wp2_with fail
  with_reducible refine (Hi.out _ ch0 (Sl.of_own och0)).mono ?_
  rintro e w13 ⟨rh0, vh0, rfl, orh0, hb13⟩
  replace orw0 := RowsW.below orw0 hb13
  replace org0 := RowsV.below org0 hb13
  replace och0 := own_below och0 hb13
  replace hb := grow_trans hb hb13
  replace hX0 := Nat.le_trans hX0 hb13.size
  replace hc := (bcell hb).1
  go_wp2_with fail
  with_reducible refine (eqIntSS_any _ _ _ _ rs _ (RowsV.sl orh0) (RowsW.sl orw0)).mono ?_
  rintro e w14 ⟨rfl, hb14⟩
  replace orw0 := RowsW.below orw0 hb14
  replace org0 := RowsV.below org0 hb14
  replace och0 := own_below och0 hb14
  replace orh0 := RowsV.below orh0 hb14
  replace hb := grow_trans hb hb14
  replace hX0 := Nat.le_trans hX0 hb14.size
  replace hc := (bcell hb).1
  go_wp2_with fail
  with_reducible refine (heldIntSS_any _ _ rs 1 _ (RowsV.sl org0) (by omega) (by omega) hlen htot).mono ?_
  rintro e w9 ⟨rfl, rfl⟩
  go_wp2
  go_ret
  exact ⟨rfl, grow_trans hw0 hb⟩

/-! the frame: the arguments opened, the row closed -/
set_option maxRecDepth 100000 in
theorem lifted (os : Os) (started : os.Started) (H : Type) (enc : TypeId × Value → H) :
    ReturnsInHanded {} Try.checked os 5 .any (Rows.fnExactRedFlagHoursSpec.pre6 enc Try.prog Try.f5 Rows.fnExactRedFlagHoursRow.domain false) (Rows.fnExactRedFlagHoursSpec.post enc Try.prog Try.f5 false true false false) := by
  refine law_lifted (C := Try.checked) own started (by kernel_rfl) Try.func5
    (ChangeSpec.witness6 (enc := enc) (C := Try.checked) false ⟨#[], #[.slice none 0 0, .int .i64 0, .int .i64 0], []⟩ 8 (by kernel_rfl) (by kernel_rfl) (by kernel_rfl) (by kernel_rfl))
    laidOut (of_decide_eq_true (by kernel_rfl)) rfl Try.underlying4 rfl ?_
  intro W base args ds p hval hA
  rw [Try.params5] at hA hval
  obtain ⟨v0, vs0, d0, ds0, p0, q0, hargs, rfl, rfl, h0, r0⟩ := trodAll_cons hA
  obtain ⟨v1, vs1, d1, ds1, p1, q1, rfl, rfl, rfl, h1, r1⟩ := trodAll_cons r0
  obtain ⟨v2, vs2, d2, ds2, p2, q2, rfl, rfl, rfl, h2, r2⟩ := trodAll_cons r1
  obtain ⟨rfl, rfl, rfl⟩ := trodAll_nil r2
  obtain rfl : args = #[v0, v1, v2] := by cases args; simp_all
  obtain ⟨z0, b0⟩ := open_weathers (hval 0 47 v0 rfl rfl) h0
  obtain ⟨a1, rfl, b1⟩ := open_i (hval 1 3 v1 rfl rfl) h1
  obtain ⟨a2, rfl, b2⟩ := open_i (hval 2 3 v2 rfl rfl) h2
  exact ⟨rfl, walk W v0 z0 b0 a1 b1 a2 b2⟩

theorem over : Rows.fnExactRedFlagHoursRow.holds Try.pinned (OpenSpec.ofChange Rows.fnExactRedFlagHoursSpec) :=
  OpenClaim.holds_of_wide 5 Try.f5 rfl rfl rfl rfl rfl rfl rfl ⟨rfl, rfl, rfl, rfl, rfl⟩ rfl rfl rfl rfl rfl (by kernel_rfl) Try.func5 (by kernel_rfl)
    (of_decide_eq_true (by kernel_rfl)) (by unfold Func.isWrapper; first | (rw [if_pos (by decide +kernel)]; kernel_rfl) | (rw [if_neg (by decide +kernel)]; exact ⟨rfl, rfl⟩))
    (fun os started H enc _ => lifted os started H enc)

theorem proved : Rows.FnExactRedFlagHoursSaid := over
#print axioms proved
end Go.Proofs.Ytefampjmbjbhcaa.lRedFlagHours
