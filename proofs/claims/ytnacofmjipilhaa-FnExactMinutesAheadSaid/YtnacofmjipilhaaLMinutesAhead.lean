/- FnExactMinutesAhead returns true for all arguments: the program's MinutesAhead answers as the reference's, leaves its arguments, and its result is new memory. Conditions: none. -/
import Derived.Test.YtnacofmjipilhaaArr6
import Derived.Test.YtnacofmjipilhaaOpen
import Derived.Deep.RegionWith
namespace Go.Proofs.Ytnacofmjipilhaa.lMinutesAhead
open Go.ChangeShapes Go.WideShapes Go.ChangeAt Go.RowKit
set_option linter.unusedVariables false
set_option linter.unusedSimpArgs false
set_option maxRecDepth 100000


set_option maxHeartbeats 4000000 in
theorem walk (w : World) (x0 y0 : Int) (v0 : Value) (z0 : List Int) (k0 : I64 x0 ∧ I64 y0 ∧ Sl w 1 v0 z0.length (z0.map (Value.int .i64)) ∧ ∀ z ∈ z0, I64 z) (v1 : Value) (z1 : List (Int × Int)) (k1 : Sl w 2 v1 z1.length (phs z1)) (v2 : Value) (z2 : List Int) (k2 : Sl w 1 v2 z2.length (z2.map (Value.int .i64)) ∧ ∀ z ∈ z2, I64 z) (a3 : Int) (k3 : I64 a3) (v4 : Value) (z4 : List Int) (k4 : Sl w 1 v4 z4.length (z4.map (Value.int .i64)) ∧ ∀ z ∈ z4, I64 z) :
    Calls Try.prog 7 #[.agg #[.int .i64 x0, .int .i64 y0, v0], v1, v2, .int .i64 a3, v4] w fun e w' => e = .returned (.bool true) ∧ Below w.heap.size w w' := by
  have hw0 : Below w.heap.size w (w.alloc (.cells #[.int .i64 x0, .int .i64 y0, v0] 74)) := grow_alloc _ _
  have hb : Below (w.alloc (.cells #[.int .i64 x0, .int .i64 y0, v0] 74)).heap.size (w.alloc (.cells #[.int .i64 x0, .int .i64 y0, v0] 74)) (w.alloc (.cells #[.int .i64 x0, .int .i64 y0, v0] 74)) := Below.refl _ _
  have hc := (bcell hb).1
  have m0 := k0.2.2.1.len
  have m1 := k1.len
  have m2 := k2.1.len
  have m4 := k4.1.len
  unfold maxLen at m0 m1 m2 m4
  obtain ⟨A2, c2, hv2⟩ := k2.1.val
  obtain ⟨A4, c4, hv4⟩ := k4.1.val
  by_cases q0 : z2.length ≤ 1048576
  case neg =>
    subst hv2
    subst hv4
    go_enter Try.func7, Try.ntmps7
    go_wp2
    go_ret
    exact ⟨rfl, grow_trans hw0 hb⟩
  by_cases q1 : z4.length ≤ 1048576
  case neg =>
    subst hv2
    subst hv4
    go_enter Try.func7, Try.ntmps7
    go_wp2
    go_ret
    exact ⟨rfl, grow_trans hw0 hb⟩
  by_cases q2 : z0.length ≤ 1048576
  case neg =>
    subst hv2
    subst hv4
    go_enter Try.func7, Try.ntmps7
    go_wp2_with fail
    with_reducible refine (szTerrain_no _ _ _ (1048576 : Int) _ _ _ (k0.2.2.1.below (grow_trans hw0 hb)) (by omega) (by omega) (by omega)).mono ?_
    rintro e w1 ⟨rfl, hb1⟩
    replace hb := grow_trans hb hb1
    replace hc := (bcell hb).1
    go_wp2
    go_ret
    exact ⟨rfl, grow_trans hw0 hb⟩
  by_cases q3 : z0.length + z1.length ≤ 1048576
  case neg =>
    subst hv2
    subst hv4
    go_enter Try.func7, Try.ntmps7
    go_wp2_with fail
    with_reducible refine (szTerrain_ok _ _ _ (1048576 : Int) _ _ _ (k0.2.2.1.below (grow_trans hw0 hb)) (by omega) (by omega) (by omega)).mono ?_
    rintro e w1 ⟨rfl, hb1⟩
    replace hb := grow_trans hb hb1
    replace hc := (bcell hb).1
    go_wp2_with fail
    with_reducible refine (szPhaseS_no _ (1048576 - ((z0.length : Nat) : Int) : Int) _ _ _ (k1.below (grow_trans hw0 hb)) (by omega) (by omega) (by omega)).mono ?_
    rintro e w2 ⟨rfl, hb2⟩
    replace hb := grow_trans hb hb2
    replace hc := (bcell hb).1
    go_wp2
    go_ret
    exact ⟨rfl, grow_trans hw0 hb⟩
  have hs := fun (W : World) (u0 : Value) (e0 : Sl W 1 u0 z0.length (ints z0)) (u1 : Value) (e1 : Sl W 2 u1 z1.length (phs z1)) (u2 : Value) (e2 : Sl W 1 u2 z2.length (ints z2)) (u4 : Value) (e4 : Sl W 1 u4 z4.length (ints z4)) => sMinutesAhead_any x0 y0 u0 z0 u1 z1 u2 z2 a3 u4 z4 W e0 e1 e2 e4 q0
  have hi := fun (W : World) (u0 : Value) (e0 : Sl W 1 u0 z0.length (ints z0)) (u1 : Value) (e1 : Sl W 2 u1 z1.length (phs z1)) (u2 : Value) (e2 : Sl W 1 u2 z2.length (ints z2)) (u4 : Value) (e4 : Sl W 1 u4 z4.length (ints z4)) => MinutesAhead_any x0 y0 u0 z0 u1 z1 u2 z2 a3 u4 z4 W e0 e1 e2 e4 q0
  generalize hR0 : minR x0 y0 z0 z1 z2 a3 z4 = R at hs hi
  have hR : ∃ m b, R = .tuple #[.int .i64 m, .bool b] := by rw [← hR0]; exact by unfold minR; exact okR_shape _ _
  clear hR0
  obtain ⟨m, b, rfl⟩ := hR
  have Hs := Lib.hid hs
  have Hi := Lib.hid hi
  clear hs hi
  subst hv2
  subst hv4
  go_enter Try.func7, Try.ntmps7
  go_wp2_with fail
  with_reducible refine (szTerrain_ok _ _ _ (1048576 : Int) _ _ _ (k0.2.2.1.below (grow_trans hw0 hb)) (by omega) (by omega) (by omega)).mono ?_
  rintro e w1 ⟨rfl, hb1⟩
  replace hb := grow_trans hb hb1
  replace hc := (bcell hb).1
  go_wp2_with fail
  with_reducible refine (szPhaseS_ok _ (1048576 - ((z0.length : Nat) : Int) : Int) _ _ _ (k1.below (grow_trans hw0 hb)) (by omega) (by omega) (by omega)).mono ?_
  rintro e w2 ⟨rfl, hb2⟩
  replace hb := grow_trans hb hb2
  replace hc := (bcell hb).1
  go_wp2_with fail
  with_reducible refine (toTerrain_any x0 y0 v0 z0 _ (k0.2.2.1.below (grow_trans hw0 hb)) (by omega)).mono ?_
  rintro e w3 ⟨cg0, rfl, ocg0, hb3⟩
  replace hb := grow_trans hb hb3
  replace hc := (bcell hb).1
  go_wp2_with fail
  with_reducible refine (toPhaseS_any _ z1 _ (k1.below (grow_trans hw0 hb)) (by omega)).mono ?_
  rintro e w4 ⟨cg1, rfl, ocg1, hb4⟩
  replace ocg0 := own_below ocg0 hb4
  replace hb := grow_trans hb hb4
  replace hc := (bcell hb).1
  go_wp2_with fail
  with_reducible refine (toIntS_any _ z2 _ (k2.1.below (grow_trans hw0 hb)) (by omega)).mono ?_
  rintro e w5 ⟨cg2, rfl, ocg2, hb5⟩
  replace ocg0 := own_below ocg0 hb5
  replace ocg1 := own_below ocg1 hb5
  replace hb := grow_trans hb hb5
  replace hc := (bcell hb).1
  go_wp2_with fail
  with_reducible refine (toIntS_any _ z4 _ (k4.1.below (grow_trans hw0 hb)) (by omega)).mono ?_
  rintro e w6 ⟨cg4, rfl, ocg4, hb6⟩
  replace ocg0 := own_below ocg0 hb6
  replace ocg1 := own_below ocg1 hb6
  replace ocg2 := own_below ocg2 hb6
  replace hb := grow_trans hb hb6
  replace hc := (bcell hb).1
  go_wp2_with fail
  with_reducible refine (Hs.out _ cg0 (Sl.of_own ocg0) cg1 (Sl.of_own ocg1) cg2 (Sl.of_own ocg2) cg4 (Sl.of_own ocg4)).mono ?_
  rintro e w7 ⟨rfl, hb7⟩
  replace ocg0 := own_below ocg0 hb7
  replace ocg1 := own_below ocg1 hb7
  replace ocg2 := own_below ocg2 hb7
  replace ocg4 := own_below ocg4 hb7
  replace hb := grow_trans hb hb7
  replace hc := (bcell hb).1
  go_wp2_with fail
  with_reducible refine (toTerrain_any x0 y0 v0 z0 _ (k0.2.2.1.below (grow_trans hw0 hb)) (by omega)).mono ?_
  rintro e w8 ⟨cx0, rfl, ocx0, hb8⟩
  replace ocg0 := own_below ocg0 hb8
  replace ocg1 := own_below ocg1 hb8
  replace ocg2 := own_below ocg2 hb8
  replace ocg4 := own_below ocg4 hb8
  replace hb := grow_trans hb hb8
  replace hc := (bcell hb).1
  obtain ⟨E0, c0, rfl, _⟩ := own_form ocx0
  replace ocg0 := own_below ocg0 (grow_alloc w8 (.cells #[.int .i64 x0, .int .i64 y0, .slice E0 z0.length c0] 79))
  replace ocg1 := own_below ocg1 (grow_alloc w8 (.cells #[.int .i64 x0, .int .i64 y0, .slice E0 z0.length c0] 79))
  replace ocg2 := own_below ocg2 (grow_alloc w8 (.cells #[.int .i64 x0, .int .i64 y0, .slice E0 z0.length c0] 79))
  replace ocg4 := own_below ocg4 (grow_alloc w8 (.cells #[.int .i64 x0, .int .i64 y0, .slice E0 z0.length c0] 79))
  replace ocx0 := own_below ocx0 (grow_alloc w8 (.cells #[.int .i64 x0, .int .i64 y0, .slice E0 z0.length c0] 79))
  replace hb := grow_trans hb (grow_alloc w8 (.cells #[.int .i64 x0, .int .i64 y0, .slice E0 z0.length c0] 79))
  have hbx0 : Below (w8.alloc (.cells #[.int .i64 x0, .int .i64 y0, .slice E0 z0.length c0] 79)).heap.size (w8.alloc (.cells #[.int .i64 x0, .int .i64 y0, .slice E0 z0.length c0] 79)) (w8.alloc (.cells #[.int .i64 x0, .int .i64 y0, .slice E0 z0.length c0] 79)) := Below.refl _ _
  have hcx0 := (bcell hbx0).1
  replace hc := (bcell hb).1
  go_wp2_with fail
  with_reducible refine (toPhaseS_any _ z1 _ (k1.below (grow_trans hw0 hb)) (by omega)).mono ?_
  rintro e w9 ⟨cx1, rfl, ocx1, hb9⟩
  replace ocg0 := own_below ocg0 hb9
  replace ocg1 := own_below ocg1 hb9
  replace ocg2 := own_below ocg2 hb9
  replace ocg4 := own_below ocg4 hb9
  replace ocx0 := own_below ocx0 hb9
  replace hb := grow_trans hb hb9
  replace hbx0 := grow_trans hbx0 hb9
  replace hcx0 := (bcell hbx0).1
  replace hc := (bcell hb).1
  go_wp2_with fail
  with_reducible refine (toIntS_any _ z2 _ (k2.1.below (grow_trans hw0 hb)) (by omega)).mono ?_
  rintro e w10 ⟨cx2, rfl, ocx2, hb10⟩
  replace ocg0 := own_below ocg0 hb10
  replace ocg1 := own_below ocg1 hb10
  replace ocg2 := own_below ocg2 hb10
  replace ocg4 := own_below ocg4 hb10
  replace ocx0 := own_below ocx0 hb10
  replace ocx1 := own_below ocx1 hb10
  replace hb := grow_trans hb hb10
  replace hbx0 := grow_trans hbx0 hb10
  replace hcx0 := (bcell hbx0).1
  replace hc := (bcell hb).1
  go_wp2_with fail
  with_reducible refine (toIntS_any _ z4 _ (k4.1.below (grow_trans hw0 hb)) (by omega)).mono ?_
  rintro e w11 ⟨cx4, rfl, ocx4, hb11⟩
  replace ocg0 := own_below ocg0 hb11
  replace ocg1 := own_below ocg1 hb11
  replace ocg2 := own_below ocg2 hb11
  replace ocg4 := own_below ocg4 hb11
  replace ocx0 := own_below ocx0 hb11
  replace ocx1 := own_below ocx1 hb11
  replace ocx2 := own_below ocx2 hb11
  replace hb := grow_trans hb hb11
  replace hbx0 := grow_trans hbx0 hb11
  replace hcx0 := (bcell hbx0).1
  replace hc := (bcell hb).1
  go_wp2_with fail
  with_reducible refine (Hi.out _ _ (Sl.of_own ocx0) cx1 (Sl.of_own ocx1) cx2 (Sl.of_own ocx2) cx4 (Sl.of_own ocx4)).mono ?_
  rintro e w12 ⟨rfl, hb12⟩
  replace ocg0 := own_below ocg0 hb12
  replace ocg1 := own_below ocg1 hb12
  replace ocg2 := own_below ocg2 hb12
  replace ocg4 := own_below ocg4 hb12
  replace ocx0 := own_below ocx0 hb12
  replace ocx1 := own_below ocx1 hb12
  replace ocx2 := own_below ocx2 hb12
  replace ocx4 := own_below ocx4 hb12
  replace hb := grow_trans hb hb12
  replace hbx0 := grow_trans hbx0 hb12
  replace hcx0 := (bcell hbx0).1
  replace hc := (bcell hb).1
  replace ocg0 := own_below ocg0 (grow_drew w12)
  replace ocg1 := own_below ocg1 (grow_drew w12)
  replace ocg2 := own_below ocg2 (grow_drew w12)
  replace ocg4 := own_below ocg4 (grow_drew w12)
  replace ocx0 := own_below ocx0 (grow_drew w12)
  replace ocx1 := own_below ocx1 (grow_drew w12)
  replace ocx2 := own_below ocx2 (grow_drew w12)
  replace ocx4 := own_below ocx4 (grow_drew w12)
  replace hbx0 := grow_trans hbx0 (grow_drew w12)
  replace hcx0 := (bcell hbx0).1
  replace hb := grow_trans hb (grow_drew w12)
  replace hc := (bcell hb).1
  go_wp2_with fail
  go_region_with (first | (go_at_call 56; with_reducible refine (toTerrain_any x0 y0 v0 z0 _ (k0.2.2.1.below (grow_trans hw0 hb)) (by omega)).mono ?_; intro e w13 hr13; unfold RetTerr at hr13; obtain ⟨cy0, rfl, ocy0, hb13⟩ := hr13; replace ocg0 := own_below ocg0 hb13; replace ocg1 := own_below ocg1 hb13; replace ocg2 := own_below ocg2 hb13; replace ocg4 := own_below ocg4 hb13; replace ocx0 := own_below ocx0 hb13; replace ocx1 := own_below ocx1 hb13; replace ocx2 := own_below ocx2 hb13; replace ocx4 := own_below ocx4 hb13; replace hbx0 := grow_trans hbx0 hb13; replace hcx0 := (bcell hbx0).1; replace hb := grow_trans hb hb13; replace hc := (bcell hb).1) | (go_at_call 60; with_reducible refine (eqTerrain_any x0 y0 _ _ z0 _ (Sl.of_own ocx0) (Sl.of_own ocy0)).mono ?_; rintro e w14 ⟨rfl, hb14⟩; replace ocg0 := own_below ocg0 hb14; replace ocg1 := own_below ocg1 hb14; replace ocg2 := own_below ocg2 hb14; replace ocg4 := own_below ocg4 hb14; replace ocx0 := own_below ocx0 hb14; replace ocx1 := own_below ocx1 hb14; replace ocx2 := own_below ocx2 hb14; replace ocx4 := own_below ocx4 hb14; replace ocy0 := own_below ocy0 hb14; replace hbx0 := grow_trans hbx0 hb14; replace hcx0 := (bcell hbx0).1; replace hb := grow_trans hb hb14; replace hc := (bcell hb).1))
  all_goals
    go_wp2_with fail
    with_reducible refine (toPhaseS_any _ z1 _ (k1.below (grow_trans hw0 hb)) (by omega)).mono ?_
    rintro e w15 ⟨cy1, rfl, ocy1, hb15⟩
    replace ocg0 := own_below ocg0 hb15
    replace ocg1 := own_below ocg1 hb15
    replace ocg2 := own_below ocg2 hb15
    replace ocg4 := own_below ocg4 hb15
    replace ocx0 := own_below ocx0 hb15
    replace ocx1 := own_below ocx1 hb15
    replace ocx2 := own_below ocx2 hb15
    replace ocx4 := own_below ocx4 hb15
    replace ocy0 := own_below ocy0 hb15
    replace hb := grow_trans hb hb15
    replace hbx0 := grow_trans hbx0 hb15
    replace hcx0 := (bcell hbx0).1
    replace hc := (bcell hb).1
    go_wp2_with fail
    with_reducible refine (eqPhaseS_any _ _ z1 _ (Sl.of_own ocx1) (Sl.of_own ocy1)).mono ?_
    rintro e w16 ⟨rfl, hb16⟩
    replace ocg0 := own_below ocg0 hb16
    replace ocg1 := own_below ocg1 hb16
    replace ocg2 := own_below ocg2 hb16
    replace ocg4 := own_below ocg4 hb16
    replace ocx0 := own_below ocx0 hb16
    replace ocx1 := own_below ocx1 hb16
    replace ocx2 := own_below ocx2 hb16
    replace ocx4 := own_below ocx4 hb16
    replace ocy0 := own_below ocy0 hb16
    replace ocy1 := own_below ocy1 hb16
    replace hb := grow_trans hb hb16
    replace hbx0 := grow_trans hbx0 hb16
    replace hcx0 := (bcell hbx0).1
    replace hc := (bcell hb).1
    go_wp2_with fail
    with_reducible refine (toIntS_any _ z2 _ (k2.1.below (grow_trans hw0 hb)) (by omega)).mono ?_
    rintro e w17 ⟨cy2, rfl, ocy2, hb17⟩
    replace ocg0 := own_below ocg0 hb17
    replace ocg1 := own_below ocg1 hb17
    replace ocg2 := own_below ocg2 hb17
    replace ocg4 := own_below ocg4 hb17
    replace ocx0 := own_below ocx0 hb17
    replace ocx1 := own_below ocx1 hb17
    replace ocx2 := own_below ocx2 hb17
    replace ocx4 := own_below ocx4 hb17
    replace ocy0 := own_below ocy0 hb17
    replace ocy1 := own_below ocy1 hb17
    replace hb := grow_trans hb hb17
    replace hbx0 := grow_trans hbx0 hb17
    replace hcx0 := (bcell hbx0).1
    replace hc := (bcell hb).1
    go_wp2_with fail
    with_reducible refine (eqIntS_any _ _ z2 _ (Sl.of_own ocx2) (Sl.of_own ocy2)).mono ?_
    rintro e w18 ⟨rfl, hb18⟩
    replace ocg0 := own_below ocg0 hb18
    replace ocg1 := own_below ocg1 hb18
    replace ocg2 := own_below ocg2 hb18
    replace ocg4 := own_below ocg4 hb18
    replace ocx0 := own_below ocx0 hb18
    replace ocx1 := own_below ocx1 hb18
    replace ocx2 := own_below ocx2 hb18
    replace ocx4 := own_below ocx4 hb18
    replace ocy0 := own_below ocy0 hb18
    replace ocy1 := own_below ocy1 hb18
    replace ocy2 := own_below ocy2 hb18
    replace hb := grow_trans hb hb18
    replace hbx0 := grow_trans hbx0 hb18
    replace hcx0 := (bcell hbx0).1
    replace hc := (bcell hb).1
    go_wp2_with fail
    with_reducible refine (toIntS_any _ z4 _ (k4.1.below (grow_trans hw0 hb)) (by omega)).mono ?_
    rintro e w19 ⟨cy4, rfl, ocy4, hb19⟩
    replace ocg0 := own_below ocg0 hb19
    replace ocg1 := own_below ocg1 hb19
    replace ocg2 := own_below ocg2 hb19
    replace ocg4 := own_below ocg4 hb19
    replace ocx0 := own_below ocx0 hb19
    replace ocx1 := own_below ocx1 hb19
    replace ocx2 := own_below ocx2 hb19
    replace ocx4 := own_below ocx4 hb19
    replace ocy0 := own_below ocy0 hb19
    replace ocy1 := own_below ocy1 hb19
    replace ocy2 := own_below ocy2 hb19
    replace hb := grow_trans hb hb19
    replace hbx0 := grow_trans hbx0 hb19
    replace hcx0 := (bcell hbx0).1
    replace hc := (bcell hb).1
    go_wp2_with fail
    with_reducible refine (eqIntS_any _ _ z4 _ (Sl.of_own ocx4) (Sl.of_own ocy4)).mono ?_
    rintro e w20 ⟨rfl, hb20⟩
    replace ocg0 := own_below ocg0 hb20
    replace ocg1 := own_below ocg1 hb20
    replace ocg2 := own_below ocg2 hb20
    replace ocg4 := own_below ocg4 hb20
    replace ocx0 := own_below ocx0 hb20
    replace ocx1 := own_below ocx1 hb20
    replace ocx2 := own_below ocx2 hb20
    replace ocx4 := own_below ocx4 hb20
    replace ocy0 := own_below ocy0 hb20
    replace ocy1 := own_below ocy1 hb20
    replace ocy2 := own_below ocy2 hb20
    replace ocy4 := own_below ocy4 hb20
    replace hb := grow_trans hb hb20
    replace hbx0 := grow_trans hbx0 hb20
    replace hcx0 := (bcell hbx0).1
    replace hc := (bcell hb).1
    go_wp2
    go_ret
    exact ⟨rfl, grow_trans hw0 hb⟩

/-! the frame: the arguments opened, the row closed -/
set_option maxRecDepth 100000 in
theorem lifted (os : Os) (started : os.Started) (H : Type) (enc : TypeId × Value → H) :
    ReturnsInHanded {} Try.checked os 7 .any (Rows.fnExactMinutesAheadSpec.pre6 enc Try.prog Try.f7 Rows.fnExactMinutesAheadRow.domain false) (Rows.fnExactMinutesAheadSpec.post enc Try.prog Try.f7 false true false false) := by
  refine law_lifted (C := Try.checked) own started (by kernel_rfl) Try.func7
    (ChangeSpec.witness6 (enc := enc) (C := Try.checked) false ⟨#[], #[.agg #[.int .i64 0, .int .i64 0, .slice none 0 0], .slice none 0 0, .slice none 0 0, .int .i64 0, .slice none 0 0], []⟩ 8 (by kernel_rfl) (by kernel_rfl) (by kernel_rfl) (by kernel_rfl))
    laidOut (of_decide_eq_true (by kernel_rfl)) rfl Try.underlying4 rfl ?_
  intro W base args ds p hval hA
  rw [Try.params7] at hA hval
  obtain ⟨v0, vs0, d0, ds0, p0, q0, hargs, rfl, rfl, h0, r0⟩ := trodAll_cons hA
  obtain ⟨v1, vs1, d1, ds1, p1, q1, rfl, rfl, rfl, h1, r1⟩ := trodAll_cons r0
  obtain ⟨v2, vs2, d2, ds2, p2, q2, rfl, rfl, rfl, h2, r2⟩ := trodAll_cons r1
  obtain ⟨v3, vs3, d3, ds3, p3, q3, rfl, rfl, rfl, h3, r3⟩ := trodAll_cons r2
  obtain ⟨v4, vs4, d4, ds4, p4, q4, rfl, rfl, rfl, h4, r4⟩ := trodAll_cons r3
  obtain ⟨rfl, rfl, rfl⟩ := trodAll_nil r4
  obtain rfl : args = #[v0, v1, v2, v3, v4] := by cases args; simp_all
  obtain ⟨x0, y0, u0, z0, rfl, b0⟩ := open_terrain (hval 0 74 v0 rfl rfl) h0
  obtain ⟨z1, b1⟩ := open_phases (hval 1 75 v1 rfl rfl) h1
  obtain ⟨z2, b2⟩ := open_is (hval 2 67 v2 rfl rfl) h2
  obtain ⟨a3, rfl, b3⟩ := open_i (hval 3 3 v3 rfl rfl) h3
  obtain ⟨z4, b4⟩ := open_is (hval 4 67 v4 rfl rfl) h4
  exact ⟨rfl, walk W x0 y0 u0 z0 b0 v1 z1 b1 v2 z2 b2 a3 b3 v4 z4 b4⟩

theorem over : Rows.fnExactMinutesAheadRow.holds Try.pinned (OpenSpec.ofChange Rows.fnExactMinutesAheadSpec) :=
  OpenClaim.holds_of_wide 7 Try.f7 rfl rfl rfl rfl rfl rfl rfl ⟨rfl, rfl, rfl, rfl, rfl⟩ rfl rfl rfl rfl rfl (by kernel_rfl) Try.func7 (by kernel_rfl)
    (of_decide_eq_true (by kernel_rfl)) (by unfold Func.isWrapper; first | (rw [if_pos (by decide +kernel)]; kernel_rfl) | (rw [if_neg (by decide +kernel)]; exact ⟨rfl, rfl⟩))
    (fun os started H enc _ => lifted os started H enc)

theorem proved : Rows.FnExactMinutesAheadSaid := over
#print axioms proved
end Go.Proofs.Ytnacofmjipilhaa.lMinutesAhead
