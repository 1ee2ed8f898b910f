/- FnExactRegionPicture returns true for all arguments: the program's RegionPicture answers as the reference's, leaves its arguments, and its result is new memory. Conditions: none. -/
import Derived.Test.YtjobjdmheocheaaPicR
import Derived.Test.YtjobjdmheocheaaOpen
import Derived.Deep.RegionWith
namespace Go.Proofs.Ytjobjdmheocheaa.lRegionPicture
open Go.ChangeShapes Go.WideShapes Go.ChangeAt Go.RowKit
set_option linter.unusedVariables false
set_option linter.unusedSimpArgs false
set_option maxRecDepth 100000


set_option maxHeartbeats 4000000 in
theorem walk (w : World) (x0 y0 : Int) (v0 : Value) (z0 : List Int) (k0 : I64 x0 ∧ I64 y0 ∧ Sl w 1 v0 z0.length (z0.map (Value.int .i64)) ∧ ∀ z ∈ z0, I64 z) (v1 : Value) (z1 : List Int) (k1 : Sl w 1 v1 z1.length (z1.map (Value.int .i64)) ∧ ∀ z ∈ z1, I64 z) :
    Calls Try.prog 9 #[.agg #[.int .i64 x0, .int .i64 y0, v0], v1] w fun e w' => e = .returned (.bool true) ∧ Below w.heap.size w w' := by
  have hw0 : Below w.heap.size w (w.alloc (.cells #[.int .i64 x0, .int .i64 y0, v0] 24)) := grow_alloc _ _
  have hb : Below (w.alloc (.cells #[.int .i64 x0, .int .i64 y0, v0] 24)).heap.size (w.alloc (.cells #[.int .i64 x0, .int .i64 y0, v0] 24)) (w.alloc (.cells #[.int .i64 x0, .int .i64 y0, v0] 24)) := Below.refl _ _
  have hc := (bcell hb).1
  have m0 := k0.2.2.1.len
  have m1 := k1.1.len
  unfold maxLen at m0 m1
  obtain ⟨A1, c1, hv1⟩ := k1.1.val
  by_cases q0 : z1.length ≤ 1048576
  case neg =>
    subst hv1
    go_enter Try.func9, Try.ntmps9
    go_wp2
    go_ret
    exact ⟨rfl, grow_trans hw0 hb⟩
  by_cases q1 : z0.length ≤ 1048576
  case neg =>
    subst hv1
    go_enter Try.func9, Try.ntmps9
    go_wp2_with fail
    with_reducible refine (szTerrain_no _ _ _ (1048576 : Int) _ _ _ (k0.2.2.1.below (grow_trans hw0 hb)) (by omega) (by omega) (by omega)).mono ?_
    rintro e w1 ⟨rfl, hb1⟩
    replace hb := grow_trans hb hb1
    replace hc := (bcell hb).1
    go_wp2
    go_ret
    exact ⟨rfl, grow_trans hw0 hb⟩
  have hs := fun (W : World) (u0 : Value) (e0 : Sl W 1 u0 z0.length (ints z0)) (u1 : Value) (e1 : Sl W 1 u1 z1.length (ints z1)) => sRegionPicture_any x0 y0 u0 z0 u1 z1 W e0 e1
  have hi := fun (W : World) (u0 : Value) (e0 : Sl W 1 u0 z0.length (ints z0)) (u1 : Value) (e1 : Sl W 1 u1 z1.length (ints z1)) => RegionPicture_any x0 y0 u0 z0 u1 z1 W e0 e1
  generalize hR0 : strR (oneB x0 y0 z0 z1) (pic x0 (regF z1) z0.length) = R at hs hi
  have hR : ∃ m b, R = .tuple #[.string m, .bool b] := by rw [← hR0]; exact strR_shape _ _
  clear hR0
  obtain ⟨m, b, rfl⟩ := hR
  have Hs := Lib.hid hs
  have Hi := Lib.hid hi
  clear hs hi
  subst hv1
  go_enter Try.func9, Try.ntmps9
  go_wp2_with fail
  with_reducible refine (szTerrain_ok _ _ _ (1048576 : Int) _ _ _ (k0.2.2.1.below (grow_trans hw0 hb)) (by omega) (by omega) (by omega)).mono ?_
  rintro e w1 ⟨rfl, hb1⟩
  replace hb := grow_trans hb hb1
  replace hc := (bcell hb).1
  go_wp2_with fail
  with_reducible refine (toTerrain_any x0 y0 v0 z0 _ (k0.2.2.1.below (grow_trans hw0 hb)) (by omega)).mono ?_
  rintro e w2 ⟨cg0, rfl, ocg0, hb2⟩
  replace hb := grow_trans hb hb2
  replace hc := (bcell hb).1
  go_wp2_with fail
  with_reducible refine (toIntS_any _ z1 _ (k1.1.below (grow_trans hw0 hb)) (by omega)).mono ?_
  rintro e w3 ⟨cg1, rfl, ocg1, hb3⟩
  replace ocg0 := own_below ocg0 hb3
  replace hb := grow_trans hb hb3
  replace hc := (bcell hb).1
  go_wp2_with fail
  with_reducible refine (Hs.out _ cg0 (Sl.of_own ocg0) cg1 (Sl.of_own ocg1)).mono ?_
  rintro e w4 ⟨rfl, hb4⟩
  replace ocg0 := own_below ocg0 hb4
  replace ocg1 := own_below ocg1 hb4
  replace hb := grow_trans hb hb4
  replace hc := (bcell hb).1
  go_wp2_with fail
  with_reducible refine (toTerrain_any x0 y0 v0 z0 _ (k0.2.2.1.below (grow_trans hw0 hb)) (by omega)).mono ?_
  rintro e w5 ⟨cx0, rfl, ocx0, hb5⟩
  replace ocg0 := own_below ocg0 hb5
  replace ocg1 := own_below ocg1 hb5
  replace hb := grow_trans hb hb5
  replace hc := (bcell hb).1
  obtain ⟨E0, c0, rfl, _⟩ := own_form ocx0
  replace ocg0 := own_below ocg0 (grow_alloc w5 (.cells #[.int .i64 x0, .int .i64 y0, .slice E0 z0.length c0] 28))
  replace ocg1 := own_below ocg1 (grow_alloc w5 (.cells #[.int .i64 x0, .int .i64 y0, .slice E0 z0.length c0] 28))
  replace ocx0 := own_below ocx0 (grow_alloc w5 (.cells #[.int .i64 x0, .int .i64 y0, .slice E0 z0.length c0] 28))
  replace hb := grow_trans hb (grow_alloc w5 (.cells #[.int .i64 x0, .int .i64 y0, .slice E0 z0.length c0] 28))
  have hbx0 : Below (w5.alloc (.cells #[.int .i64 x0, .int .i64 y0, .slice E0 z0.length c0] 28)).heap.size (w5.alloc (.cells #[.int .i64 x0, .int .i64 y0, .slice E0 z0.length c0] 28)) (w5.alloc (.cells #[.int .i64 x0, .int .i64 y0, .slice E0 z0.length c0] 28)) := Below.refl _ _
  have hcx0 := (bcell hbx0).1
  replace hc := (bcell hb).1
  go_wp2_with fail
  with_reducible refine (toIntS_any _ z1 _ (k1.1.below (grow_trans hw0 hb)) (by omega)).mono ?_
  rintro e w6 ⟨cx1, rfl, ocx1, hb6⟩
  replace ocg0 := own_below ocg0 hb6
  replace ocg1 := own_below ocg1 hb6
  replace ocx0 := own_below ocx0 hb6
  replace hb := grow_trans hb hb6
  replace hbx0 := grow_trans hbx0 hb6
  replace hcx0 := (bcell hbx0).1
  replace hc := (bcell hb).1
  go_wp2_with fail
  with_reducible refine (Hi.out _ _ (Sl.of_own ocx0) cx1 (Sl.of_own ocx1)).mono ?_
  rintro e w7 ⟨rfl, hb7⟩
  replace ocg0 := own_below ocg0 hb7
  replace ocg1 := own_below ocg1 hb7
  replace ocx0 := own_below ocx0 hb7
  replace ocx1 := own_below ocx1 hb7
  replace hb := grow_trans hb hb7
  replace hbx0 := grow_trans hbx0 hb7
  replace hcx0 := (bcell hbx0).1
  replace hc := (bcell hb).1
  replace ocg0 := own_below ocg0 (grow_drew w7)
  replace ocg1 := own_below ocg1 (grow_drew w7)
  replace ocx0 := own_below ocx0 (grow_drew w7)
  replace ocx1 := own_below ocx1 (grow_drew w7)
  replace hbx0 := grow_trans hbx0 (grow_drew w7)
  replace hcx0 := (bcell hbx0).1
  replace hb := grow_trans hb (grow_drew w7)
  replace hc := (bcell hb).1
  go_wp2_with fail
  go_region_with (first | (go_at_call 17; with_reducible refine (toTerrain_any x0 y0 v0 z0 _ (k0.2.2.1.below (grow_trans hw0 hb)) (by omega)).mono ?_; intro e w8 hr8; unfold RetTerr at hr8; obtain ⟨cy0, rfl, ocy0, hb8⟩ := hr8; replace ocg0 := own_below ocg0 hb8; replace ocg1 := own_below ocg1 hb8; replace ocx0 := own_below ocx0 hb8; replace ocx1 := own_below ocx1 hb8; replace hbx0 := grow_trans hbx0 hb8; replace hcx0 := (bcell hbx0).1; replace hb := grow_trans hb hb8; replace hc := (bcell hb).1) | (go_at_call 21; with_reducible refine (eqTerrain_any x0 y0 _ _ z0 _ (Sl.of_own ocx0) (Sl.of_own ocy0)).mono ?_; rintro e w9 ⟨rfl, hb9⟩; replace ocg0 := own_below ocg0 hb9; replace ocg1 := own_below ocg1 hb9; replace ocx0 := own_below ocx0 hb9; replace ocx1 := own_below ocx1 hb9; replace ocy0 := own_below ocy0 hb9; replace hbx0 := grow_trans hbx0 hb9; replace hcx0 := (bcell hbx0).1; replace hb := grow_trans hb hb9; replace hc := (bcell hb).1))
  all_goals
    go_wp2_with fail
    with_reducible refine (toIntS_any _ z1 _ (k1.1.below (grow_trans hw0 hb)) (by omega)).mono ?_
    rintro e w10 ⟨cy1, rfl, ocy1, hb10⟩
    replace ocg0 := own_below ocg0 hb10
    replace ocg1 := own_below ocg1 hb10
    replace ocx0 := own_below ocx0 hb10
    replace ocx1 := own_below ocx1 hb10
    replace ocy0 := own_below ocy0 hb10
    replace hb := grow_trans hb hb10
    replace hbx0 := grow_trans hbx0 hb10
    replace hcx0 := (bcell hbx0).1
    replace hc := (bcell hb).1
    go_wp2_with fail
    with_reducible refine (eqIntS_any _ _ z1 _ (Sl.of_own ocx1) (Sl.of_own ocy1)).mono ?_
    rintro e w11 ⟨rfl, hb11⟩
    replace ocg0 := own_below ocg0 hb11
    replace ocg1 := own_below ocg1 hb11
    replace ocx0 := own_below ocx0 hb11
    replace ocx1 := own_below ocx1 hb11
    replace ocy0 := own_below ocy0 hb11
    replace ocy1 := own_below ocy1 hb11
    replace hb := grow_trans hb hb11
    replace hbx0 := grow_trans hbx0 hb11
    replace hcx0 := (bcell hbx0).1
    replace hc := (bcell hb).1
    go_wp2
    go_ret
    exact ⟨rfl, grow_trans hw0 hb⟩

/-! the frame: the arguments opened, the row closed -/
set_option maxRecDepth 100000 in
theorem lifted (os : Os) (started : os.Started) (H : Type) (enc : TypeId × Value → H) :
    ReturnsInHanded {} Try.checked os 9 .any (Rows.fnExactRegionPictureSpec.pre6 enc Try.prog Try.f9 Rows.fnExactRegionPictureRow.domain false) (Rows.fnExactRegionPictureSpec.post enc Try.prog Try.f9 false true false false) := by
  refine law_lifted (C := Try.checked) own started (by kernel_rfl) Try.func9
    (ChangeSpec.witness6 (enc := enc) (C := Try.checked) false ⟨#[], #[.agg #[.int .i64 0, .int .i64 0, .slice none 0 0], .slice none 0 0], []⟩ 8 (by kernel_rfl) (by kernel_rfl) (by kernel_rfl) (by kernel_rfl))
    laidOut (of_decide_eq_true (by kernel_rfl)) rfl Try.underlying4 rfl ?_
  intro W base args ds p hval hA
  rw [Try.params9] at hA hval
  obtain ⟨v0, vs0, d0, ds0, p0, q0, hargs, rfl, rfl, h0, r0⟩ := trodAll_cons hA
  obtain ⟨v1, vs1, d1, ds1, p1, q1, rfl, rfl, rfl, h1, r1⟩ := trodAll_cons r0
  obtain ⟨rfl, rfl, rfl⟩ := trodAll_nil r1
  obtain rfl : args = #[v0, v1] := by cases args; simp_all
  obtain ⟨x0, y0, u0, z0, rfl, b0⟩ := open_terrain (hval 0 24 v0 rfl rfl) h0
  obtain ⟨z1, b1⟩ := open_is (hval 1 22 v1 rfl rfl) h1
  exact ⟨rfl, walk W x0 y0 u0 z0 b0 v1 z1 b1⟩

theorem over : Rows.fnExactRegionPictureRow.holds Try.pinned (OpenSpec.ofChange Rows.fnExactRegionPictureSpec) :=
  OpenClaim.holds_of_wide 9 Try.f9 rfl rfl rfl rfl rfl rfl rfl ⟨rfl, rfl, rfl, rfl, rfl⟩ rfl rfl rfl rfl rfl (by kernel_rfl) Try.func9 (by kernel_rfl)
    (of_decide_eq_true (by kernel_rfl)) (by unfold Func.isWrapper; first | (rw [if_pos (by decide +kernel)]; kernel_rfl) | (rw [if_neg (by decide +kernel)]; exact ⟨rfl, rfl⟩))
    (fun os started H enc _ => lifted os started H enc)

theorem proved : Rows.FnExactRegionPictureSaid := over
#print axioms proved
end Go.Proofs.Ytjobjdmheocheaa.lRegionPicture
