/- FnExactFillRegion returns true for all arguments: the program's FillRegion answers as the reference's, leaves its arguments, and its result is new memory. Conditions: none. -/
import Derived.Test.YtefampjmbjbhcaaFill2
import Derived.Test.YtefampjmbjbhcaaOpen
import Derived.Deep.RegionWith
namespace Go.Proofs.Ytefampjmbjbhcaa.lFillRegion
open Go.ChangeShapes Go.WideShapes Go.ChangeAt Go.RowKit
set_option linter.unusedVariables false
set_option linter.unusedSimpArgs false
set_option maxRecDepth 100000


set_option maxHeartbeats 4000000 in
theorem walk (w : World) (x0 y0 : Int) (v0 : Value) (z0 : List Int) (k0 : I64 x0 ∧ I64 y0 ∧ Sl w 1 v0 z0.length (z0.map (Value.int .i64)) ∧ ∀ z ∈ z0, I64 z) (v1 : Value) (z1 : List Int) (k1 : Sl w 1 v1 z1.length (z1.map (Value.int .i64)) ∧ ∀ z ∈ z1, I64 z) :
    Calls Try.prog 3 #[.agg #[.int .i64 x0, .int .i64 y0, v0], v1] w fun e w' => e = .returned (.bool true) ∧ Below w.heap.size w w' := by
  have hw0 : Below w.heap.size w (w.alloc (.cells #[.int .i64 x0, .int .i64 y0, v0] 24)) := grow_alloc _ _
  have hb : Below (w.alloc (.cells #[.int .i64 x0, .int .i64 y0, v0] 24)).heap.size (w.alloc (.cells #[.int .i64 x0, .int .i64 y0, v0] 24)) (w.alloc (.cells #[.int .i64 x0, .int .i64 y0, v0] 24)) := Below.refl _ _
  have hc := (bcell hb).1
  have m0 := k0.2.2.1.len
  have m1 := k1.1.len
  unfold maxLen at m0 m1
  obtain ⟨A1, c1, hv1⟩ := k1.1.val
  by_cases q0 : z1.length ≤ 1048576
  case neg =>
    subst hv1
    go_enter Try.func3, Try.ntmps3
    go_wp2
    go_ret
    exact ⟨rfl, grow_trans hw0 hb⟩
  by_cases q1 : z0.length ≤ 1048576
  case neg =>
    subst hv1
    go_enter Try.func3, Try.ntmps3
    go_wp2_with fail
    with_reducible refine (szTerrain_no _ _ _ (1048576 : Int) _ _ _ (k0.2.2.1.below (grow_trans hw0 hb)) (by omega) (by omega) (by omega)).mono ?_
    rintro e w1 ⟨rfl, hb1⟩
    replace hb := grow_trans hb hb1
    replace hc := (bcell hb).1
    go_wp2
    go_ret
    exact ⟨rfl, grow_trans hw0 hb⟩
  have hs := fun (W : World) (u0 : Value) (e0 : Sl W 1 u0 z0.length (ints z0)) (u1 : Value) (e1 : Sl W 1 u1 z1.length (ints z1)) => sFillRegion_any x0 y0 u0 z0 u1 z1 W e0 e1
  have hi := fun (W : World) (u0 : Value) (e0 : Sl W 1 u0 z0.length (ints z0)) (u1 : Value) (e1 : Sl W 1 u1 z1.length (ints z1)) => FillRegion_any x0 y0 u0 z0 u1 z1 W e0 e1
  have hlen : (selR (oneB x0 y0 z0 z1) (fillL x0 y0 z0.length z1)).length ≤ 1048576 := by unfold selR; split; exact Nat.le_trans (fillL_le _ _ _ _) (by omega); simp
  generalize selR (oneB x0 y0 z0 z1) (fillL x0 y0 z0.length z1) = rs at hs hi hlen
  generalize (oneB x0 y0 z0 z1) = ok at hs hi
  have Hs := Lib.hid hs
  have Hi := Lib.hid hi
  clear hs hi
  subst hv1
  go_enter Try.func3, Try.ntmps3
  go_wp2_with fail
  with_reducible refine (szTerrain_ok _ _ _ (1048576 : Int) _ _ _ (k0.2.2.1.below (grow_trans hw0 hb)) (by omega) (by omega) (by omega)).mono ?_
  rintro e w1 ⟨rfl, hb1⟩
  replace hb := grow_trans hb hb1
  replace hc := (bcell hb).1
  go_wp2_with fail
  with_reducible refine (toTerrain_any x0 y0 v0 z0 _ (k0.2.2.1.below (grow_trans hw0 hb)) (by omega)).mono ?_
  rintro e w2 ⟨cg0, rfl, ocg0, hb2⟩
  replace hb := grow_trans hb hb2
  replace hc := (bcell hb).1
  go_wp2_with fail
  with_reducible refine (toIntS_any _ z1 _ (k1.1.below (grow_trans hw0 hb)) (by omega)).mono ?_
  rintro e w3 ⟨cg1, rfl, ocg1, hb3⟩
  replace ocg0 := own_below ocg0 hb3
  replace hb := grow_trans hb hb3
  replace hc := (bcell hb).1
  have srw0 := Lib.hid hb.size
  go_wp2_with fail
  with_reducible refine (Hs.out _ cg0 (Sl.of_own ocg0) cg1 (Sl.of_own ocg1)).mono ?_
  rintro e w4 ⟨rw0, rfl, orw0, hb4⟩
  replace ocg0 := own_below ocg0 hb4
  replace ocg1 := own_below ocg1 hb4
  replace hb := grow_trans hb hb4
  replace hc := (bcell hb).1
  have lrw0 := Lib.hid orw0.lt
  have hArw0 : Below w4.heap.size w4 w4 := Below.refl _ _
  have scx0 := Lib.hid hb.size
  have srw0cx0 := Lib.hid hArw0.size
  go_wp2_with fail
  with_reducible refine (toTerrain_any x0 y0 v0 z0 _ (k0.2.2.1.below (grow_trans hw0 hb)) (by omega)).mono ?_
  rintro e w5 ⟨cx0, rfl, ocx0, hb5⟩
  replace ocg0 := own_below ocg0 hb5
  replace ocg1 := own_below ocg1 hb5
  replace orw0 := Qw.below orw0 hb5
  replace hb := grow_trans hb hb5
  replace hArw0 := grow_trans hArw0 hb5
  replace hc := (bcell hb).1
  have lcx0 := Lib.hid ocx0.lt
  have hAcx0 : Below w5.heap.size w5 w5 := Below.refl _ _
  obtain ⟨E0, c0, rfl, _⟩ := own_form ocx0
  replace ocg0 := own_below ocg0 (grow_alloc w5 (.cells #[.int .i64 x0, .int .i64 y0, .slice E0 z0.length c0] 28))
  replace ocg1 := own_below ocg1 (grow_alloc w5 (.cells #[.int .i64 x0, .int .i64 y0, .slice E0 z0.length c0] 28))
  replace orw0 := Qw.below orw0 (grow_alloc w5 (.cells #[.int .i64 x0, .int .i64 y0, .slice E0 z0.length c0] 28))
  replace ocx0 := own_below ocx0 (grow_alloc w5 (.cells #[.int .i64 x0, .int .i64 y0, .slice E0 z0.length c0] 28))
  replace hArw0 := grow_trans hArw0 (grow_alloc w5 (.cells #[.int .i64 x0, .int .i64 y0, .slice E0 z0.length c0] 28))
  replace hAcx0 := grow_trans hAcx0 (grow_alloc w5 (.cells #[.int .i64 x0, .int .i64 y0, .slice E0 z0.length c0] 28))
  replace hb := grow_trans hb (grow_alloc w5 (.cells #[.int .i64 x0, .int .i64 y0, .slice E0 z0.length c0] 28))
  have hbx0 : Below (w5.alloc (.cells #[.int .i64 x0, .int .i64 y0, .slice E0 z0.length c0] 28)).heap.size (w5.alloc (.cells #[.int .i64 x0, .int .i64 y0, .slice E0 z0.length c0] 28)) (w5.alloc (.cells #[.int .i64 x0, .int .i64 y0, .slice E0 z0.length c0] 28)) := Below.refl _ _
  have hcx0 := (bcell hbx0).1
  replace hc := (bcell hb).1
  have scx1 := Lib.hid hb.size
  have srw0cx1 := Lib.hid hArw0.size
  have scx0cx1 := Lib.hid hAcx0.size
  go_wp2_with fail
  with_reducible refine (toIntS_any _ z1 _ (k1.1.below (grow_trans hw0 hb)) (by omega)).mono ?_
  rintro e w6 ⟨cx1, rfl, ocx1, hb6⟩
  replace ocg0 := own_below ocg0 hb6
  replace ocg1 := own_below ocg1 hb6
  replace orw0 := Qw.below orw0 hb6
  replace ocx0 := own_below ocx0 hb6
  replace hb := grow_trans hb hb6
  replace hbx0 := grow_trans hbx0 hb6
  replace hcx0 := (bcell hbx0).1
  replace hArw0 := grow_trans hArw0 hb6
  replace hAcx0 := grow_trans hAcx0 hb6
  replace hc := (bcell hb).1
  have lcx1 := Lib.hid ocx1.lt
  have hAcx1 : Below w6.heap.size w6 w6 := Below.refl _ _
  have srg0 := Lib.hid hb.size
  have srw0rg0 := Lib.hid hArw0.size
  have scx0rg0 := Lib.hid hAcx0.size
  have scx1rg0 := Lib.hid hAcx1.size
  go_wp2_with fail
  with_reducible refine (Hi.out _ _ (Sl.of_own ocx0) cx1 (Sl.of_own ocx1)).mono ?_
  rintro e w7 ⟨rg0, rfl, org0, hb7⟩
  replace ocg0 := own_below ocg0 hb7
  replace ocg1 := own_below ocg1 hb7
  replace orw0 := Qw.below orw0 hb7
  replace ocx0 := own_below ocx0 hb7
  replace ocx1 := own_below ocx1 hb7
  replace hb := grow_trans hb hb7
  replace hbx0 := grow_trans hbx0 hb7
  replace hcx0 := (bcell hbx0).1
  replace hArw0 := grow_trans hArw0 hb7
  replace hAcx0 := grow_trans hAcx0 hb7
  replace hAcx1 := grow_trans hAcx1 hb7
  replace hc := (bcell hb).1
  have lrg0 := Lib.hid org0.lt
  have hArg0 : Below w7.heap.size w7 w7 := Below.refl _ _
  clear hArw0 hAcx0 hAcx1 hArg0
  go_wp2_with fail
  with_reducible refine (eqIntS_any _ _ rs _ (Sl.of_own org0) (Sl.of_q orw0)).mono ?_
  rintro e w8 ⟨rfl, hb8⟩
  replace ocg0 := own_below ocg0 hb8
  replace ocg1 := own_below ocg1 hb8
  replace orw0 := Qw.below orw0 hb8
  replace ocx0 := own_below ocx0 hb8
  replace ocx1 := own_below ocx1 hb8
  replace org0 := own_below org0 hb8
  replace hb := grow_trans hb hb8
  replace hbx0 := grow_trans hbx0 hb8
  replace hcx0 := (bcell hbx0).1
  replace hc := (bcell hb).1
  replace ocg0 := own_below ocg0 (grow_drew w8)
  replace ocg1 := own_below ocg1 (grow_drew w8)
  replace orw0 := Qw.below orw0 (grow_drew w8)
  replace ocx0 := own_below ocx0 (grow_drew w8)
  replace ocx1 := own_below ocx1 (grow_drew w8)
  replace org0 := own_below org0 (grow_drew w8)
  replace hbx0 := grow_trans hbx0 (grow_drew w8)
  replace hcx0 := (bcell hbx0).1
  replace hb := grow_trans hb (grow_drew w8)
  replace hc := (bcell hb).1
  go_wp2_with fail
  go_region_with (first | (go_at_call 13; with_reducible refine (toTerrain_any x0 y0 v0 z0 _ (k0.2.2.1.below (grow_trans hw0 hb)) (by omega)).mono ?_; intro e w9 hr9; unfold RetTerr at hr9; obtain ⟨cy0, rfl, ocy0, hb9⟩ := hr9; replace ocg0 := own_below ocg0 hb9; replace ocg1 := own_below ocg1 hb9; replace orw0 := Qw.below orw0 hb9; replace ocx0 := own_below ocx0 hb9; replace ocx1 := own_below ocx1 hb9; replace org0 := own_below org0 hb9; replace hbx0 := grow_trans hbx0 hb9; replace hcx0 := (bcell hbx0).1; replace hb := grow_trans hb hb9; replace hc := (bcell hb).1) | (go_at_call 17; with_reducible refine (eqTerrain_any x0 y0 _ _ z0 _ (Sl.of_own ocx0) (Sl.of_own ocy0)).mono ?_; rintro e w10 ⟨rfl, hb10⟩; replace ocg0 := own_below ocg0 hb10; replace ocg1 := own_below ocg1 hb10; replace orw0 := Qw.below orw0 hb10; replace ocx0 := own_below ocx0 hb10; replace ocx1 := own_below ocx1 hb10; replace org0 := own_below org0 hb10; replace ocy0 := own_below ocy0 hb10; replace hbx0 := grow_trans hbx0 hb10; replace hcx0 := (bcell hbx0).1; replace hb := grow_trans hb hb10; replace hc := (bcell hb).1))
  all_goals
    go_wp2_with fail
    with_reducible refine (toIntS_any _ z1 _ (k1.1.below (grow_trans hw0 hb)) (by omega)).mono ?_
    rintro e w11 ⟨cy1, rfl, ocy1, hb11⟩
    replace ocg0 := own_below ocg0 hb11
    replace ocg1 := own_below ocg1 hb11
    replace orw0 := Qw.below orw0 hb11
    replace ocx0 := own_below ocx0 hb11
    replace ocx1 := own_below ocx1 hb11
    replace org0 := own_below org0 hb11
    replace ocy0 := own_below ocy0 hb11
    replace hb := grow_trans hb hb11
    replace hbx0 := grow_trans hbx0 hb11
    replace hcx0 := (bcell hbx0).1
    replace hc := (bcell hb).1
    go_wp2_with fail
    with_reducible refine (eqIntS_any _ _ z1 _ (Sl.of_own ocx1) (Sl.of_own ocy1)).mono ?_
    rintro e w12 ⟨rfl, hb12⟩
    replace ocg0 := own_below ocg0 hb12
    replace ocg1 := own_below ocg1 hb12
    replace orw0 := Qw.below orw0 hb12
    replace ocx0 := own_below ocx0 hb12
    replace ocx1 := own_below ocx1 hb12
    replace org0 := own_below org0 hb12
    replace ocy0 := own_below ocy0 hb12
    replace ocy1 := own_below ocy1 hb12
    replace hb := grow_trans hb hb12
    replace hbx0 := grow_trans hbx0 hb12
    replace hcx0 := (bcell hbx0).1
    replace hc := (bcell hb).1
    clear ocg0 ocg1 ocy0 ocy1
    go_wp2_with fail
    with_reducible refine (markTerrain_any x0 y0 _ (1) z0.length _ _ _ ocx0 (by omega) (by omega) (by omega)).mono ?_
    intro e w13 hm
    unfold RetMark at hm
    obtain ⟨rfl, om, hg⟩ := hm
    replace orw0 := Qw.kept orw0 hg (fun j hj e => by have h1 := lrw0.out j hj; have h2 := lcx0.out j e.symm; have h3 := srw0cx0.out; omega)
    replace ocx1 := own_kept ocx1 hg (fun j hj e => by have h1 := lcx1.out j hj; have h2 := lcx0.out j e.symm; have h3 := scx0cx1.out; omega)
    replace org0 := own_kept org0 hg (fun j hj e => by have h1 := lrg0.out j hj; have h2 := lcx0.out j e.symm; have h3 := scx0rg0.out; omega)
    replace hb := hb.grown hg hb.size (fun j hj => by have h1 := scx0.out; have h2 := lcx0.out j hj; omega)
    clear hcx0 hbx0
    clear hg
    replace hc := (bcell hb).1
    clear om ocx0
    go_wp2_with fail
    with_reducible refine (markIntS_any _ (1 + ((z0.length : Nat) : Int)) z1.length _ _ _ ocx1 (by omega) (by omega) (by omega)).mono ?_
    intro e w14 hm
    unfold RetMark at hm
    obtain ⟨rfl, om, hg⟩ := hm
    replace orw0 := Qw.kept orw0 hg (fun j hj e => by have h1 := lrw0.out j hj; have h2 := lcx1.out j e.symm; have h3 := srw0cx1.out; omega)
    replace org0 := own_kept org0 hg (fun j hj e => by have h1 := lrg0.out j hj; have h2 := lcx1.out j e.symm; have h3 := scx1rg0.out; omega)
    replace hb := hb.grown hg hb.size (fun j hj => by have h1 := scx1.out; have h2 := lcx1.out j hj; omega)
    clear hg
    replace hc := (bcell hb).1
    clear om ocx1
    go_wp2_with fail
    with_reducible refine (eqIntS_any _ _ rs _ (Sl.of_own org0) (Sl.of_q orw0)).mono ?_
    rintro e w15 ⟨rfl, hb15⟩
    replace orw0 := Qw.below orw0 hb15
    replace org0 := own_below org0 hb15
    replace hb := grow_trans hb hb15
    replace hc := (bcell hb).1
    go_wp2_with fail
    with_reducible refine (markIntS_any _ 1 rs.length _ _ _ org0 (by omega) (by omega) (by omega)).mono ?_
    intro e w16 hm
    unfold RetMark at hm
    obtain ⟨rfl, om, hg⟩ := hm
    replace orw0 := Qw.kept orw0 hg (fun j hj e => by have h1 := lrw0.out j hj; have h2 := lrg0.out j e.symm; have h3 := srw0rg0.out; omega)
    replace hb := hb.grown hg hb.size (fun j hj => by have h1 := srg0.out; have h2 := lrg0.out j hj; omega)
    clear hg
    replace hc := (bcell hb).1
    replace org0 := om
    go_wp2_with fail
    with_reducible refine (heldIntS_any _ 1 rs.length _ (Sl.of_own org0) (by omega) (by omega) (by omega)).mono ?_
    rintro e w9 ⟨rfl, rfl⟩
    go_wp2_with fail
    with_reducible refine (toTerrain_any x0 y0 v0 z0 _ (k0.2.2.1.below (grow_trans hw0 hb)) (by omega)).mono ?_
    rintro e w17 ⟨ch0, rfl, och0, hb17⟩
    replace orw0 := Qw.below orw0 hb17
    replace org0 := own_below org0 hb17
    replace hb := grow_trans hb hb17
    replace hc := (bcell hb).1
    go_wp2_with fail
    with_reducible refine (toIntS_any _ z1 _ (k1.1.below (grow_trans hw0 hb)) (by omega)).mono ?_
    rintro e w18 ⟨ch1, rfl, och1, hb18⟩
    replace orw0 := Qw.below orw0 hb18
    replace org0 := own_below org0 hb18
    replace och0 := own_below och0 hb18
    replace hb := grow_trans hb hb18
    replace hc := (bcell hb).1
    go_wp2_with fail
    with_reducible refine (Hi.out _ ch0 (Sl.of_own och0) ch1 (Sl.of_own och1)).mono ?_
    rintro e w19 ⟨rh0, rfl, orh0, hb19⟩
    replace orw0 := Qw.below orw0 hb19
    replace org0 := own_below org0 hb19
    replace och0 := own_below och0 hb19
    replace och1 := own_below och1 hb19
    replace hb := grow_trans hb hb19
    replace hc := (bcell hb).1
    go_wp2_with fail
    with_reducible refine (eqIntS_any _ _ rs _ (Sl.of_own orh0) (Sl.of_q orw0)).mono ?_
    rintro e w20 ⟨rfl, hb20⟩
    replace orw0 := Qw.below orw0 hb20
    replace org0 := own_below org0 hb20
    replace och0 := own_below och0 hb20
    replace och1 := own_below och1 hb20
    replace orh0 := own_below orh0 hb20
    replace hb := grow_trans hb hb20
    replace hc := (bcell hb).1
    go_wp2_with fail
    with_reducible refine (heldIntS_any _ 1 rs.length _ (Sl.of_own org0) (by omega) (by omega) (by omega)).mono ?_
    rintro e w9 ⟨rfl, rfl⟩
    go_wp2
    go_ret
    exact ⟨rfl, grow_trans hw0 hb⟩

/-! the frame: the arguments opened, the row closed -/
set_option maxRecDepth 100000 in
theorem lifted (os : Os) (started : os.Started) (H : Type) (enc : TypeId × Value → H) :
    ReturnsInHanded {} Try.checked os 3 .any (Rows.fnExactFillRegionSpec.pre6 enc Try.prog Try.f3 Rows.fnExactFillRegionRow.domain false) (Rows.fnExactFillRegionSpec.post enc Try.prog Try.f3 false true false false) := by
  refine law_lifted (C := Try.checked) own started (by kernel_rfl) Try.func3
    (ChangeSpec.witness6 (enc := enc) (C := Try.checked) false ⟨#[], #[.agg #[.int .i64 0, .int .i64 0, .slice none 0 0], .slice none 0 0], []⟩ 8 (by kernel_rfl) (by kernel_rfl) (by kernel_rfl) (by kernel_rfl))
    laidOut (of_decide_eq_true (by kernel_rfl)) rfl Try.underlying4 rfl ?_
  intro W base args ds p hval hA
  rw [Try.params3] at hA hval
  obtain ⟨v0, vs0, d0, ds0, p0, q0, hargs, rfl, rfl, h0, r0⟩ := trodAll_cons hA
  obtain ⟨v1, vs1, d1, ds1, p1, q1, rfl, rfl, rfl, h1, r1⟩ := trodAll_cons r0
  obtain ⟨rfl, rfl, rfl⟩ := trodAll_nil r1
  obtain rfl : args = #[v0, v1] := by cases args; simp_all
  obtain ⟨x0, y0, u0, z0, rfl, b0⟩ := open_terrain (hval 0 24 v0 rfl rfl) h0
  obtain ⟨z1, b1⟩ := open_is (hval 1 22 v1 rfl rfl) h1
  exact ⟨rfl, walk W x0 y0 u0 z0 b0 v1 z1 b1⟩

theorem over : Rows.fnExactFillRegionRow.holds Try.pinned (OpenSpec.ofChange Rows.fnExactFillRegionSpec) :=
  OpenClaim.holds_of_wide 3 Try.f3 rfl rfl rfl rfl rfl rfl rfl ⟨rfl, rfl, rfl, rfl, rfl⟩ rfl rfl rfl rfl rfl (by kernel_rfl) Try.func3 (by kernel_rfl)
    (of_decide_eq_true (by kernel_rfl)) (by unfold Func.isWrapper; first | (rw [if_pos (by decide +kernel)]; kernel_rfl) | (rw [if_neg (by decide +kernel)]; exact ⟨rfl, rfl⟩))
    (fun os started H enc _ => lifted os started H enc)

theorem proved : Rows.FnExactFillRegionSaid := over
#print axioms proved
end Go.Proofs.Ytefampjmbjbhcaa.lFillRegion
