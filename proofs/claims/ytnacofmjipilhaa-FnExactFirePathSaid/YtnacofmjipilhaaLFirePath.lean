/- FnExactFirePath returns true for all arguments: the program's FirePath answers as the reference's, leaves its arguments, and its result is new memory. Conditions: none. -/
import Derived.Test.YtnacofmjipilhaaPath2
import Derived.Test.YtnacofmjipilhaaOpen
import Derived.Deep.RegionWith
namespace Go.Proofs.Ytnacofmjipilhaa.lFirePath
open Go.ChangeShapes Go.WideShapes Go.ChangeAt Go.RowKit
set_option linter.unusedVariables false
set_option linter.unusedSimpArgs false
set_option maxRecDepth 100000


set_option maxHeartbeats 4000000 in
theorem walk (w : World) (x0 y0 : Int) (v0 : Value) (z0 : List Int) (k0 : I64 x0 ∧ I64 y0 ∧ Sl w 1 v0 z0.length (z0.map (Value.int .i64)) ∧ ∀ z ∈ z0, I64 z) (v1 : Value) (z1 : List (Int × Int)) (k1 : Sl w 2 v1 z1.length (phs z1)) (v2 : Value) (z2 : List Int) (k2 : Sl w 1 v2 z2.length (z2.map (Value.int .i64)) ∧ ∀ z ∈ z2, I64 z) (a3 : Int) (k3 : I64 a3) (a4 : Int) (k4 : I64 a4) :
    Calls Try.prog 11 #[.agg #[.int .i64 x0, .int .i64 y0, v0], v1, v2, .int .i64 a3, .int .i64 a4] w fun e w' => e = .returned (.bool true) ∧ Below w.heap.size w w' := by
  have hw0 : Below w.heap.size w (w.alloc (.cells #[.int .i64 x0, .int .i64 y0, v0] 74)) := grow_alloc _ _
  have hb : Below (w.alloc (.cells #[.int .i64 x0, .int .i64 y0, v0] 74)).heap.size (w.alloc (.cells #[.int .i64 x0, .int .i64 y0, v0] 74)) (w.alloc (.cells #[.int .i64 x0, .int .i64 y0, v0] 74)) := Below.refl _ _
  have hc := (bcell hb).1
  have m0 := k0.2.2.1.len
  have m1 := k1.len
  have m2 := k2.1.len
  unfold maxLen at m0 m1 m2
  obtain ⟨A2, c2, hv2⟩ := k2.1.val
  by_cases q0 : z2.length ≤ 1048576
  case neg =>
    subst hv2
    go_enter Try.func11, Try.ntmps11
    go_wp2
    go_ret
    exact ⟨rfl, grow_trans hw0 hb⟩
  by_cases q1 : z0.length ≤ 1048576
  case neg =>
    subst hv2
    go_enter Try.func11, Try.ntmps11
    go_wp2_with fail
    with_reducible refine (szTerrain_no _ _ _ (1048576 : Int) _ _ _ (k0.2.2.1.below (grow_trans hw0 hb)) (by omega) (by omega) (by omega)).mono ?_
    rintro e w1 ⟨rfl, hb1⟩
    replace hb := grow_trans hb hb1
    replace hc := (bcell hb).1
    go_wp2
    go_ret
    exact ⟨rfl, grow_trans hw0 hb⟩
  by_cases q2 : z0.length + z1.length ≤ 1048576
  case neg =>
    subst hv2
    go_enter Try.func11, Try.ntmps11
    go_wp2_with fail
    with_reducible refine (szTerrain_ok _ _ _ (1048576 : Int) _ _ _ (k0.2.2.1.below (grow_trans hw0 hb)) (by omega) (by omega) (by omega)).mono ?_
    rintro e w1 ⟨rfl, hb1⟩
    replace hb := grow_trans hb hb1
    replace hc := (bcell hb).1
    go_wp2_with fail
    with_reducible refine (szPhaseS_no _ (1048576 - ((z0.length : Nat) : Int) : Int) _ _ _ (k1.below (grow_trans hw0 hb)) (by omega) (by omega) (by omega)).mono ?_
    rintro e w2 ⟨rfl, hb2⟩
    replace hb := grow_trans hb hb2
    replace hc := (bcell hb).1
    go_wp2
    go_ret
    exact ⟨rfl, grow_trans hw0 hb⟩
  have hs := fun (W : World) (u0 : Value) (e0 : Sl W 1 u0 z0.length (ints z0)) (u1 : Value) (e1 : Sl W 2 u1 z1.length (phs z1)) (u2 : Value) (e2 : Sl W 1 u2 z2.length (ints z2)) => sFirePath_any x0 y0 u0 z0 u1 z1 u2 z2 a3 a4 W e0 e1 e2 q0
  have hi := fun (W : World) (u0 : Value) (e0 : Sl W 1 u0 z0.length (ints z0)) (u1 : Value) (e1 : Sl W 2 u1 z1.length (phs z1)) (u2 : Value) (e2 : Sl W 1 u2 z2.length (ints z2)) => FirePath_any x0 y0 u0 z0 u1 z1 u2 z2 a3 a4 W e0 e1 e2 q0
  have hlen : (selR (fpB x0 y0 z0 z1 z2 a3 a4) (fpL x0 z0 z1 z2 a3 a4)).length ≤ 1048576 := by unfold selR; split; (rename_i hh; exact fp_len hh); simp
  generalize selR (fpB x0 y0 z0 z1 z2 a3 a4) (fpL x0 z0 z1 z2 a3 a4) = rs at hs hi hlen
  generalize (fpB x0 y0 z0 z1 z2 a3 a4) = ok at hs hi
  have Hs := Lib.hid hs
  have Hi := Lib.hid hi
  clear hs hi
  subst hv2
  go_enter Try.func11, Try.ntmps11
  go_wp2_with fail
  with_reducible refine (szTerrain_ok _ _ _ (1048576 : Int) _ _ _ (k0.2.2.1.below (grow_trans hw0 hb)) (by omega) (by omega) (by omega)).mono ?_
  rintro e w1 ⟨rfl, hb1⟩
  replace hb := grow_trans hb hb1
  replace hc := (bcell hb).1
  go_wp2_with fail
  with_reducible refine (szPhaseS_ok _ (1048576 - ((z0.length : Nat) : Int) : Int) _ _ _ (k1.below (grow_trans hw0 hb)) (by omega) (by omega) (by omega)).mono ?_
  rintro e w2 ⟨rfl, hb2⟩
  replace hb := grow_trans hb hb2
  replace hc := (bcell hb).1
  go_wp2_with fail
  with_reducible refine (toTerrain_any x0 y0 v0 z0 _ (k0.2.2.1.below (grow_trans hw0 hb)) (by omega)).mono ?_
  rintro e w3 ⟨cg0, rfl, ocg0, hb3⟩
  replace hb := grow_trans hb hb3
  replace hc := (bcell hb).1
  go_wp2_with fail
  with_reducible refine (toPhaseS_any _ z1 _ (k1.below (grow_trans hw0 hb)) (by omega)).mono ?_
  rintro e w4 ⟨cg1, rfl, ocg1, hb4⟩
  replace ocg0 := own_below ocg0 hb4
  replace hb := grow_trans hb hb4
  replace hc := (bcell hb).1
  go_wp2_with fail
  with_reducible refine (toIntS_any _ z2 _ (k2.1.below (grow_trans hw0 hb)) (by omega)).mono ?_
  rintro e w5 ⟨cg2, rfl, ocg2, hb5⟩
  replace ocg0 := own_below ocg0 hb5
  replace ocg1 := own_below ocg1 hb5
  replace hb := grow_trans hb hb5
  replace hc := (bcell hb).1
  have srw0 := Lib.hid hb.size
  go_wp2_with fail
  with_reducible refine (Hs.out _ cg0 (Sl.of_own ocg0) cg1 (Sl.of_own ocg1) cg2 (Sl.of_own ocg2)).mono ?_
  rintro e w6 ⟨rw0, rfl, orw0, hb6⟩
  replace ocg0 := own_below ocg0 hb6
  replace ocg1 := own_below ocg1 hb6
  replace ocg2 := own_below ocg2 hb6
  replace hb := grow_trans hb hb6
  replace hc := (bcell hb).1
  have lrw0 := Lib.hid orw0.lt
  have hArw0 : Below w6.heap.size w6 w6 := Below.refl _ _
  have scx0 := Lib.hid hb.size
  have srw0cx0 := Lib.hid hArw0.size
  go_wp2_with fail
  with_reducible refine (toTerrain_any x0 y0 v0 z0 _ (k0.2.2.1.below (grow_trans hw0 hb)) (by omega)).mono ?_
  rintro e w7 ⟨cx0, rfl, ocx0, hb7⟩
  replace ocg0 := own_below ocg0 hb7
  replace ocg1 := own_below ocg1 hb7
  replace ocg2 := own_below ocg2 hb7
  replace orw0 := Qw.below orw0 hb7
  replace hb := grow_trans hb hb7
  replace hArw0 := grow_trans hArw0 hb7
  replace hc := (bcell hb).1
  have lcx0 := Lib.hid ocx0.lt
  have hAcx0 : Below w7.heap.size w7 w7 := Below.refl _ _
  obtain ⟨E0, c0, rfl, _⟩ := own_form ocx0
  replace ocg0 := own_below ocg0 (grow_alloc w7 (.cells #[.int .i64 x0, .int .i64 y0, .slice E0 z0.length c0] 79))
  replace ocg1 := own_below ocg1 (grow_alloc w7 (.cells #[.int .i64 x0, .int .i64 y0, .slice E0 z0.length c0] 79))
  replace ocg2 := own_below ocg2 (grow_alloc w7 (.cells #[.int .i64 x0, .int .i64 y0, .slice E0 z0.length c0] 79))
  replace orw0 := Qw.below orw0 (grow_alloc w7 (.cells #[.int .i64 x0, .int .i64 y0, .slice E0 z0.length c0] 79))
  replace ocx0 := own_below ocx0 (grow_alloc w7 (.cells #[.int .i64 x0, .int .i64 y0, .slice E0 z0.length c0] 79))
  replace hArw0 := grow_trans hArw0 (grow_alloc w7 (.cells #[.int .i64 x0, .int .i64 y0, .slice E0 z0.length c0] 79))
  replace hAcx0 := grow_trans hAcx0 (grow_alloc w7 (.cells #[.int .i64 x0, .int .i64 y0, .slice E0 z0.length c0] 79))
  replace hb := grow_trans hb (grow_alloc w7 (.cells #[.int .i64 x0, .int .i64 y0, .slice E0 z0.length c0] 79))
  have hbx0 : Below (w7.alloc (.cells #[.int .i64 x0, .int .i64 y0, .slice E0 z0.length c0] 79)).heap.size (w7.alloc (.cells #[.int .i64 x0, .int .i64 y0, .slice E0 z0.length c0] 79)) (w7.alloc (.cells #[.int .i64 x0, .int .i64 y0, .slice E0 z0.length c0] 79)) := Below.refl _ _
  have hcx0 := (bcell hbx0).1
  replace hc := (bcell hb).1
  have scx1 := Lib.hid hb.size
  have srw0cx1 := Lib.hid hArw0.size
  have scx0cx1 := Lib.hid hAcx0.size
  go_wp2_with fail
  with_reducible refine (toPhaseS_any _ z1 _ (k1.below (grow_trans hw0 hb)) (by omega)).mono ?_
  rintro e w8 ⟨cx1, rfl, ocx1, hb8⟩
  replace ocg0 := own_below ocg0 hb8
  replace ocg1 := own_below ocg1 hb8
  replace ocg2 := own_below ocg2 hb8
  replace orw0 := Qw.below orw0 hb8
  replace ocx0 := own_below ocx0 hb8
  replace hb := grow_trans hb hb8
  replace hbx0 := grow_trans hbx0 hb8
  replace hcx0 := (bcell hbx0).1
  replace hArw0 := grow_trans hArw0 hb8
  replace hAcx0 := grow_trans hAcx0 hb8
  replace hc := (bcell hb).1
  have lcx1 := Lib.hid ocx1.lt
  have hAcx1 : Below w8.heap.size w8 w8 := Below.refl _ _
  have scx2 := Lib.hid hb.size
  have srw0cx2 := Lib.hid hArw0.size
  have scx0cx2 := Lib.hid hAcx0.size
  have scx1cx2 := Lib.hid hAcx1.size
  go_wp2_with fail
  with_reducible refine (toIntS_any _ z2 _ (k2.1.below (grow_trans hw0 hb)) (by omega)).mono ?_
  rintro e w9 ⟨cx2, rfl, ocx2, hb9⟩
  replace ocg0 := own_below ocg0 hb9
  replace ocg1 := own_below ocg1 hb9
  replace ocg2 := own_below ocg2 hb9
  replace orw0 := Qw.below orw0 hb9
  replace ocx0 := own_below ocx0 hb9
  replace ocx1 := own_below ocx1 hb9
  replace hb := grow_trans hb hb9
  replace hbx0 := grow_trans hbx0 hb9
  replace hcx0 := (bcell hbx0).1
  replace hArw0 := grow_trans hArw0 hb9
  replace hAcx0 := grow_trans hAcx0 hb9
  replace hAcx1 := grow_trans hAcx1 hb9
  replace hc := (bcell hb).1
  have lcx2 := Lib.hid ocx2.lt
  have hAcx2 : Below w9.heap.size w9 w9 := Below.refl _ _
  have srg0 := Lib.hid hb.size
  have srw0rg0 := Lib.hid hArw0.size
  have scx0rg0 := Lib.hid hAcx0.size
  have scx1rg0 := Lib.hid hAcx1.size
  have scx2rg0 := Lib.hid hAcx2.size
  go_wp2_with fail
  with_reducible refine (Hi.out _ _ (Sl.of_own ocx0) cx1 (Sl.of_own ocx1) cx2 (Sl.of_own ocx2)).mono ?_
  rintro e w10 ⟨rg0, rfl, org0, hb10⟩
  replace ocg0 := own_below ocg0 hb10
  replace ocg1 := own_below ocg1 hb10
  replace ocg2 := own_below ocg2 hb10
  replace orw0 := Qw.below orw0 hb10
  replace ocx0 := own_below ocx0 hb10
  replace ocx1 := own_below ocx1 hb10
  replace ocx2 := own_below ocx2 hb10
  replace hb := grow_trans hb hb10
  replace hbx0 := grow_trans hbx0 hb10
  replace hcx0 := (bcell hbx0).1
  replace hArw0 := grow_trans hArw0 hb10
  replace hAcx0 := grow_trans hAcx0 hb10
  replace hAcx1 := grow_trans hAcx1 hb10
  replace hAcx2 := grow_trans hAcx2 hb10
  replace hc := (bcell hb).1
  have lrg0 := Lib.hid org0.lt
  have hArg0 : Below w10.heap.size w10 w10 := Below.refl _ _
  clear hArw0 hAcx0 hAcx1 hAcx2 hArg0
  go_wp2_with fail
  with_reducible refine (eqIntS_any _ _ rs _ (Sl.of_own org0) (Sl.of_q orw0)).mono ?_
  rintro e w11 ⟨rfl, hb11⟩
  replace ocg0 := own_below ocg0 hb11
  replace ocg1 := own_below ocg1 hb11
  replace ocg2 := own_below ocg2 hb11
  replace orw0 := Qw.below orw0 hb11
  replace ocx0 := own_below ocx0 hb11
  replace ocx1 := own_below ocx1 hb11
  replace ocx2 := own_below ocx2 hb11
  replace org0 := own_below org0 hb11
  replace hb := grow_trans hb hb11
  replace hbx0 := grow_trans hbx0 hb11
  replace hcx0 := (bcell hbx0).1
  replace hc := (bcell hb).1
  replace ocg0 := own_below ocg0 (grow_drew w11)
  replace ocg1 := own_below ocg1 (grow_drew w11)
  replace ocg2 := own_below ocg2 (grow_drew w11)
  replace orw0 := Qw.below orw0 (grow_drew w11)
  replace ocx0 := own_below ocx0 (grow_drew w11)
  replace ocx1 := own_below ocx1 (grow_drew w11)
  replace ocx2 := own_below ocx2 (grow_drew w11)
  replace org0 := own_below org0 (grow_drew w11)
  replace hbx0 := grow_trans hbx0 (grow_drew w11)
  replace hcx0 := (bcell hbx0).1
  replace hb := grow_trans hb (grow_drew w11)
  replace hc := (bcell hb).1
  go_wp2_with fail
  go_region_with (first | (go_at_call 56; with_reducible refine (toTerrain_any x0 y0 v0 z0 _ (k0.2.2.1.below (grow_trans hw0 hb)) (by omega)).mono ?_; intro e w12 hr12; unfold RetTerr at hr12; obtain ⟨cy0, rfl, ocy0, hb12⟩ := hr12; replace ocg0 := own_below ocg0 hb12; replace ocg1 := own_below ocg1 hb12; replace ocg2 := own_below ocg2 hb12; replace orw0 := Qw.below orw0 hb12; replace ocx0 := own_below ocx0 hb12; replace ocx1 := own_below ocx1 hb12; replace ocx2 := own_below ocx2 hb12; replace org0 := own_below org0 hb12; replace hbx0 := grow_trans hbx0 hb12; replace hcx0 := (bcell hbx0).1; replace hb := grow_trans hb hb12; replace hc := (bcell hb).1) | (go_at_call 60; with_reducible refine (eqTerrain_any x0 y0 _ _ z0 _ (Sl.of_own ocx0) (Sl.of_own ocy0)).mono ?_; rintro e w13 ⟨rfl, hb13⟩; replace ocg0 := own_below ocg0 hb13; replace ocg1 := own_below ocg1 hb13; replace ocg2 := own_below ocg2 hb13; replace orw0 := Qw.below orw0 hb13; replace ocx0 := own_below ocx0 hb13; replace ocx1 := own_below ocx1 hb13; replace ocx2 := own_below ocx2 hb13; replace org0 := own_below org0 hb13; replace ocy0 := own_below ocy0 hb13; replace hbx0 := grow_trans hbx0 hb13; replace hcx0 := (bcell hbx0).1; replace hb := grow_trans hb hb13; replace hc := (bcell hb).1))
  all_goals
    go_wp2_with fail
    with_reducible refine (toPhaseS_any _ z1 _ (k1.below (grow_trans hw0 hb)) (by omega)).mono ?_
    rintro e w14 ⟨cy1, rfl, ocy1, hb14⟩
    replace ocg0 := own_below ocg0 hb14
    replace ocg1 := own_below ocg1 hb14
    replace ocg2 := own_below ocg2 hb14
    replace orw0 := Qw.below orw0 hb14
    replace ocx0 := own_below ocx0 hb14
    replace ocx1 := own_below ocx1 hb14
    replace ocx2 := own_below ocx2 hb14
    replace org0 := own_below org0 hb14
    replace ocy0 := own_below ocy0 hb14
    replace hb := grow_trans hb hb14
    replace hbx0 := grow_trans hbx0 hb14
    replace hcx0 := (bcell hbx0).1
    replace hc := (bcell hb).1
    go_wp2_with fail
    with_reducible refine (eqPhaseS_any _ _ z1 _ (Sl.of_own ocx1) (Sl.of_own ocy1)).mono ?_
    rintro e w15 ⟨rfl, hb15⟩
    replace ocg0 := own_below ocg0 hb15
    replace ocg1 := own_below ocg1 hb15
    replace ocg2 := own_below ocg2 hb15
    replace orw0 := Qw.below orw0 hb15
    replace ocx0 := own_below ocx0 hb15
    replace ocx1 := own_below ocx1 hb15
    replace ocx2 := own_below ocx2 hb15
    replace org0 := own_below org0 hb15
    replace ocy0 := own_below ocy0 hb15
    replace ocy1 := own_below ocy1 hb15
    replace hb := grow_trans hb hb15
    replace hbx0 := grow_trans hbx0 hb15
    replace hcx0 := (bcell hbx0).1
    replace hc := (bcell hb).1
    go_wp2_with fail
    with_reducible refine (toIntS_any _ z2 _ (k2.1.below (grow_trans hw0 hb)) (by omega)).mono ?_
    rintro e w16 ⟨cy2, rfl, ocy2, hb16⟩
    replace ocg0 := own_below ocg0 hb16
    replace ocg1 := own_below ocg1 hb16
    replace ocg2 := own_below ocg2 hb16
    replace orw0 := Qw.below orw0 hb16
    replace ocx0 := own_below ocx0 hb16
    replace ocx1 := own_below ocx1 hb16
    replace ocx2 := own_below ocx2 hb16
    replace org0 := own_below org0 hb16
    replace ocy0 := own_below ocy0 hb16
    replace ocy1 := own_below ocy1 hb16
    replace hb := grow_trans hb hb16
    replace hbx0 := grow_trans hbx0 hb16
    replace hcx0 := (bcell hbx0).1
    replace hc := (bcell hb).1
    go_wp2_with fail
    with_reducible refine (eqIntS_any _ _ z2 _ (Sl.of_own ocx2) (Sl.of_own ocy2)).mono ?_
    rintro e w17 ⟨rfl, hb17⟩
    replace ocg0 := own_below ocg0 hb17
    replace ocg1 := own_below ocg1 hb17
    replace ocg2 := own_below ocg2 hb17
    replace orw0 := Qw.below orw0 hb17
    replace ocx0 := own_below ocx0 hb17
    replace ocx1 := own_below ocx1 hb17
    replace ocx2 := own_below ocx2 hb17
    replace org0 := own_below org0 hb17
    replace ocy0 := own_below ocy0 hb17
    replace ocy1 := own_below ocy1 hb17
    replace ocy2 := own_below ocy2 hb17
    replace hb := grow_trans hb hb17
    replace hbx0 := grow_trans hbx0 hb17
    replace hcx0 := (bcell hbx0).1
    replace hc := (bcell hb).1
    clear ocg0 ocg1 ocg2 ocy0 ocy1 ocy2
    go_wp2_with fail
    with_reducible refine (markTerrain_any x0 y0 _ (1) z0.length _ _ _ ocx0 (by omega) (by omega) (by omega)).mono ?_
    intro e w18 hm
    unfold RetMark at hm
    obtain ⟨rfl, om, hg⟩ := hm
    replace orw0 := Qw.kept orw0 hg (fun j hj e => by have h1 := lrw0.out j hj; have h2 := lcx0.out j e.symm; have h3 := srw0cx0.out; omega)
    replace ocx1 := own_kept ocx1 hg (fun j hj e => by have h1 := lcx1.out j hj; have h2 := lcx0.out j e.symm; have h3 := scx0cx1.out; omega)
    replace ocx2 := own_kept ocx2 hg (fun j hj e => by have h1 := lcx2.out j hj; have h2 := lcx0.out j e.symm; have h3 := scx0cx2.out; omega)
    replace org0 := own_kept org0 hg (fun j hj e => by have h1 := lrg0.out j hj; have h2 := lcx0.out j e.symm; have h3 := scx0rg0.out; omega)
    replace hb := hb.grown hg hb.size (fun j hj => by have h1 := scx0.out; have h2 := lcx0.out j hj; omega)
    clear hcx0 hbx0
    clear hg
    replace hc := (bcell hb).1
    clear om ocx0
    go_wp2_with fail
    with_reducible refine (markPhaseS_any _ (1 + ((z0.length : Nat) : Int)) z1.length _ _ _ ocx1 (by omega) (by omega) (by omega)).mono ?_
    intro e w19 hm
    obtain ⟨rfl, hg⟩ := hm
    replace orw0 := Qw.kept orw0 hg (fun j hj e => by have h1 := lrw0.out j hj; have h2 := lcx1.out j e.symm; have h3 := srw0cx1.out; omega)
    replace ocx2 := own_kept ocx2 hg (fun j hj e => by have h1 := lcx2.out j hj; have h2 := lcx1.out j e.symm; have h3 := scx1cx2.out; omega)
    replace org0 := own_kept org0 hg (fun j hj e => by have h1 := lrg0.out j hj; have h2 := lcx1.out j e.symm; have h3 := scx1rg0.out; omega)
    replace hb := hb.grown hg hb.size (fun j hj => by have h1 := scx1.out; have h2 := lcx1.out j hj; omega)
    clear hg
    replace hc := (bcell hb).1
    clear ocx1
    go_wp2_with fail
    with_reducible refine (markIntS_any _ (1 + ((z0.length : Nat) : Int) + 2 * ((z1.length : Nat) : Int)) z2.length _ _ _ ocx2 (by omega) (by omega) (by omega)).mono ?_
    intro e w20 hm
    unfold RetMark at hm
    obtain ⟨rfl, om, hg⟩ := hm
    replace orw0 := Qw.kept orw0 hg (fun j hj e => by have h1 := lrw0.out j hj; have h2 := lcx2.out j e.symm; have h3 := srw0cx2.out; omega)
    replace org0 := own_kept org0 hg (fun j hj e => by have h1 := lrg0.out j hj; have h2 := lcx2.out j e.symm; have h3 := scx2rg0.out; omega)
    replace hb := hb.grown hg hb.size (fun j hj => by have h1 := scx2.out; have h2 := lcx2.out j hj; omega)
    clear hg
    replace hc := (bcell hb).1
    clear om ocx2
    go_wp2_with fail
    with_reducible refine (eqIntS_any _ _ rs _ (Sl.of_own org0) (Sl.of_q orw0)).mono ?_
    rintro e w21 ⟨rfl, hb21⟩
    replace orw0 := Qw.below orw0 hb21
    replace org0 := own_below org0 hb21
    replace hb := grow_trans hb hb21
    replace hc := (bcell hb).1
    go_wp2_with fail
    with_reducible refine (markIntS_any _ 1 rs.length _ _ _ org0 (by omega) (by omega) (by omega)).mono ?_
    intro e w22 hm
    unfold RetMark at hm
    obtain ⟨rfl, om, hg⟩ := hm
    replace orw0 := Qw.kept orw0 hg (fun j hj e => by have h1 := lrw0.out j hj; have h2 := lrg0.out j e.symm; have h3 := srw0rg0.out; omega)
    replace hb := hb.grown hg hb.size (fun j hj => by have h1 := srg0.out; have h2 := lrg0.out j hj; omega)
    clear hg
    replace hc := (bcell hb).1
    replace org0 := om
    go_wp2_with fail
    with_reducible refine (heldIntS_any _ 1 rs.length _ (Sl.of_own org0) (by omega) (by omega) (by omega)).mono ?_
    rintro e w9 ⟨rfl, rfl⟩
    go_wp2_with fail
    with_reducible refine (toTerrain_any x0 y0 v0 z0 _ (k0.2.2.1.below (grow_trans hw0 hb)) (by omega)).mono ?_
    rintro e w23 ⟨ch0, rfl, och0, hb23⟩
    replace orw0 := Qw.below orw0 hb23
    replace org0 := own_below org0 hb23
    replace hb := grow_trans hb hb23
    replace hc := (bcell hb).1
    go_wp2_with fail
    with_reducible refine (toPhaseS_any _ z1 _ (k1.below (grow_trans hw0 hb)) (by omega)).mono ?_
    rintro e w24 ⟨ch1, rfl, och1, hb24⟩
    replace orw0 := Qw.below orw0 hb24
    replace org0 := own_below org0 hb24
    replace och0 := own_below och0 hb24
    replace hb := grow_trans hb hb24
    replace hc := (bcell hb).1
    go_wp2_with fail
    with_reducible refine (toIntS_any _ z2 _ (k2.1.below (grow_trans hw0 hb)) (by omega)).mono ?_
    rintro e w25 ⟨ch2, rfl, och2, hb25⟩
    replace orw0 := Qw.below orw0 hb25
    replace org0 := own_below org0 hb25
    replace och0 := own_below och0 hb25
    replace och1 := own_below och1 hb25
    replace hb := grow_trans hb hb25
    replace hc := (bcell hb).1
    go_wp2_with fail
    with_reducible refine (Hi.out _ ch0 (Sl.of_own och0) ch1 (Sl.of_own och1) ch2 (Sl.of_own och2)).mono ?_
    rintro e w26 ⟨rh0, rfl, orh0, hb26⟩
    replace orw0 := Qw.below orw0 hb26
    replace org0 := own_below org0 hb26
    replace och0 := own_below och0 hb26
    replace och1 := own_below och1 hb26
    replace och2 := own_below och2 hb26
    replace hb := grow_trans hb hb26
    replace hc := (bcell hb).1
    go_wp2_with fail
    with_reducible refine (eqIntS_any _ _ rs _ (Sl.of_own orh0) (Sl.of_q orw0)).mono ?_
    rintro e w27 ⟨rfl, hb27⟩
    replace orw0 := Qw.below orw0 hb27
    replace org0 := own_below org0 hb27
    replace och0 := own_below och0 hb27
    replace och1 := own_below och1 hb27
    replace och2 := own_below och2 hb27
    replace orh0 := own_below orh0 hb27
    replace hb := grow_trans hb hb27
    replace hc := (bcell hb).1
    go_wp2_with fail
    with_reducible refine (heldIntS_any _ 1 rs.length _ (Sl.of_own org0) (by omega) (by omega) (by omega)).mono ?_
    rintro e w9 ⟨rfl, rfl⟩
    go_wp2
    go_ret
    exact ⟨rfl, grow_trans hw0 hb⟩

/-! the frame: the arguments opened, the row closed -/
set_option maxRecDepth 100000 in
theorem lifted (os : Os) (started : os.Started) (H : Type) (enc : TypeId × Value → H) :
    ReturnsInHanded {} Try.checked os 11 .any (Rows.fnExactFirePathSpec.pre6 enc Try.prog Try.f11 Rows.fnExactFirePathRow.domain false) (Rows.fnExactFirePathSpec.post enc Try.prog Try.f11 false true false false) := by
  refine law_lifted (C := Try.checked) own started (by kernel_rfl) Try.func11
    (ChangeSpec.witness6 (enc := enc) (C := Try.checked) false ⟨#[], #[.agg #[.int .i64 0, .int .i64 0, .slice none 0 0], .slice none 0 0, .slice none 0 0, .int .i64 0, .int .i64 0], []⟩ 8 (by kernel_rfl) (by kernel_rfl) (by kernel_rfl) (by kernel_rfl))
    laidOut (of_decide_eq_true (by kernel_rfl)) rfl Try.underlying4 rfl ?_
  intro W base args ds p hval hA
  rw [Try.params11] at hA hval
  obtain ⟨v0, vs0, d0, ds0, p0, q0, hargs, rfl, rfl, h0, r0⟩ := trodAll_cons hA
  obtain ⟨v1, vs1, d1, ds1, p1, q1, rfl, rfl, rfl, h1, r1⟩ := trodAll_cons r0
  obtain ⟨v2, vs2, d2, ds2, p2, q2, rfl, rfl, rfl, h2, r2⟩ := trodAll_cons r1
  obtain ⟨v3, vs3, d3, ds3, p3, q3, rfl, rfl, rfl, h3, r3⟩ := trodAll_cons r2
  obtain ⟨v4, vs4, d4, ds4, p4, q4, rfl, rfl, rfl, h4, r4⟩ := trodAll_cons r3
  obtain ⟨rfl, rfl, rfl⟩ := trodAll_nil r4
  obtain rfl : args = #[v0, v1, v2, v3, v4] := by cases args; simp_all
  obtain ⟨x0, y0, u0, z0, rfl, b0⟩ := open_terrain (hval 0 74 v0 rfl rfl) h0
  obtain ⟨z1, b1⟩ := open_phases (hval 1 75 v1 rfl rfl) h1
  obtain ⟨z2, b2⟩ := open_is (hval 2 67 v2 rfl rfl) h2
  obtain ⟨a3, rfl, b3⟩ := open_i (hval 3 3 v3 rfl rfl) h3
  obtain ⟨a4, rfl, b4⟩ := open_i (hval 4 3 v4 rfl rfl) h4
  exact ⟨rfl, walk W x0 y0 u0 z0 b0 v1 z1 b1 v2 z2 b2 a3 b3 a4 b4⟩

theorem over : Rows.fnExactFirePathRow.holds Try.pinned (OpenSpec.ofChange Rows.fnExactFirePathSpec) :=
  OpenClaim.holds_of_wide 11 Try.f11 rfl rfl rfl rfl rfl rfl rfl ⟨rfl, rfl, rfl, rfl, rfl⟩ rfl rfl rfl rfl rfl (by kernel_rfl) Try.func11 (by kernel_rfl)
    (of_decide_eq_true (by kernel_rfl)) (by unfold Func.isWrapper; first | (rw [if_pos (by decide +kernel)]; kernel_rfl) | (rw [if_neg (by decide +kernel)]; exact ⟨rfl, rfl⟩))
    (fun os started H enc _ => lifted os started H enc)

theorem proved : Rows.FnExactFirePathSaid := over
#print axioms proved
end Go.Proofs.Ytnacofmjipilhaa.lFirePath
