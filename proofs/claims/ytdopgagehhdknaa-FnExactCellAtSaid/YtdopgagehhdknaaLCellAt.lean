/- FnExactCellAt returns true for all arguments: the program's CellAt answers as the reference's, leaves its arguments, and its result is new memory. Conditions: none. -/
import Derived.Test.YtdopgagehhdknaaCell2
import Derived.Test.YtdopgagehhdknaaOpen
import Derived.Deep.RegionWith
namespace Go.Proofs.Ytdopgagehhdknaa.lCellAt
open Go.ChangeShapes Go.WideShapes Go.ChangeAt Go.RowKit
set_option linter.unusedVariables false
set_option linter.unusedSimpArgs false
set_option maxRecDepth 100000


set_option maxHeartbeats 4000000 in
theorem walk (w : World) (x0 y0 : Int) (v0 : Value) (z0 : List Int) (k0 : I64 x0 ∧ I64 y0 ∧ Sl w 1 v0 z0.length (z0.map (Value.int .i64)) ∧ ∀ z ∈ z0, I64 z) (a1 : Int) (k1 : I64 a1) (a2 : Int) (k2 : I64 a2) :
    Calls Try.prog 6 #[.agg #[.int .i64 x0, .int .i64 y0, v0], .int .i64 a1, .int .i64 a2] w fun e w' => e = .returned (.bool true) ∧ Below w.heap.size w w' := by
  have hw0 : Below w.heap.size w (w.alloc (.cells #[.int .i64 x0, .int .i64 y0, v0] 31)) := grow_alloc _ _
  have hb : Below (w.alloc (.cells #[.int .i64 x0, .int .i64 y0, v0] 31)).heap.size (w.alloc (.cells #[.int .i64 x0, .int .i64 y0, v0] 31)) (w.alloc (.cells #[.int .i64 x0, .int .i64 y0, v0] 31)) := Below.refl _ _
  have hc := (bcell hb).1
  have m0 := k0.2.2.1.len
  unfold maxLen at m0
  by_cases q0 : z0.length ≤ 1048576
  case neg =>
    go_enter Try.func6, Try.ntmps6
    go_wp2_with fail
    with_reducible refine (szTerrain_no _ _ _ (1048576 : Int) _ _ _ (k0.2.2.1.below (grow_trans hw0 hb)) (by omega) (by omega) (by omega)).mono ?_
    rintro e w1 ⟨rfl, hb1⟩
    replace hb := grow_trans hb hb1
    replace hc := (bcell hb).1
    go_wp2
    go_ret
    exact ⟨rfl, grow_trans hw0 hb⟩
  have hs := fun (W : World) (u0 : Value) (e0 : Sl W 1 u0 z0.length (ints z0)) => sCellAt_any x0 y0 u0 z0 a1 a2 W e0 k0.1 k0.2.1
  have hi := fun (W : World) (u0 : Value) (e0 : Sl W 1 u0 z0.length (ints z0)) => CellAt_any x0 y0 u0 z0 a1 a2 W e0 k0.1 k0.2.1
  generalize hR0 : okR (terrB x0 y0 z0 && inB a1 0 (x0 - 1) && inB a2 0 (y0 - 1)) (a2 * x0 + a1) = R at hs hi
  have hR : ∃ m b, R = .tuple #[.int .i64 m, .bool b] := by rw [← hR0]; exact okR_shape _ _
  clear hR0
  obtain ⟨m, b, rfl⟩ := hR
  have Hs := Lib.hid hs
  have Hi := Lib.hid hi
  clear hs hi
  go_enter Try.func6, Try.ntmps6
  go_wp2_with fail
  with_reducible refine (szTerrain_ok _ _ _ (1048576 : Int) _ _ _ (k0.2.2.1.below (grow_trans hw0 hb)) (by omega) (by omega) (by omega)).mono ?_
  rintro e w1 ⟨rfl, hb1⟩
  replace hb := grow_trans hb hb1
  replace hc := (bcell hb).1
  go_wp2_with fail
  with_reducible refine (toTerrain_any x0 y0 v0 z0 _ (k0.2.2.1.below (grow_trans hw0 hb)) (by omega)).mono ?_
  rintro e w2 ⟨cg0, rfl, ocg0, hb2⟩
  replace hb := grow_trans hb hb2
  replace hc := (bcell hb).1
  go_wp2_with fail
  with_reducible refine (Hs.out _ cg0 (Sl.of_own ocg0)).mono ?_
  rintro e w3 ⟨rfl, hb3⟩
  replace ocg0 := own_below ocg0 hb3
  replace hb := grow_trans hb hb3
  replace hc := (bcell hb).1
  go_wp2_with fail
  with_reducible refine (toTerrain_any x0 y0 v0 z0 _ (k0.2.2.1.below (grow_trans hw0 hb)) (by omega)).mono ?_
  rintro e w4 ⟨cx0, rfl, ocx0, hb4⟩
  replace ocg0 := own_below ocg0 hb4
  replace hb := grow_trans hb hb4
  replace hc := (bcell hb).1
  obtain ⟨E0, c0, rfl, _⟩ := own_form ocx0
  replace ocg0 := own_below ocg0 (grow_alloc w4 (.cells #[.int .i64 x0, .int .i64 y0, .slice E0 z0.length c0] 34))
  replace ocx0 := own_below ocx0 (grow_alloc w4 (.cells #[.int .i64 x0, .int .i64 y0, .slice E0 z0.length c0] 34))
  replace hb := grow_trans hb (grow_alloc w4 (.cells #[.int .i64 x0, .int .i64 y0, .slice E0 z0.length c0] 34))
  have hbx0 : Below (w4.alloc (.cells #[.int .i64 x0, .int .i64 y0, .slice E0 z0.length c0] 34)).heap.size (w4.alloc (.cells #[.int .i64 x0, .int .i64 y0, .slice E0 z0.length c0] 34)) (w4.alloc (.cells #[.int .i64 x0, .int .i64 y0, .slice E0 z0.length c0] 34)) := Below.refl _ _
  have hcx0 := (bcell hbx0).1
  replace hc := (bcell hb).1
  go_wp2_with fail
  with_reducible refine (Hi.out _ _ (Sl.of_own ocx0)).mono ?_
  rintro e w5 ⟨rfl, hb5⟩
  replace ocg0 := own_below ocg0 hb5
  replace ocx0 := own_below ocx0 hb5
  replace hb := grow_trans hb hb5
  replace hbx0 := grow_trans hbx0 hb5
  replace hcx0 := (bcell hbx0).1
  replace hc := (bcell hb).1
  replace ocg0 := own_below ocg0 (grow_drew w5)
  replace ocx0 := own_below ocx0 (grow_drew w5)
  replace hbx0 := grow_trans hbx0 (grow_drew w5)
  replace hcx0 := (bcell hbx0).1
  replace hb := grow_trans hb (grow_drew w5)
  replace hc := (bcell hb).1
  go_wp2_with fail
  go_region_with (first | (go_at_call 22; with_reducible refine (toTerrain_any x0 y0 v0 z0 _ (k0.2.2.1.below (grow_trans hw0 hb)) (by omega)).mono ?_; intro e w6 hr6; unfold RetTerr at hr6; obtain ⟨cy0, rfl, ocy0, hb6⟩ := hr6; replace ocg0 := own_below ocg0 hb6; replace ocx0 := own_below ocx0 hb6; replace hbx0 := grow_trans hbx0 hb6; replace hcx0 := (bcell hbx0).1; replace hb := grow_trans hb hb6; replace hc := (bcell hb).1) | (go_at_call 24; with_reducible refine (eqTerrain_any x0 y0 _ _ z0 _ (Sl.of_own ocx0) (Sl.of_own ocy0)).mono ?_; rintro e w7 ⟨rfl, hb7⟩; replace ocg0 := own_below ocg0 hb7; replace ocx0 := own_below ocx0 hb7; replace ocy0 := own_below ocy0 hb7; replace hbx0 := grow_trans hbx0 hb7; replace hcx0 := (bcell hbx0).1; replace hb := grow_trans hb hb7; replace hc := (bcell hb).1))
  all_goals
    go_wp2
    go_ret
    exact ⟨rfl, grow_trans hw0 hb⟩

/-! the frame: the arguments opened, the row closed -/
set_option maxRecDepth 100000 in
theorem lifted (os : Os) (started : os.Started) (H : Type) (enc : TypeId × Value → H) :
    ReturnsInHanded {} Try.checked os 6 .any (Rows.fnExactCellAtSpec.pre6 enc Try.prog Try.f6 Rows.fnExactCellAtRow.domain false) (Rows.fnExactCellAtSpec.post enc Try.prog Try.f6 false true false false) := by
  refine law_lifted (C := Try.checked) own started (by kernel_rfl) Try.func6
    (ChangeSpec.witness6 (enc := enc) (C := Try.checked) false ⟨#[], #[.agg #[.int .i64 0, .int .i64 0, .slice none 0 0], .int .i64 0, .int .i64 0], []⟩ 8 (by kernel_rfl) (by kernel_rfl) (by kernel_rfl) (by kernel_rfl))
    laidOut (of_decide_eq_true (by kernel_rfl)) rfl Try.underlying4 rfl ?_
  intro W base args ds p hval hA
  rw [Try.params6] at hA hval
  obtain ⟨v0, vs0, d0, ds0, p0, q0, hargs, rfl, rfl, h0, r0⟩ := trodAll_cons hA
  obtain ⟨v1, vs1, d1, ds1, p1, q1, rfl, rfl, rfl, h1, r1⟩ := trodAll_cons r0
  obtain ⟨v2, vs2, d2, ds2, p2, q2, rfl, rfl, rfl, h2, r2⟩ := trodAll_cons r1
  obtain ⟨rfl, rfl, rfl⟩ := trodAll_nil r2
  obtain rfl : args = #[v0, v1, v2] := by cases args; simp_all
  obtain ⟨x0, y0, u0, z0, rfl, b0⟩ := open_terrain (hval 0 31 v0 rfl rfl) h0
  obtain ⟨a1, rfl, b1⟩ := open_i (hval 1 3 v1 rfl rfl) h1
  obtain ⟨a2, rfl, b2⟩ := open_i (hval 2 3 v2 rfl rfl) h2
  exact ⟨rfl, walk W x0 y0 u0 z0 b0 a1 b1 a2 b2⟩

theorem over : Rows.fnExactCellAtRow.holds Try.pinned (OpenSpec.ofChange Rows.fnExactCellAtSpec) :=
  OpenClaim.holds_of_wide 6 Try.f6 rfl rfl rfl rfl rfl rfl rfl ⟨rfl, rfl, rfl, rfl, rfl⟩ rfl rfl rfl rfl rfl (by kernel_rfl) Try.func6 (by kernel_rfl)
    (of_decide_eq_true (by kernel_rfl)) (by unfold Func.isWrapper; first | (rw [if_pos (by decide +kernel)]; kernel_rfl) | (rw [if_neg (by decide +kernel)]; exact ⟨rfl, rfl⟩))
    (fun os started H enc _ => lifted os started H enc)

theorem proved : Rows.FnExactCellAtSaid := over
#print axioms proved
end Go.Proofs.Ytdopgagehhdknaa.lCellAt
