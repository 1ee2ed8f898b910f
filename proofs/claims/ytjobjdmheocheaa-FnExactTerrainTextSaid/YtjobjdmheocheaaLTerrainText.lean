/- FnExactTerrainText returns true for all arguments: the program's TerrainText answers as the reference's, leaves its arguments, and its result is new memory. Conditions: none. -/
import Derived.Test.YtjobjdmheocheaaPicT
import Derived.Test.YtjobjdmheocheaaOpen
import Derived.Deep.RegionWith
namespace Go.Proofs.Ytjobjdmheocheaa.lTerrainText
open Go.ChangeShapes Go.WideShapes Go.ChangeAt Go.RowKit
set_option linter.unusedVariables false
set_option linter.unusedSimpArgs false
set_option maxRecDepth 100000


set_option maxHeartbeats 4000000 in
theorem walk (w : World) (x0 y0 : Int) (v0 : Value) (z0 : List Int) (k0 : I64 x0 ∧ I64 y0 ∧ Sl w 1 v0 z0.length (z0.map (Value.int .i64)) ∧ ∀ z ∈ z0, I64 z) :
    Calls Try.prog 10 #[.agg #[.int .i64 x0, .int .i64 y0, v0]] w fun e w' => e = .returned (.bool true) ∧ Below w.heap.size w w' := by
  have hw0 : Below w.heap.size w (w.alloc (.cells #[.int .i64 x0, .int .i64 y0, v0] 24)) := grow_alloc _ _
  have hb : Below (w.alloc (.cells #[.int .i64 x0, .int .i64 y0, v0] 24)).heap.size (w.alloc (.cells #[.int .i64 x0, .int .i64 y0, v0] 24)) (w.alloc (.cells #[.int .i64 x0, .int .i64 y0, v0] 24)) := Below.refl _ _
  have hc := (bcell hb).1
  have m0 := k0.2.2.1.len
  unfold maxLen at m0
  by_cases q0 : z0.length ≤ 1048576
  case neg =>
    go_enter Try.func10, Try.ntmps10
    go_wp2_with fail
    with_reducible refine (szTerrain_no _ _ _ (1048576 : Int) _ _ _ (k0.2.2.1.below (grow_trans hw0 hb)) (by omega) (by omega) (by omega)).mono ?_
    rintro e w1 ⟨rfl, hb1⟩
    replace hb := grow_trans hb hb1
    replace hc := (bcell hb).1
    go_wp2
    go_ret
    exact ⟨rfl, grow_trans hw0 hb⟩
  have hs := fun (W : World) (u0 : Value) (e0 : Sl W 1 u0 z0.length (ints z0)) => sTerrainText_any x0 y0 u0 z0 W e0
  have hi := fun (W : World) (u0 : Value) (e0 : Sl W 1 u0 z0.length (ints z0)) => TerrainText_any x0 y0 u0 z0 W e0
  generalize hR0 : strT (terrB x0 y0 z0) (pic x0 (terF z0) z0.length) = R at hs hi
  have hR : ∃ m b, R = .tuple #[.string m, .bool b] := by rw [← hR0]; exact strT_shape _ _
  clear hR0
  obtain ⟨m, b, rfl⟩ := hR
  have Hs := Lib.hid hs
  have Hi := Lib.hid hi
  clear hs hi
  go_enter Try.func10, Try.ntmps10
  go_wp2_with fail
  with_reducible refine (szTerrain_ok _ _ _ (1048576 : Int) _ _ _ (k0.2.2.1.below (grow_trans hw0 hb)) (by omega) (by omega) (by omega)).mono ?_
  rintro e w1 ⟨rfl, hb1⟩
  replace hb := grow_trans hb hb1
  replace hc := (bcell hb).1
  go_wp2_with fail
  with_reducible refine (toTerrain_any x0 y0 v0 z0 _ (k0.2.2.1.below (grow_trans hw0 hb)) (by omega)).mono ?_
  rintro e w2 ⟨cg0, rfl, ocg0, hb2⟩
  replace hb := grow_trans hb hb2
  replace hc := (bcell hb).1
  go_wp2_with fail
  with_reducible refine (Hs.out _ cg0 (Sl.of_own ocg0)).mono ?_
  rintro e w3 ⟨rfl, hb3⟩
  replace ocg0 := own_below ocg0 hb3
  replace hb := grow_trans hb hb3
  replace hc := (bcell hb).1
  go_wp2_with fail
  with_reducible refine (toTerrain_any x0 y0 v0 z0 _ (k0.2.2.1.below (grow_trans hw0 hb)) (by omega)).mono ?_
  rintro e w4 ⟨cx0, rfl, ocx0, hb4⟩
  replace ocg0 := own_below ocg0 hb4
  replace hb := grow_trans hb hb4
  replace hc := (bcell hb).1
  obtain ⟨E0, c0, rfl, _⟩ := own_form ocx0
  replace ocg0 := own_below ocg0 (grow_alloc w4 (.cells #[.int .i64 x0, .int .i64 y0, .slice E0 z0.length c0] 28))
  replace ocx0 := own_below ocx0 (grow_alloc w4 (.cells #[.int .i64 x0, .int .i64 y0, .slice E0 z0.length c0] 28))
  replace hb := grow_trans hb (grow_alloc w4 (.cells #[.int .i64 x0, .int .i64 y0, .slice E0 z0.length c0] 28))
  have hbx0 : Below (w4.alloc (.cells #[.int .i64 x0, .int .i64 y0, .slice E0 z0.length c0] 28)).heap.size (w4.alloc (.cells #[.int .i64 x0, .int .i64 y0, .slice E0 z0.length c0] 28)) (w4.alloc (.cells #[.int .i64 x0, .int .i64 y0, .slice E0 z0.length c0] 28)) := Below.refl _ _
  have hcx0 := (bcell hbx0).1
  replace hc := (bcell hb).1
  go_wp2_with fail
  with_reducible refine (Hi.out _ _ (Sl.of_own ocx0)).mono ?_
  rintro e w5 ⟨rfl, hb5⟩
  replace ocg0 := own_below ocg0 hb5
  replace ocx0 := own_below ocx0 hb5
  replace hb := grow_trans hb hb5
  replace hbx0 := grow_trans hbx0 hb5
  replace hcx0 := (bcell hbx0).1
  replace hc := (bcell hb).1
  replace ocg0 := own_below ocg0 (grow_drew w5)
  replace ocx0 := own_below ocx0 (grow_drew w5)
  replace hbx0 := grow_trans hbx0 (grow_drew w5)
  replace hcx0 := (bcell hbx0).1
  replace hb := grow_trans hb (grow_drew w5)
  replace hc := (bcell hb).1
  go_wp2_with fail
  go_region_with (first | (go_at_call 17; with_reducible refine (toTerrain_any x0 y0 v0 z0 _ (k0.2.2.1.below (grow_trans hw0 hb)) (by omega)).mono ?_; intro e w6 hr6; unfold RetTerr at hr6; obtain ⟨cy0, rfl, ocy0, hb6⟩ := hr6; replace ocg0 := own_below ocg0 hb6; replace ocx0 := own_below ocx0 hb6; replace hbx0 := grow_trans hbx0 hb6; replace hcx0 := (bcell hbx0).1; replace hb := grow_trans hb hb6; replace hc := (bcell hb).1) | (go_at_call 21; with_reducible refine (eqTerrain_any x0 y0 _ _ z0 _ (Sl.of_own ocx0) (Sl.of_own ocy0)).mono ?_; rintro e w7 ⟨rfl, hb7⟩; replace ocg0 := own_below ocg0 hb7; replace ocx0 := own_below ocx0 hb7; replace ocy0 := own_below ocy0 hb7; replace hbx0 := grow_trans hbx0 hb7; replace hcx0 := (bcell hbx0).1; replace hb := grow_trans hb hb7; replace hc := (bcell hb).1))
  all_goals
    go_wp2
    go_ret
    exact ⟨rfl, grow_trans hw0 hb⟩

/-! the frame: the arguments opened, the row closed -/
set_option maxRecDepth 100000 in
theorem lifted (os : Os) (started : os.Started) (H : Type) (enc : TypeId × Value → H) :
    ReturnsInHanded {} Try.checked os 10 .any (Rows.fnExactTerrainTextSpec.pre6 enc Try.prog Try.f10 Rows.fnExactTerrainTextRow.domain false) (Rows.fnExactTerrainTextSpec.post enc Try.prog Try.f10 false true false false) := by
  refine law_lifted (C := Try.checked) own started (by kernel_rfl) Try.func10
    (ChangeSpec.witness6 (enc := enc) (C := Try.checked) false ⟨#[], #[.agg #[.int .i64 0, .int .i64 0, .slice none 0 0]], []⟩ 8 (by kernel_rfl) (by kernel_rfl) (by kernel_rfl) (by kernel_rfl))
    laidOut (of_decide_eq_true (by kernel_rfl)) rfl Try.underlying4 rfl ?_
  intro W base args ds p hval hA
  rw [Try.params10] at hA hval
  obtain ⟨v0, vs0, d0, ds0, p0, q0, hargs, rfl, rfl, h0, r0⟩ := trodAll_cons hA
  obtain ⟨rfl, rfl, rfl⟩ := trodAll_nil r0
  obtain rfl : args = #[v0] := by cases args; simp_all
  obtain ⟨x0, y0, u0, z0, rfl, b0⟩ := open_terrain (hval 0 24 v0 rfl rfl) h0
  exact ⟨rfl, walk W x0 y0 u0 z0 b0⟩

theorem over : Rows.fnExactTerrainTextRow.holds Try.pinned (OpenSpec.ofChange Rows.fnExactTerrainTextSpec) :=
  OpenClaim.holds_of_wide 10 Try.f10 rfl rfl rfl rfl rfl rfl rfl ⟨rfl, rfl, rfl, rfl, rfl⟩ rfl rfl rfl rfl rfl (by kernel_rfl) Try.func10 (by kernel_rfl)
    (of_decide_eq_true (by kernel_rfl)) (by unfold Func.isWrapper; first | (rw [if_pos (by decide +kernel)]; kernel_rfl) | (rw [if_neg (by decide +kernel)]; exact ⟨rfl, rfl⟩))
    (fun os started H enc _ => lifted os started H enc)

theorem proved : Rows.FnExactTerrainTextSaid := over
#print axioms proved
end Go.Proofs.Ytjobjdmheocheaa.lTerrainText
