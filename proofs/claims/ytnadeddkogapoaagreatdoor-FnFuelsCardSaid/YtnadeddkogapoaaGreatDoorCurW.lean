/- Moistures, slopes and directions that are drawn. Conditions: as each states. -/
import Derived.Test.YtnadeddkogapoaaGreatDoorCurL
namespace Go.Proofs.YtnadeddkogapoaaGreatDoor
open Go.ChangeShapes Go.WideShapes Go.ChangeAt Go.RowKit Go.Deep
set_option linter.unusedVariables false
set_option linter.unusedSimpArgs false
set_option maxRecDepth 100000

set_option maxHeartbeats 400000 in
theorem moist_any (C m : Nat) (w : World) (h : Cur w C m) (hm : m ≤ 1099511627700) :
    Calls Tryz.prog 54 #[.pointer (some ⟨C, 0, none⟩)] w fun e w' => ∃ x ∈ ([0, 9, 50, 149, 150, 249, 400, -1, 401] : List Int), e = .returned (.int .i64 x) ∧ Cur w' C (m + 4) ∧ w.grownBy w' (some C) := by
  have hlt := h.lt
  have hne : w.heap.size ≠ C := by omega
  have hb := grow_alloc w (.cells (([0, 9, 50, 149, 150, 249, 400, -1, 401] : List Int).map (Value.int .i64)).toArray 3)
  have HP := pick_any C m 24 _ (h.below hb) (by omega) (by omega)
  have HS := among_held w C 9 [0, 9, 50, 149, 150, 249, 400, -1, 401] rfl (by omega) hne
  simp only [List.map_cons, List.map_nil] at HP HS hb
  have HP := Lib.hid HP
  have HS := Lib.hid HS
  have HB := Lib.hid hb
  have hwn := Lib.hid hne
  clear h hlt hb hne
  go_enter Tryz.func54, Tryz.ntmps54
  go_wp2_with fail
  refine HP.out.mono ?_
  rintro e w1 ⟨v, rfl, ⟨x, rfl, x0, x1⟩, hc1, hg1⟩
  have hs1 : Hid (Sl w1 1 (.slice (some ⟨w.heap.size, 0, none⟩) 9 9) 9 (([0, 9, 50, 149, 150, 249, 400, -1, 401] : List Int).map (Value.int .i64))) := HS.out w1 hg1
  have hc1 := Lib.hid hc1
  have hg1 := Lib.hid (grownBy_trans (grownBy_of_below (r := some C) HB.out) hg1)
  clear HP HS HB
  rcases (show x / 11 = 0 ∨ x / 11 = 1 ∨ x / 11 = 2 by omega) with hx | hx | hx
  · go_wp2_with fail
    with_reducible refine (among_cut C _ _ 7 9 [0, 9, 50, 149, 150, 249, 400, -1, 401] _ rfl hc1.out (by omega) hs1.out hwn.out (by omega) (by omega)).mono ?_
    rintro e w2 ⟨z, hz, rfl, hc2, hg2⟩
    have hc2 := Lib.hid hc2
    have hg2 := Lib.hid (grownBy_trans hg1.out hg2)
    have hz := Lib.hid hz
    go_wp2
    go_ret
    exact ⟨z, hz.out, rfl, hc2.out.up (by omega), hg2.out⟩
  · go_wp2_with fail
    with_reducible refine (among_cut C _ _ 8 9 [0, 9, 50, 149, 150, 249, 400, -1, 401] _ rfl hc1.out (by omega) hs1.out hwn.out (by omega) (by omega)).mono ?_
    rintro e w2 ⟨z, hz, rfl, hc2, hg2⟩
    have hc2 := Lib.hid hc2
    have hg2 := Lib.hid (grownBy_trans hg1.out hg2)
    have hz := Lib.hid hz
    go_wp2
    go_ret
    exact ⟨z, hz.out, rfl, hc2.out.up (by omega), hg2.out⟩
  · go_wp2_with fail
    with_reducible refine (among_cut C _ _ 9 9 [0, 9, 50, 149, 150, 249, 400, -1, 401] _ rfl hc1.out (by omega) hs1.out hwn.out (by omega) (by omega)).mono ?_
    rintro e w2 ⟨z, hz, rfl, hc2, hg2⟩
    have hc2 := Lib.hid hc2
    have hg2 := Lib.hid (grownBy_trans hg1.out hg2)
    have hz := Lib.hid hz
    go_wp2
    go_ret
    exact ⟨z, hz.out, rfl, hc2.out.up (by omega), hg2.out⟩
end Go.Proofs.YtnadeddkogapoaaGreatDoor
