/- Whether a list is a set of a terrain's cells, in the reference. Conditions: none. -/
import Derived.Test.YtnacofmjipilhaaSet2
namespace Go.Proofs.Ytnacofmjipilhaa
open Go.ChangeShapes Go.WideShapes Go.ChangeAt Go.RowKit
set_option linter.unusedVariables false
set_option linter.unusedSimpArgs false
set_option maxRecDepth 100000

set_option maxHeartbeats 1000000 in
theorem l2Set_any (x y : Int) (u : Value) (zs : List Int) (v : Value) (cs : List Int) (w : World) (h : Sl w 1 u zs.length (ints zs)) (hc : Sl w 1 v cs.length (ints cs)) :
    Calls Try.prog 114 #[terrV x y u, v] w fun e w' => e = .returned (.bool (terrB x y zs && setB cs 0 (zs.length - 1))) ∧ Below w.heap.size w w' := by
  have hmx := h.len
  unfold maxLen at hmx
  have Hs := Lib.hid fun W hW => l2Good_any x y u zs W (h.below (w' := W) hW)
  have Hr := Lib.hid fun W hW lo hi => l1Rising_any v cs lo hi W (hc.below (w' := W) hW)
  obtain ⟨A, k, rfl⟩ := h.val
  clear h hc
  generalize terrB x y zs = R at *
  generalize zs.length = N at *
  cases R
  · go_enter Try.func114, Try.ntmps114
    go_wp2_with fail
    with_reducible refine (Hs.out _ (grow_alloc _ _)).mono ?_
    rintro e w1 ⟨rfl, hb1⟩
    go_wp2
    go_ret
    exact ⟨by simp, grow_trans (grow_alloc _ _) hb1⟩
  · go_enter Try.func114, Try.ntmps114
    go_wp2_with fail
    with_reducible refine (Hs.out _ (grow_alloc _ _)).mono ?_
    rintro e w1 ⟨rfl, hb1⟩
    have hc := (bcell hb1).1
    have hb2 := Lib.hid (grow_trans (grow_alloc _ _) hb1)
    go_wp2_with fail
    refine (Hr.out _ hb2.out _ _).mono ?_
    rintro e w2 ⟨rfl, hb3⟩
    have hb3 := Lib.hid (grow_trans hb2.out hb3)
    go_wp2
    go_ret
    exact ⟨by simp, hb3.out⟩
end Go.Proofs.Ytnacofmjipilhaa
