/- HolesOf in the program and in the reference. Conditions: as each states. -/
import Derived.Test.YtjobjdmheocheaaHoles4
namespace Go.Proofs.Ytjobjdmheocheaa
open Go.ChangeShapes Go.WideShapes Go.ChangeAt Go.RowKit Go.Deep
set_option linter.unusedVariables false
set_option linter.unusedSimpArgs false
set_option maxRecDepth 100000

set_option maxHeartbeats 2000000 in
theorem HolesOf_any (x y : Int) (u : Value) (zs : List Int) (va : Value) (xs : List Int) (w : World) (h : Sl w 1 u zs.length (ints zs)) (ha : Sl w 1 va xs.length (ints xs)) :
    Calls Try.prog 47 #[terrV x y u, va] w (RetRR w (selRR (oneB x y zs xs) (holL x y zs.length xs)) (oneB x y zs xs)) := by
  obtain ⟨A, c, rfl⟩ := h.val
  obtain ⟨Aa, ca, rfl⟩ := ha.val
  have hb0 : Hid (Below w.heap.size w ((w.alloc (.cells #[.int .i64 x, .int .i64 y, .slice A zs.length c] 28)).alloc (.cells #[.slice Aa xs.length ca] 22))) := two_news _ _ _
  have hTB0 : Hid (TB ((w.alloc (.cells #[.int .i64 x, .int .i64 y, .slice A zs.length c] 28)).alloc (.cells #[.slice Aa xs.length ca] 22)) w.heap.size x y (.slice A zs.length c)) := by show TB _ _ _ _ _; unfold TB; simp [go_sem]
  have HR := Lib.hid (isRegion_one x y _ zs (.slice (some ⟨w.heap.size + 1, 0, none⟩) 1 1) _ xs ((w.alloc (.cells #[.int .i64 x, .int .i64 y, .slice A zs.length c] 28)).alloc (.cells #[.slice Aa xs.length ca] 22)) (h.below hb0.out) (Sl.boxAt (hp2 _ _ _)) (ha.below hb0.out))
  have HF : Hid (oneB x y zs xs = true → ∀ W, Below w.heap.size w W → Calls Try.prog 88 #[terrV x y (.slice A zs.length c), .slice Aa xs.length ca] W (RetRows W (holL x y zs.length xs))) := by
    show _ → _
    intro hT W hW
    obtain ⟨⟨hx1, hx2⟩, hzl, hr1, hr2, hxl⟩ := one_facts hT
    obtain ⟨_, ⟨y1, y2⟩, _, _⟩ := terr_dims (show terrB x y zs = true by unfold oneB at hT; simp only [Bool.and_eq_true] at hT; exact hT.1)
    exact holes_any x y (.slice A zs.length c) zs (.slice Aa xs.length ca) xs W (h.below hW) (ha.below hW) hx1 hx2 y1 y2 hzl
  clear h ha
  generalize oneB x y zs xs = T at *
  generalize holL x y zs.length xs = L at *
  generalize zs.length = N at *
  generalize xs.length = M at *
  cases T
  · go_enter Try.func47, Try.ntmps47
    go_wp2_with fail
    with_reducible refine HR.out.mono ?_
    rintro e w1 ⟨rfl, hb1⟩
    have hb1 := Lib.hid (grow_trans hb0.out hb1)
    go_wp2
    exact bodyPost_ret (v := .tuple #[.slice none 0 0, .bool false]) (by simp [results, Try.results47, go_sem]) rfl ⟨_, [], rfl, RowsV.nil (Qw.nil _ _ _ _), hb1.out⟩
  · have HG := Lib.hid (HF.out rfl)
    clear HF
    go_enter Try.func47, Try.ntmps47
    go_wp2_with fail
    with_reducible refine HR.out.mono ?_
    rintro e w1 ⟨rfl, hb1⟩
    have hT1 := hTB0.out.below hb1
    have hb2 := Lib.hid (grow_trans hb0.out hb1)
    have HC := Lib.hid (HG.out w1 hb2.out)
    obtain ⟨t0, t1, t2⟩ := hT1
    clear hb1
    go_wp2_with fail
    with_reducible refine HC.out.mono ?_
    rintro e w2 ⟨v, vs, rfl, ho, hb3⟩
    have ho := Lib.hid (ho.lower hb2.out.size)
    have hb3 := Lib.hid (grow_trans hb2.out hb3)
    go_wp2
    exact bodyPost_ret (v := .tuple #[v, .bool true]) (by simp [results, Try.results47, go_sem]) rfl ⟨_, vs, rfl, ho.out, hb3.out⟩
end Go.Proofs.Ytjobjdmheocheaa
