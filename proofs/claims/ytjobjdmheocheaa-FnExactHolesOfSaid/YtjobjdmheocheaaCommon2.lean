/- CommonRegion in the program. Conditions: none. -/
import Derived.Test.YtjobjdmheocheaaCommon
namespace Go.Proofs.Ytjobjdmheocheaa
open Go.ChangeShapes Go.WideShapes Go.ChangeAt Go.RowKit Go.Deep
set_option linter.unusedVariables false
set_option linter.unusedSimpArgs false
set_option maxRecDepth 100000

set_option maxHeartbeats 2000000 in
theorem CommonRegion_any (x y : Int) (u : Value) (zs : List Int) (va : Value) (xs : List Int) (vb : Value) (ys : List Int) (w : World) (h : Sl w 1 u zs.length (ints zs)) (ha : Sl w 1 va xs.length (ints xs)) (hb : Sl w 1 vb ys.length (ints ys)) (hn : xs.length ≤ 1048576) :
    Calls Try.prog 19 #[terrV x y u, va, vb] w (RetSel w (selR (twoB x y zs xs ys) (xs.filter (hasB ys))) (twoB x y zs xs ys)) := by
  obtain ⟨A, c, rfl⟩ := h.val
  obtain ⟨Aa, ca, rfl⟩ := ha.val
  obtain ⟨Ab, cb, rfl⟩ := hb.val
  have Hb1 : Hid (Below w.heap.size w ((w.alloc (.cells #[.int .i64 x, .int .i64 y, .slice A zs.length c] 28)).alloc (.cells #[.slice Ab ys.length cb] 22))) := grow_trans (grow_alloc _ _) (grow_alloc _ _)
  have Hb2 : Hid (Below w.heap.size w (((w.alloc (.cells #[.int .i64 x, .int .i64 y, .slice A zs.length c] 28)).alloc (.cells #[.slice Ab ys.length cb] 22)).alloc (.cells #[.slice Aa xs.length ca, .slice Ab ys.length cb] 22))) := grow_trans Hb1.out (grow_alloc _ _)
  have hv : Hid (Sl (((w.alloc (.cells #[.int .i64 x, .int .i64 y, .slice A zs.length c] 28)).alloc (.cells #[.slice Ab ys.length cb] 22)).alloc (.cells #[.slice Aa xs.length ca, .slice Ab ys.length cb] 22)) 1 (.slice (some ⟨w.heap.size + 1 + 1, 0, none⟩) 2 2) 2 [.slice Aa xs.length ca, .slice Ab ys.length cb]) := by
    show Sl _ _ _ _ _
    have := Sl.of_own (World.ownsRow_lit (base := 0) (e := 22) (size := 1) ((w.alloc (.cells #[.int .i64 x, .int .i64 y, .slice A zs.length c] 28)).alloc (.cells #[.slice Ab ys.length cb] 22)) #[.slice Aa xs.length ca, .slice Ab ys.length cb] 2 (Nat.zero_le _) (by unfold maxLen; omega) rfl)
    simpa using this
  have HR := Lib.hid (isRegion_two x y _ zs _ _ _ xs ys (((w.alloc (.cells #[.int .i64 x, .int .i64 y, .slice A zs.length c] 28)).alloc (.cells #[.slice Ab ys.length cb] 22)).alloc (.cells #[.slice Aa xs.length ca, .slice Ab ys.length cb] 22)) (h.below Hb2.out) hv.out (ha.below Hb2.out) (hb.below Hb2.out))
  have HF := Lib.hid fun W (hW : Below (((w.alloc (.cells #[.int .i64 x, .int .i64 y, .slice A zs.length c] 28)).alloc (.cells #[.slice Ab ys.length cb] 22)).alloc (.cells #[.slice Aa xs.length ca, .slice Ab ys.length cb] 22)).heap.size (((w.alloc (.cells #[.int .i64 x, .int .i64 y, .slice A zs.length c] 28)).alloc (.cells #[.slice Ab ys.length cb] 22)).alloc (.cells #[.slice Aa xs.length ca, .slice Ab ys.length cb] 22)) W) => filter_any (.slice Aa xs.length ca) xs 55 #[] #[.pointer (some ⟨w.heap.size + 1, 0, none⟩)] (hasB ys) W (ha.below (Hb2.out.trans (hW.mono Hb2.out.size))) hn callFunc_common
    (fun W' z hz hW' => by
      have hb3 := grow_trans hW hW'
      have := common1_any (.slice Ab ys.length cb) ys (w.heap.size + 1) z W' (by rw [hb3.cell (by simp)]; simp [go_sem]) (hb.below (Hb2.out.trans (hb3.mono Hb2.out.size)))
      simpa using this)
  clear hv h ha hb
  generalize twoB x y zs xs ys = T at *
  generalize xs.filter (hasB ys) = L at *
  generalize zs.length = N at *
  generalize xs.length = M at *
  generalize ys.length = K at *
  cases T
  · go_enter Try.func19, Try.ntmps19
    go_wp2_with fail
    with_reducible refine HR.out.mono ?_
    rintro e w1 ⟨rfl, hb1⟩
    have hb1 := Lib.hid (grow_trans Hb2.out hb1)
    go_wp2
    exact bodyPost_ret (v := .tuple #[.slice none 0 0, .bool false]) (by simp [results, Try.results19, go_sem]) rfl ⟨_, rfl, own_nil _ _ _ _, hb1.out⟩
  · go_enter Try.func19, Try.ntmps19
    go_wp2_with fail
    with_reducible refine HR.out.mono ?_
    rintro e w1 ⟨rfl, hb1⟩
    have hb1' := Lib.hid hb1
    have hb2 := Lib.hid (grow_trans Hb2.out hb1)
    clear hb1
    go_wp2_with fail
    with_reducible refine (HF.out _ hb1'.out).mono ?_
    rintro e w2 ⟨v, rfl, ho, hb3⟩
    have ho := Lib.hid (own_base ho hb2.out.size)
    have hb3 := Lib.hid (grow_trans hb2.out hb3)
    go_wp2
    exact bodyPost_ret (v := .tuple #[v, .bool true]) (by simp [results, Try.results19, go_sem]) rfl ⟨_, rfl, ho.out, hb3.out⟩
end Go.Proofs.Ytjobjdmheocheaa
