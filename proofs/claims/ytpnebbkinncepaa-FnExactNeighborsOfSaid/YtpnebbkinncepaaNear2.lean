/- NeighborsOf, in the program and in the reference. Conditions: none; each stands at any arguments. -/
import Derived.Test.YtpnebbkinncepaaNear
namespace Go.Proofs.Ytpnebbkinncepaa
open Go.ChangeShapes Go.WideShapes Go.ChangeAt Go.RowKit Go.Deep
set_option linter.unusedVariables false
set_option linter.unusedSimpArgs false
set_option maxRecDepth 100000

theorem cell_in' {x y : Int} {zs : List Int} {c : Int} (h : terrB x y zs = true) (hc : inB c 0 (zs.length - 1) = true) : 1 ≤ x ∧ x ≤ 5 ∧ 0 ≤ c ∧ c ≤ 25 ∧ (zs.length : Int) ≤ 25 := by
  obtain ⟨⟨x1, x2⟩, _, _, hn⟩ := terr_dims h
  obtain ⟨c1, c2⟩ := inB_iff.1 hc
  omega
set_option maxHeartbeats 1000000 in
theorem sNeighborsOf_any (x y : Int) (u : Value) (zs : List Int) (cl : Int) (w : World) (h : Sl w 1 u zs.length (ints zs)) :
    Calls Try.prog 16 #[terrV x y u, .int .i64 cl] w (RetSel w (selR (terrB x y zs && inB cl 0 (zs.length - 1)) (selN (nearP x cl) zs.length)) (terrB x y zs && inB cl 0 (zs.length - 1))) := by
  have Hg := Lib.hid fun W hW => l2Cell_any x y u zs cl W (h.below (w' := W) hW)
  have hd := cell_in' (x := x) (y := y) (zs := zs) (c := cl)
  have Hn := Lib.hid fun W hW h1 h2 h3 h4 hn => l2Near_any x y u zs cl W (h.below (w' := W) hW) h1 h2 h3 h4 hn
  obtain ⟨A, c, rfl⟩ := h.val
  cases hT : (terrB x y zs && inB cl 0 (zs.length - 1)) with
  | false =>
    rw [hT] at Hg
    clear hd hT h Hn
    generalize zs.length = N at *
    go_enter Try.func16, Try.ntmps16
    go_wp2_with fail
    with_reducible refine (Hg.out _ (grow_alloc _ _)).mono ?_
    rintro e w1 ⟨rfl, hb1⟩
    have hb1 := Lib.hid (grow_trans (grow_alloc _ _) hb1)
    have ho : Hid ((w1.alloc (.cells #[] 3)).ownsRow w.heap.size 3 1 (.slice (some ⟨w1.heap.size, 0, none⟩) 0 0) 0 []) := by
      show World.ownsRow _ _ _ _ _ _ _
      have := World.ownsRow_lit (base := w.heap.size) (e := 3) (size := 1) w1 #[] 0 hb1.out.size (by unfold maxLen; omega) rfl
      simpa using this
    go_wp2
    exact bodyPost_ret (v := .tuple #[.slice (some ⟨w1.heap.size, 0, none⟩) 0 0, .bool false]) (by simp [results, Try.results16, go_sem]) rfl ⟨_, rfl, ho.out, grow_trans hb1.out (grow_alloc _ _)⟩
  | true =>
    rw [hT] at Hg
    obtain ⟨hT1, hT2⟩ := Bool.and_eq_true_iff.1 hT
    obtain ⟨h1, h2, h3, h4, hn⟩ := hd hT1 hT2
    have Hs := Lib.hid fun W hW => Hn.out W hW h1 h2 h3 h4 hn
    clear hd hT h Hn hn hT1 hT2
    generalize selN (nearP x cl) zs.length = L at *
    generalize zs.length = N at *
    go_enter Try.func16, Try.ntmps16
    go_wp2_with fail
    with_reducible refine (Hg.out _ (grow_alloc _ _)).mono ?_
    rintro e w1 ⟨rfl, hb1⟩
    have hc := (bcell hb1).1
    have hb2 := Lib.hid (grow_trans (grow_alloc _ _) hb1)
    go_wp2_with fail
    with_reducible refine (Hs.out _ hb2.out).mono ?_
    rintro e w2 ⟨v, rfl, ho, hb3⟩
    have ho := Lib.hid (own_base ho hb2.out.size)
    have hb3 := Lib.hid (grow_trans hb2.out hb3)
    go_wp2
    exact bodyPost_ret (v := .tuple #[v, .bool true]) (by simp [results, Try.results16, go_sem]) rfl ⟨_, rfl, ho.out, hb3.out⟩
set_option maxHeartbeats 1000000 in
theorem NeighborsOf_any (x y : Int) (u : Value) (zs : List Int) (cl : Int) (w : World) (h : Sl w 1 u zs.length (ints zs)) :
    Calls Try.prog 18 #[terrV x y u, .int .i64 cl] w (RetSel w (selR (terrB x y zs && inB cl 0 (zs.length - 1)) (selN (nearP x cl) zs.length)) (terrB x y zs && inB cl 0 (zs.length - 1))) := by
  have Hg := Lib.hid fun W hW => IsTerrain_any x y u zs W (h.below (w' := W) hW)
  have Hc := Lib.hid fun W hW => isCell_any x y u _ _ cl W (h.below (w' := W) hW)
  have hd := cell_in' (x := x) (y := y) (zs := zs) (c := cl)
  have Hn := Lib.hid fun W hW h1 h2 h3 h4 hn => neighbors_any x y u zs cl W (h.below (w' := W) hW) h1 h2 h3 h4 hn
  obtain ⟨A, c, rfl⟩ := h.val
  generalize terrB x y zs = T at *
  generalize inB cl 0 (zs.length - 1) = B at *
  cases T with
  | false =>
    clear hd h Hn
    generalize zs.length = N at *
    go_enter Try.func18, Try.ntmps18
    go_wp2_with fail
    with_reducible refine (Hg.out _ (grow_alloc _ _)).mono ?_
    rintro e w1 ⟨rfl, hb1⟩
    have hb1 := Lib.hid (grow_trans (grow_alloc _ _) hb1)
    go_wp2
    exact bodyPost_ret (v := .tuple #[.slice none 0 0, .bool false]) (by simp [results, Try.results18, go_sem]) rfl ⟨_, rfl, own_nil _ _ _ _, hb1.out⟩
  | true =>
    cases B with
    | false =>
      clear hd h Hn
      generalize zs.length = N at *
      go_enter Try.func18, Try.ntmps18
      go_wp2_with fail
      with_reducible refine (Hg.out _ (grow_alloc _ _)).mono ?_
      rintro e w1 ⟨rfl, hb1⟩
      have hc := (bcell hb1).1
      have hb2 := Lib.hid (grow_trans (grow_alloc _ _) hb1)
      go_wp2_with fail
      with_reducible refine (Hc.out _ hb2.out).mono ?_
      rintro e w2 ⟨rfl, hb3⟩
      have hb3 := Lib.hid (grow_trans hb2.out hb3)
      go_wp2
      exact bodyPost_ret (v := .tuple #[.slice none 0 0, .bool false]) (by simp [results, Try.results18, go_sem]) rfl ⟨_, rfl, own_nil _ _ _ _, hb3.out⟩
    | true =>
      obtain ⟨h1, h2, h3, h4, hn⟩ := hd rfl rfl
      have Hs := Lib.hid fun W hW => Hn.out W hW h1 h2 h3 h4 hn
      clear hd h Hn hn
      generalize selN (nearP x cl) zs.length = L at *
      generalize zs.length = N at *
      go_enter Try.func18, Try.ntmps18
      go_wp2_with fail
      with_reducible refine (Hg.out _ (grow_alloc _ _)).mono ?_
      rintro e w1 ⟨rfl, hb1⟩
      have hc := (bcell hb1).1
      have hb2 := Lib.hid (grow_trans (grow_alloc _ _) hb1)
      go_wp2_with fail
      with_reducible refine (Hc.out _ hb2.out).mono ?_
      rintro e w2 ⟨rfl, hb3⟩
      replace hc := (bcell (grow_trans hb1 hb3)).1
      have hb3 := Lib.hid (grow_trans hb2.out hb3)
      go_wp2_with fail
      with_reducible refine (Hs.out _ hb3.out).mono ?_
      rintro e w3 ⟨v, rfl, ho, hb4⟩
      have ho := Lib.hid (own_base ho hb3.out.size)
      have hb4 := Lib.hid (grow_trans hb3.out hb4)
      go_wp2
      exact bodyPost_ret (v := .tuple #[v, .bool true]) (by simp [results, Try.results18, go_sem]) rfl ⟨_, rfl, ho.out, hb4.out⟩
end Go.Proofs.Ytpnebbkinncepaa
