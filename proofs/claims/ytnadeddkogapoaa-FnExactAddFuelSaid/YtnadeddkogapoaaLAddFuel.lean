/- FnExactAddFuel returns true for all arguments: the program's AddFuel answers as the reference's, leaves its arguments, and its result is new memory. Conditions: none. -/
import Derived.Test.YtnadeddkogapoaaAddF
import Derived.Test.YtnadeddkogapoaaAddG
import Derived.Test.YtnadeddkogapoaaHeldF
import Derived.Test.YtnadeddkogapoaaOpenU
namespace Go.Proofs.Ytnadeddkogapoaa.lAddFuel
open Go.ChangeShapes Go.WideShapes Go.ChangeAt Go.RowKit Go.Deep Go.Proofs.Ytnadeddkogapoaa
set_option linter.unusedVariables false
set_option linter.unusedSimpArgs false
set_option maxRecDepth 100000

theorem box_lt {w : World} {B : Nat} {v : Value} (h : w.cell? ⟨B, 0, none⟩ = some v) : B + 1 ≤ w.heap.size := World.block_lt_of_cell? w _ h
theorem cell_far {W W' : World} {B o : Nat} {v : Value} {row : Option Nat} (h : W.cell? ⟨B, o, none⟩ = some v) (hg : W.grownBy W' row) (hr : ∀ j, row = some j → B < j) : W'.cell? ⟨B, o, none⟩ = some v :=
  hg.cell h (by intro e; have := hr B e.symm; omega)
theorem law_box (w : World) (i : Int) (n : ByteArray) (r l o : Int) :
    (w.alloc (.cells #[.int .i64 i, .string n, .int .i64 r, .int .i64 l, .int .i64 o] 24)).cell? ⟨w.heap.size, 0, none⟩ = some (.int .i64 i) ∧
    (w.alloc (.cells #[.int .i64 i, .string n, .int .i64 r, .int .i64 l, .int .i64 o] 24)).cell? ⟨w.heap.size, 1, none⟩ = some (.string n) ∧
    (w.alloc (.cells #[.int .i64 i, .string n, .int .i64 r, .int .i64 l, .int .i64 o] 24)).cell? ⟨w.heap.size, 2, none⟩ = some (.int .i64 r) ∧
    (w.alloc (.cells #[.int .i64 i, .string n, .int .i64 r, .int .i64 l, .int .i64 o] 24)).cell? ⟨w.heap.size, 3, none⟩ = some (.int .i64 l) ∧
    (w.alloc (.cells #[.int .i64 i, .string n, .int .i64 r, .int .i64 l, .int .i64 o] 24)).cell? ⟨w.heap.size, 4, none⟩ = some (.int .i64 o) := by
  refine ⟨?_, ?_, ?_, ?_, ?_⟩ <;> simp [go_sem]
set_option maxHeartbeats 8000000 in
theorem walk (w : World) (v0 : Value) (z0 : List Fu) (k0 : Sl w 5 v0 z0.length (fus z0) ∧ ∀ z ∈ z0, z.n.size ≤ maxLen) (ei : Int) (en : ByteArray) (er el eo : Int) (hm : en.size ≤ maxLen) :
    Calls Try.prog 3 #[v0, .agg #[.int .i64 ei, .string en, .int .i64 er, .int .i64 el, .int .i64 eo]] w fun e w' => e = .returned (.bool true) ∧ Below w.heap.size w w' := by
  have m0 := k0.1.len
  unfold maxLen at m0
  have hba := grow_alloc w (.cells #[.int .i64 ei, .string en, .int .i64 er, .int .i64 el, .int .i64 eo] 24)
  have hb : Hid (Below w.heap.size w (w.alloc (.cells #[.int .i64 ei, .string en, .int .i64 er, .int .i64 el, .int .i64 eo] 24))) := hba
  obtain ⟨c0, c1, c2, c3, c4⟩ := law_box w ei en er el eo
  have k1 := k0.1.below hba
  clear hba
  by_cases q0 : fszN z0 ≤ 1048576
  case neg =>
    have HZ := Lib.hid (szFuelS_no _ (1048576 : Int) z0 _ k1 k0.2 (by omega) (by omega) (by omega))
    go_enter Try.func3, Try.ntmps3
    go_wp2_with fail
    with_reducible refine HZ.out.mono ?_
    rintro e w1 ⟨rfl, hb1⟩
    replace hb := Lib.hid (grow_trans hb.out hb1)
    clear hb1 HZ
    go_wp2
    go_ret
    exact ⟨rfl, hb.out⟩
  have hz8 : z0.length ≤ 1048576 := by have := fszN_len z0; omega
  have HZ := Lib.hid (szFuelS_ok _ (1048576 : Int) z0 _ k1 k0.2 (by omega) (by omega) (by omega))
  have HT := Lib.hid fun (W : World) (hW : Below w.heap.size w W) => toFuelS_any v0 z0 W (k0.1.below hW) k0.2 hz8
  obtain ⟨lf, hlf⟩ : ∃ lf : Int, lf = 1048576 - (fszN z0 : Int) := ⟨_, rfl⟩
  have hlf0 : 0 ≤ lf := by omega
  have hlf1 : lf ≤ 1048576 := by omega
  rw [← hlf] at HZ
  clear hlf
  have HY := Lib.hid fun W => szFuel_any ei en er el eo lf W hm hlf0 hlf1
  by_cases q1 : lf - en.size < 0
  case pos =>
    have hy : szN lf en.size = -1 := by unfold szN; rw [if_pos q1]
    rw [hy] at HY
    clear hy
    go_enter Try.func3, Try.ntmps3
    go_wp2_with fail
    with_reducible refine HZ.out.mono ?_
    rintro e w1 ⟨rfl, hb1⟩
    replace c0 := cell_below0 c0 hb1
    replace c1 := cell_below0 c1 hb1
    replace c2 := cell_below0 c2 hb1
    replace c3 := cell_below0 c3 hb1
    replace c4 := cell_below0 c4 hb1
    replace hb := Lib.hid (grow_trans hb.out hb1)
    clear hb1 HZ
    go_wp2_with fail
    with_reducible refine (HY.out _).mono ?_
    rintro e w2 ⟨rfl, hb1⟩
    replace hb := Lib.hid (grow_trans hb.out hb1)
    clear hb1 HY
    go_wp2
    go_ret
    exact ⟨rfl, hb.out⟩
  obtain ⟨lg, hlg⟩ : ∃ lg : Int, lg = lf - (en.size : Int) := ⟨_, rfl⟩
  have hlg0 : 0 ≤ lg := by omega
  have hy : szN lf en.size = lg := by unfold szN; rw [if_neg q1, hlg]
  rw [hy] at HY
  clear hy hlg q1
  have HF := Lib.hid fun W => toFuel_any ei en er el eo W
  have hs := fun (W : World) (u0 : Value) (e0 : Sl W 5 u0 z0.length (fus z0)) => sAddFuel_any u0 z0 ei en er el eo W e0 k0.2 hm
  have hi := fun (W : World) (u0 : Value) (e0 : Sl W 5 u0 z0.length (fus z0)) => AddFuel_any u0 z0 ei en er el eo W e0 k0.2 hm hz8
  unfold RetAfQ at hs
  unfold RetAf at hi
  have hlen : (adR z0 ⟨ei, en, er, el, eo⟩).length ≤ 8 := adR_le _ _
  generalize adR z0 ⟨ei, en, er, el, eo⟩ = rs at *
  generalize adB z0 ⟨ei, en, er, el, eo⟩ = ok at *
  have Hs := Lib.hid hs
  have Hi := Lib.hid hi
  clear hs hi
  go_enter Try.func3, Try.ntmps3
  go_wp2_with fail
  refine (HZ.out).mono ?_
  rintro e w1 ⟨rfl, hb'⟩
  replace c0 := cell_below0 c0 hb'
  replace c1 := cell_below0 c1 hb'
  replace c2 := cell_below0 c2 hb'
  replace c3 := cell_below0 c3 hb'
  replace c4 := cell_below0 c4 hb'
  replace hb := Lib.hid (grow_trans hb.out hb')
  clear hb'
  clear HZ
  go_wp2_with fail
  refine (HY.out _).mono ?_
  rintro e w2 ⟨rfl, hb'⟩
  replace c0 := cell_below0 c0 hb'
  replace c1 := cell_below0 c1 hb'
  replace c2 := cell_below0 c2 hb'
  replace c3 := cell_below0 c3 hb'
  replace c4 := cell_below0 c4 hb'
  replace hb := Lib.hid (grow_trans hb.out hb')
  clear hb'
  clear HY
  go_wp2_with fail
  refine wp_region_held_drew (S := (fun W => (W.cell? ⟨w.heap.size, 0, none⟩ = some (.int .i64 ei) ∧ W.cell? ⟨w.heap.size, 1, none⟩ = some (.string en) ∧ W.cell? ⟨w.heap.size, 2, none⟩ = some (.int .i64 er) ∧ W.cell? ⟨w.heap.size, 3, none⟩ = some (.int .i64 el) ∧ W.cell? ⟨w.heap.size, 4, none⟩ = some (.int .i64 eo)))) (by kernel_rfl) (C5.below (W := w2) ⟨c0, c1, c2, c3, c4⟩ (grow_drew w2)) (fun hHeld => ?_)
  have hbd := grow_drew w2
  replace c0 := cell_below0 c0 hbd
  replace c1 := cell_below0 c1 hbd
  replace c2 := cell_below0 c2 hbd
  replace c3 := cell_below0 c3 hbd
  replace c4 := cell_below0 c4 hbd
  replace hb := Lib.hid (grow_trans hb.out hbd)
  clear hbd
  generalize w2.drew = Wd at *
  refine wpAnyH_take (i := 0) (v := ?_) rfl (by kernel_rfl) (by kernel_rfl) (by kernel_rfl) (fun _ _ _ h => h) (Or.inl ⟨by rfl, ?_⟩) (by assumption) ?_
  rotate_left
  · intro w hSw
    try dsimp only at hSw
    go_simp
    try (with_reducible rfl)
  try simp only [Act.put, List.setIfInBounds_toArray, List.set_cons_zero, List.set_cons_succ]
  refine wpAnyH_take (i := 2) (v := ?_) rfl (by kernel_rfl) (by kernel_rfl) (by kernel_rfl) (fun _ _ _ h => h) (Or.inl ⟨by rfl, ?_⟩) (by assumption) ?_
  rotate_left
  · intro w hSw
    try dsimp only at hSw
    go_simp
    try (with_reducible rfl)
  try simp only [Act.put, List.setIfInBounds_toArray, List.set_cons_zero, List.set_cons_succ]
  refine wpAnyH_ready (rs := [1]) (by kernel_rfl) (by simp) ?_
  refine AllReadyH.cons rfl (fun K hK => ?_) AllReadyH.nil
  go_simp
  go_at_call 7
  refine (HT.out _ hb.out).mono ?_
  rintro e w3 ⟨cg, rfl, ocg, hb'⟩
  replace c0 := cell_below0 c0 hb'
  replace c1 := cell_below0 c1 hb'
  replace c2 := cell_below0 c2 hb'
  replace c3 := cell_below0 c3 hb'
  replace c4 := cell_below0 c4 hb'
  replace hb := Lib.hid (grow_trans hb.out hb')
  replace ocg := Lib.hid ocg
  clear hb'
  refine hK.out _ _ ⟨c0, c1, c2, c3, c4⟩ (fun hHeld => ?_)
  clear hK K
  refine wpAnyH_ready (rs := [3]) (by kernel_rfl) (by simp) ?_
  refine AllReadyH.cons rfl (fun K hK => ?_) AllReadyH.nil
  go_simp
  go_at_call 8
  refine (HF.out _).mono ?_
  rintro e w4 ⟨rfl, hb'⟩
  replace ocg := Lib.hid (own_below ocg.out hb')
  replace c0 := cell_below0 c0 hb'
  replace c1 := cell_below0 c1 hb'
  replace c2 := cell_below0 c2 hb'
  replace c3 := cell_below0 c3 hb'
  replace c4 := cell_below0 c4 hb'
  replace hb := Lib.hid (grow_trans hb.out hb')
  clear hb'
  refine hK.out _ _ ⟨c0, c1, c2, c3, c4⟩ (fun hHeld => ?_)
  clear hK K
  refine wpAnyH_ready (rs := [4]) (by kernel_rfl) (by simp) ?_
  refine AllReadyH.cons rfl (fun K hK => ?_) AllReadyH.nil
  have srw0 := Lib.hid (box_lt c0)
  go_simp
  go_at_call 6
  refine (Hs.out _ cg (Sl.of_own ocg.out)).mono ?_
  rintro e w5 ⟨rw0, rfl, orw0, hb'⟩
  have lrw0 := Lib.hid orw0.lt
  have trw0 := Lib.hid hb'.size
  replace ocg := Lib.hid (own_below ocg.out hb')
  replace c0 := cell_below0 c0 hb'
  replace c1 := cell_below0 c1 hb'
  replace c2 := cell_below0 c2 hb'
  replace c3 := cell_below0 c3 hb'
  replace c4 := cell_below0 c4 hb'
  replace hb := Lib.hid (grow_trans hb.out hb')
  replace orw0 := Lib.hid orw0
  clear hb'
  refine hK.out _ _ ⟨c0, c1, c2, c3, c4⟩ (fun hHeld => ?_)
  clear hK K
  refine wpAnyH_take (i := 5) (v := ?_) rfl (by kernel_rfl) (by kernel_rfl) (by kernel_rfl) (fun _ _ _ h => h) (Or.inl ⟨by rfl, ?_⟩) (by assumption) ?_
  rotate_left
  · intro w hSw
    try dsimp only at hSw
    go_simp
    try (with_reducible rfl)
  try simp only [Act.put, List.setIfInBounds_toArray, List.set_cons_zero, List.set_cons_succ]
  refine wpAnyH_take (i := 6) (v := ?_) rfl (by kernel_rfl) (by kernel_rfl) (by kernel_rfl) (fun _ _ _ h => h) (Or.inl ⟨by rfl, ?_⟩) (by assumption) ?_
  rotate_left
  · intro w hSw
    try dsimp only at hSw
    go_simp
    try (with_reducible rfl)
  try simp only [Act.put, List.setIfInBounds_toArray, List.set_cons_zero, List.set_cons_succ]
  refine wpAnyH_take (i := 7) (v := ?_) rfl (by kernel_rfl) (by kernel_rfl) (by kernel_rfl) (fun _ _ _ h => h) (Or.inl ⟨by rfl, ?_⟩) (by assumption) ?_
  rotate_left
  · intro w hSw
    try dsimp only at hSw
    go_simp
    try (with_reducible rfl)
  try simp only [Act.put, List.setIfInBounds_toArray, List.set_cons_zero, List.set_cons_succ]
  refine wpAnyH_take (i := 8) (v := ?_) rfl (by kernel_rfl) (by kernel_rfl) (by kernel_rfl) (fun _ _ _ h => h) (Or.inl ⟨by rfl, ?_⟩) (by assumption) ?_
  rotate_left
  · intro w hSw
    try dsimp only at hSw
    go_simp
    try (with_reducible rfl)
  try simp only [Act.put, List.setIfInBounds_toArray, List.set_cons_zero, List.set_cons_succ]
  refine wpAnyH_take (i := 9) (v := ?_) rfl (by kernel_rfl) (by kernel_rfl) (by kernel_rfl) (fun _ _ _ h => h) (Or.inl ⟨by rfl, ?_⟩) (by assumption) ?_
  rotate_left
  · intro w hSw
    try dsimp only at hSw
    go_simp
    try (with_reducible rfl)
  try simp only [Act.put, List.setIfInBounds_toArray, List.set_cons_zero, List.set_cons_succ]
  refine wpAnyH_done (by kernel_rfl) ?_ _
  clear hHeld
  clear ocg Hs
  have scx := Lib.hid (box_lt c0)
  go_wp2_with fail
  refine (HT.out _ hb.out).mono ?_
  rintro e w6 ⟨cx, rfl, ocx, hb'⟩
  have lcx := Lib.hid ocx.lt
  have tcx := Lib.hid hb'.size
  replace orw0 := Lib.hid (orw0.out.below hb')
  replace c0 := cell_below0 c0 hb'
  replace c1 := cell_below0 c1 hb'
  replace c2 := cell_below0 c2 hb'
  replace c3 := cell_below0 c3 hb'
  replace c4 := cell_below0 c4 hb'
  replace hb := Lib.hid (grow_trans hb.out hb')
  replace ocx := Lib.hid ocx
  clear hb'
  go_wp2_with fail
  refine (HF.out _).mono ?_
  rintro e w7 ⟨rfl, hb'⟩
  have tF := Lib.hid hb'.size
  replace orw0 := Lib.hid (orw0.out.below hb')
  replace ocx := Lib.hid (own_below ocx.out hb')
  replace c0 := cell_below0 c0 hb'
  replace c1 := cell_below0 c1 hb'
  replace c2 := cell_below0 c2 hb'
  replace c3 := cell_below0 c3 hb'
  replace c4 := cell_below0 c4 hb'
  replace hb := Lib.hid (grow_trans hb.out hb')
  clear hb'
  go_wp2_with fail
  refine (Hi.out _ cx (Sl.of_own ocx.out)).mono ?_
  rintro e w8 ⟨rg, rfl, org, hb'⟩
  have srg := Lib.hid (box_lt c0)
  have lrg := Lib.hid org.lt
  replace orw0 := Lib.hid (orw0.out.below hb')
  replace ocx := Lib.hid (own_below ocx.out hb')
  replace c0 := cell_below0 c0 hb'
  replace c1 := cell_below0 c1 hb'
  replace c2 := cell_below0 c2 hb'
  replace c3 := cell_below0 c3 hb'
  replace c4 := cell_below0 c4 hb'
  replace hb := Lib.hid (grow_trans hb.out hb')
  replace org := Lib.hid org
  clear hb'
  go_wp2_with fail
  refine (eqFuelS_any _ _ rs _ (Sl.of_own org.out) (Sl.of_q orw0.out)).mono ?_
  rintro e w9 ⟨rfl, hb'⟩
  replace orw0 := Lib.hid (orw0.out.below hb')
  replace ocx := Lib.hid (own_below ocx.out hb')
  replace org := Lib.hid (own_below org.out hb')
  replace c0 := cell_below0 c0 hb'
  replace c1 := cell_below0 c1 hb'
  replace c2 := cell_below0 c2 hb'
  replace c3 := cell_below0 c3 hb'
  replace c4 := cell_below0 c4 hb'
  replace hb := Lib.hid (grow_trans hb.out hb')
  clear hb'
  go_wp2_with fail
  refine (HT.out _ hb.out).mono ?_
  rintro e w10 ⟨cy, rfl, ocy, hb'⟩
  replace orw0 := Lib.hid (orw0.out.below hb')
  replace ocx := Lib.hid (own_below ocx.out hb')
  replace org := Lib.hid (own_below org.out hb')
  replace c0 := cell_below0 c0 hb'
  replace c1 := cell_below0 c1 hb'
  replace c2 := cell_below0 c2 hb'
  replace c3 := cell_below0 c3 hb'
  replace c4 := cell_below0 c4 hb'
  replace hb := Lib.hid (grow_trans hb.out hb')
  replace ocy := Lib.hid ocy
  clear hb'
  go_wp2_with fail
  refine (eqFuelS_any _ _ z0 _ (Sl.of_own ocx.out) (Sl.of_own ocy.out)).mono ?_
  rintro e w11 ⟨rfl, hb'⟩
  replace orw0 := Lib.hid (orw0.out.below hb')
  replace ocx := Lib.hid (own_below ocx.out hb')
  replace org := Lib.hid (own_below org.out hb')
  replace ocy := Lib.hid (own_below ocy.out hb')
  replace c0 := cell_below0 c0 hb'
  replace c1 := cell_below0 c1 hb'
  replace c2 := cell_below0 c2 hb'
  replace c3 := cell_below0 c3 hb'
  replace c4 := cell_below0 c4 hb'
  replace hb := Lib.hid (grow_trans hb.out hb')
  clear hb'
  clear ocy
  have HM := Lib.hid (markFuelS_any _ 1 z0.length _ _ _ ocx.out (by omega) hz8)
  go_wp2_with fail
  refine HM.out.mono ?_
  intro e w12 hm
  unfold RetMarkF at hm
  obtain ⟨rfl, om, hg⟩ := hm
  replace orw0 := Lib.hid (orw0.out.kept hg (fun j hj e => by have h1 := lrw0.out j hj; have h2 := lcx.out j e.symm; omega))
  replace org := Lib.hid (own_kept org.out hg (fun j hj e => by have h1 := lrg.out j hj; have h2 := lcx.out j e.symm; have h3 := tF.out; omega))
  have hcx : ∀ j, cx.ownBlock = some j → w.heap.size + 1 ≤ j := fun j hj => by have h2 := lcx.out j hj; have h3 := srw0.out; have h4 := scx.out; omega
  replace c0 := cell_far c0 hg (fun j hj => by have := hcx j hj; omega)
  replace c1 := cell_far c1 hg (fun j hj => by have := hcx j hj; omega)
  replace c2 := cell_far c2 hg (fun j hj => by have := hcx j hj; omega)
  replace c3 := cell_far c3 hg (fun j hj => by have := hcx j hj; omega)
  replace c4 := cell_far c4 hg (fun j hj => by have := hcx j hj; omega)
  replace hb := Lib.hid (hb.out.grown hg hb.out.size (fun j hj => by have := hcx j hj; omega))
  clear hg HM om ocx hcx
  go_wp2_with fail
  refine (eqFuelS_any _ _ rs _ (Sl.of_own org.out) (Sl.of_q orw0.out)).mono ?_
  rintro e w13 ⟨rfl, hb'⟩
  replace orw0 := Lib.hid (orw0.out.below hb')
  replace org := Lib.hid (own_below org.out hb')
  replace c0 := cell_below0 c0 hb'
  replace c1 := cell_below0 c1 hb'
  replace c2 := cell_below0 c2 hb'
  replace c3 := cell_below0 c3 hb'
  replace c4 := cell_below0 c4 hb'
  replace hb := Lib.hid (grow_trans hb.out hb')
  clear hb'
  have HM := Lib.hid (markFuelS_any _ 1 rs.length _ _ _ org.out (by omega) (by omega))
  go_wp2_with fail
  refine HM.out.mono ?_
  intro e w14 hm
  unfold RetMarkF at hm
  obtain ⟨rfl, om, hg⟩ := hm
  replace orw0 := Lib.hid (orw0.out.kept hg (fun j hj e => by have h1 := lrw0.out j hj; have h2 := lrg.out j e.symm; have h3 := tcx.out; have h4 := tF.out; omega))
  have hrx : ∀ j, rg.ownBlock = some j → w.heap.size + 1 ≤ j := fun j hj => by have h2 := lrg.out j hj; have h3 := srw0.out; have h4 := scx.out; have h5 := srg.out; omega
  replace c0 := cell_far c0 hg (fun j hj => by have := hrx j hj; omega)
  replace c1 := cell_far c1 hg (fun j hj => by have := hrx j hj; omega)
  replace c2 := cell_far c2 hg (fun j hj => by have := hrx j hj; omega)
  replace c3 := cell_far c3 hg (fun j hj => by have := hrx j hj; omega)
  replace c4 := cell_far c4 hg (fun j hj => by have := hrx j hj; omega)
  replace hb := Lib.hid (hb.out.grown hg hb.out.size (fun j hj => by have := hrx j hj; omega))
  replace org := Lib.hid om
  clear hg HM om hrx
  have HH := Lib.hid fun W o => heldFuelS_any rg 1 rs.length W o (by omega) (by omega)
  go_wp2_with fail
  refine (HH.out _ (Sl.of_own org.out)).mono ?_
  rintro e w15 ⟨rfl, hb'⟩
  replace orw0 := Lib.hid (orw0.out.below hb')
  replace org := Lib.hid (own_below org.out hb')
  replace c0 := cell_below0 c0 hb'
  replace c1 := cell_below0 c1 hb'
  replace c2 := cell_below0 c2 hb'
  replace c3 := cell_below0 c3 hb'
  replace c4 := cell_below0 c4 hb'
  replace hb := Lib.hid (grow_trans hb.out hb')
  clear hb'
  go_wp2_with fail
  refine wp_region_held_drew (S := (fun W => (W.cell? ⟨w.heap.size, 0, none⟩ = some (.int .i64 ei) ∧ W.cell? ⟨w.heap.size, 1, none⟩ = some (.string en) ∧ W.cell? ⟨w.heap.size, 2, none⟩ = some (.int .i64 er) ∧ W.cell? ⟨w.heap.size, 3, none⟩ = some (.int .i64 el) ∧ W.cell? ⟨w.heap.size, 4, none⟩ = some (.int .i64 eo)))) (by kernel_rfl) (C5.below (W := w15) ⟨c0, c1, c2, c3, c4⟩ (grow_drew w15)) (fun hHeld => ?_)
  have hbd := grow_drew w15
  replace orw0 := Lib.hid (orw0.out.below hbd)
  replace org := Lib.hid (own_below org.out hbd)
  replace c0 := cell_below0 c0 hbd
  replace c1 := cell_below0 c1 hbd
  replace c2 := cell_below0 c2 hbd
  replace c3 := cell_below0 c3 hbd
  replace c4 := cell_below0 c4 hbd
  replace hb := Lib.hid (grow_trans hb.out hbd)
  clear hbd
  generalize w15.drew = Wd at *
  refine wpAnyH_take (i := 0) (v := ?_) rfl (by kernel_rfl) (by kernel_rfl) (by kernel_rfl) (fun _ _ _ h => h) (Or.inl ⟨by rfl, ?_⟩) (by assumption) ?_
  rotate_left
  · intro w hSw
    try dsimp only at hSw
    go_simp
    try (with_reducible rfl)
  try simp only [Act.put, List.setIfInBounds_toArray, List.set_cons_zero, List.set_cons_succ]
  refine wpAnyH_take (i := 2) (v := ?_) rfl (by kernel_rfl) (by kernel_rfl) (by kernel_rfl) (fun _ _ _ h => h) (Or.inl ⟨by rfl, ?_⟩) (by assumption) ?_
  rotate_left
  · intro w hSw
    try dsimp only at hSw
    go_simp
    try (with_reducible rfl)
  try simp only [Act.put, List.setIfInBounds_toArray, List.set_cons_zero, List.set_cons_succ]
  refine wpAnyH_ready (rs := [1]) (by kernel_rfl) (by simp) ?_
  refine AllReadyH.cons rfl (fun K hK => ?_) AllReadyH.nil
  go_simp
  go_at_call 7
  refine (HT.out _ hb.out).mono ?_
  rintro e w16 ⟨ch, rfl, och, hb'⟩
  replace orw0 := Lib.hid (orw0.out.below hb')
  replace org := Lib.hid (own_below org.out hb')
  replace c0 := cell_below0 c0 hb'
  replace c1 := cell_below0 c1 hb'
  replace c2 := cell_below0 c2 hb'
  replace c3 := cell_below0 c3 hb'
  replace c4 := cell_below0 c4 hb'
  replace hb := Lib.hid (grow_trans hb.out hb')
  replace och := Lib.hid och
  clear hb'
  refine hK.out _ _ ⟨c0, c1, c2, c3, c4⟩ (fun hHeld => ?_)
  clear hK K
  refine wpAnyH_ready (rs := [3]) (by kernel_rfl) (by simp) ?_
  refine AllReadyH.cons rfl (fun K hK => ?_) AllReadyH.nil
  go_simp
  go_at_call 8
  refine (HF.out _).mono ?_
  rintro e w17 ⟨rfl, hb'⟩
  replace orw0 := Lib.hid (orw0.out.below hb')
  replace org := Lib.hid (own_below org.out hb')
  replace och := Lib.hid (own_below och.out hb')
  replace c0 := cell_below0 c0 hb'
  replace c1 := cell_below0 c1 hb'
  replace c2 := cell_below0 c2 hb'
  replace c3 := cell_below0 c3 hb'
  replace c4 := cell_below0 c4 hb'
  replace hb := Lib.hid (grow_trans hb.out hb')
  clear hb'
  refine hK.out _ _ ⟨c0, c1, c2, c3, c4⟩ (fun hHeld => ?_)
  clear hK K
  refine wpAnyH_ready (rs := [4]) (by kernel_rfl) (by simp) ?_
  refine AllReadyH.cons rfl (fun K hK => ?_) AllReadyH.nil
  go_simp
  go_at_call 9
  refine (Hi.out _ ch (Sl.of_own och.out)).mono ?_
  rintro e w18 ⟨rh, rfl, orh, hb'⟩
  replace orw0 := Lib.hid (orw0.out.below hb')
  replace org := Lib.hid (own_below org.out hb')
  replace och := Lib.hid (own_below och.out hb')
  replace c0 := cell_below0 c0 hb'
  replace c1 := cell_below0 c1 hb'
  replace c2 := cell_below0 c2 hb'
  replace c3 := cell_below0 c3 hb'
  replace c4 := cell_below0 c4 hb'
  replace hb := Lib.hid (grow_trans hb.out hb')
  replace orh := Lib.hid orh
  clear hb'
  refine hK.out _ _ ⟨c0, c1, c2, c3, c4⟩ (fun hHeld => ?_)
  clear hK K
  refine wpAnyH_take (i := 5) (v := ?_) rfl (by kernel_rfl) (by kernel_rfl) (by kernel_rfl) (fun _ _ _ h => h) (Or.inl ⟨by rfl, ?_⟩) (by assumption) ?_
  rotate_left
  · intro w hSw
    try dsimp only at hSw
    go_simp
    try (with_reducible rfl)
  try simp only [Act.put, List.setIfInBounds_toArray, List.set_cons_zero, List.set_cons_succ]
  refine wpAnyH_take (i := 6) (v := ?_) rfl (by kernel_rfl) (by kernel_rfl) (by kernel_rfl) (fun _ _ _ h => h) (Or.inl ⟨by rfl, ?_⟩) (by assumption) ?_
  rotate_left
  · intro w hSw
    try dsimp only at hSw
    go_simp
    try (with_reducible rfl)
  try simp only [Act.put, List.setIfInBounds_toArray, List.set_cons_zero, List.set_cons_succ]
  refine wpAnyH_take (i := 7) (v := ?_) rfl (by kernel_rfl) (by kernel_rfl) (by kernel_rfl) (fun _ _ _ h => h) (Or.inl ⟨by rfl, ?_⟩) (by assumption) ?_
  rotate_left
  · intro w hSw
    try dsimp only at hSw
    go_simp
    try (with_reducible rfl)
  try simp only [Act.put, List.setIfInBounds_toArray, List.set_cons_zero, List.set_cons_succ]
  refine wpAnyH_take (i := 8) (v := ?_) rfl (by kernel_rfl) (by kernel_rfl) (by kernel_rfl) (fun _ _ _ h => h) (Or.inl ⟨by rfl, ?_⟩) (by assumption) ?_
  rotate_left
  · intro w hSw
    try dsimp only at hSw
    go_simp
    try (with_reducible rfl)
  try simp only [Act.put, List.setIfInBounds_toArray, List.set_cons_zero, List.set_cons_succ]
  refine wpAnyH_take (i := 9) (v := ?_) rfl (by kernel_rfl) (by kernel_rfl) (by kernel_rfl) (fun _ _ _ h => h) (Or.inl ⟨by rfl, ?_⟩) (by assumption) ?_
  rotate_left
  · intro w hSw
    try dsimp only at hSw
    go_simp
    try (with_reducible rfl)
  try simp only [Act.put, List.setIfInBounds_toArray, List.set_cons_zero, List.set_cons_succ]
  refine wpAnyH_done (by kernel_rfl) ?_ _
  clear hHeld
  clear och
  go_wp2_with fail
  refine (eqFuelS_any _ _ rs _ (Sl.of_own orh.out) (Sl.of_q orw0.out)).mono ?_
  rintro e w19 ⟨rfl, hb'⟩
  replace orw0 := Lib.hid (orw0.out.below hb')
  replace org := Lib.hid (own_below org.out hb')
  replace orh := Lib.hid (own_below orh.out hb')
  replace c0 := cell_below0 c0 hb'
  replace c1 := cell_below0 c1 hb'
  replace c2 := cell_below0 c2 hb'
  replace c3 := cell_below0 c3 hb'
  replace c4 := cell_below0 c4 hb'
  replace hb := Lib.hid (grow_trans hb.out hb')
  clear hb'
  go_wp2_with fail
  refine (HH.out _ (Sl.of_own org.out)).mono ?_
  rintro e w20 ⟨rfl, hb'⟩
  replace orw0 := Lib.hid (orw0.out.below hb')
  replace org := Lib.hid (own_below org.out hb')
  replace orh := Lib.hid (own_below orh.out hb')
  replace c0 := cell_below0 c0 hb'
  replace c1 := cell_below0 c1 hb'
  replace c2 := cell_below0 c2 hb'
  replace c3 := cell_below0 c3 hb'
  replace c4 := cell_below0 c4 hb'
  replace hb := Lib.hid (grow_trans hb.out hb')
  clear hb'
  go_wp2
  go_ret
  exact ⟨rfl, hb.out⟩

/-! the frame: the arguments opened, the row closed -/
set_option maxRecDepth 100000 in
theorem lifted (os : Os) (started : os.Started) (H : Type) (enc : TypeId × Value → H) :
    ReturnsInHanded {} Try.checked os 3 .any (Rows.fnExactAddFuelSpec.pre6 enc Try.prog Try.f3 Rows.fnExactAddFuelRow.domain false) (Rows.fnExactAddFuelSpec.post enc Try.prog Try.f3 false true false false) := by
  refine law_lifted (C := Try.checked) own started (by kernel_rfl) Try.func3
    (ChangeSpec.witness6 (enc := enc) (C := Try.checked) false ⟨#[], #[.slice none 0 0, .agg #[.int .i64 0, .string ByteArray.empty, .int .i64 0, .int .i64 0, .int .i64 0]], []⟩ 8 (by kernel_rfl) (by kernel_rfl) (by kernel_rfl) (by kernel_rfl))
    laidOut (of_decide_eq_true (by kernel_rfl)) rfl Try.underlying4 rfl ?_
  intro W base args ds p hval hA
  rw [Try.params3] at hA hval
  obtain ⟨v0, vs0, d0, ds0, p0, q0, hargs, rfl, rfl, h0, r0⟩ := trodAll_cons hA
  obtain ⟨v1, vs1, d1, ds1, p1, q1, rfl, rfl, rfl, h1, r1⟩ := trodAll_cons r0
  obtain ⟨rfl, rfl, rfl⟩ := trodAll_nil r1
  obtain rfl : args = #[v0, v1] := by cases args; simp_all
  obtain ⟨z0, b0⟩ := open_fuels (hval 0 22 v0 rfl rfl) h0
  obtain ⟨ei1, en1, er1, el1, eo1, rfl, b1⟩ := open_fuel (hval 1 24 v1 rfl rfl) h1
  exact ⟨rfl, walk W v0 z0 b0 ei1 en1 er1 el1 eo1 b1⟩

theorem over : Rows.fnExactAddFuelRow.holds Try.pinned (OpenSpec.ofChange Rows.fnExactAddFuelSpec) :=
  OpenClaim.holds_of_wide 3 Try.f3 rfl rfl rfl rfl rfl rfl rfl ⟨rfl, rfl, rfl, rfl, rfl⟩ rfl rfl rfl rfl rfl (by kernel_rfl) Try.func3 (by kernel_rfl)
    (of_decide_eq_true (by kernel_rfl)) (by unfold Func.isWrapper; first | (rw [if_pos (by decide +kernel)]; kernel_rfl) | (rw [if_neg (by decide +kernel)]; exact ⟨rfl, rfl⟩))
    (fun os started H enc _ => lifted os started H enc)

theorem proved : Rows.FnExactAddFuelSaid := over
#print axioms proved
end Go.Proofs.Ytnadeddkogapoaa.lAddFuel
