/- AddFuel in the program. Conditions: as each states. -/
import Derived.Test.YtnadeddkogapoaaGreatDoorAddC
import Derived.Test.YtnadeddkogapoaaGreatDoorAddP
import Derived.Test.YtnadeddkogapoaaGreatDoorSoS
import Derived.Test.YtnadeddkogapoaaGreatDoorFusB
namespace Go.Proofs.YtnadeddkogapoaaGreatDoor
open Go.ChangeShapes Go.WideShapes Go.ChangeAt Go.RowKit Go.Deep
set_option linter.unusedVariables false
set_option linter.unusedSimpArgs false
set_option maxRecDepth 100000

/-- A call inserts a fuel: below twenty fuels the list is told. -/
def RetIn (w : World) (l : List Fu) (x : Fu) (e : Ending) (w' : World) : Prop := ∃ v l', e = .returned v ∧ (l.length < 19 → l' = insO (l ++ [x]) 0 l.length) ∧ l'.length = l.length + 1 ∧ (∀ p ∈ l', p.n.size ≤ maxLen) ∧ w'.ownsRow w.heap.size 25 5 v (l.length + 1) (fus l') ∧ Below w.heap.size w w'
/-- What holds ahead of the sort. -/
theorem so_start {W : World} {B g c N Bf : Nat} {fv : Value} {l : List Fu} {x : Fu} (hl : l.length = N) (hm : ∀ p ∈ l, p.n.size ≤ maxLen) (hx : x.n.size ≤ maxLen) (ho : W.ownsRow B 25 5 (.slice (some ⟨g, 0, none⟩) (N + 1) c) (N + 1) (fus l ++ encU x)) (hf : W.cell? ⟨Bf, 0, none⟩ = some fv) (hne : Bf < g) : So B W W g c (N + 1) Bf fv (l ++ [x]) := by
  refine ⟨by simp [hl], by rw [fus_snoc]; exact ho, World.grownBy.refl _ _, hf, by omega, ?_⟩
  intro p hp
  rcases List.mem_append.1 hp with h | h
  · exact hm p h
  · obtain rfl := List.mem_singleton.1 h; exact hx
theorem so_end {w W W' : World} {B g c N Bf : Nat} {fv : Value} {l l' : List Fu} {x : Fu} (hl : l.length = N) (hB : w.heap.size ≤ B) (hg : B ≤ g) (hb : Below w.heap.size w W) (h : So B W W' g c (N + 1) Bf fv l') (hs : N + 1 < 20 → l' = insO (l ++ [x]) 0 (N + 1 - 1)) : RetIn w l x (.returned (.slice (some ⟨g, 0, none⟩) (N + 1) c)) W' := by
  subst hl
  exact ⟨_, l', rfl, fun e => by have := hs (by omega); simpa using this, h.hl, h.hm, own_lower h.ho hB, hb.grown h.hg hb.size (fun j hj => by cases hj; omega)⟩
set_option maxHeartbeats 8000000 in
theorem inserted_any (v : Value) (l0 : List Fu) (i : Int) (n : ByteArray) (r l o : Int) (w : World) (hs : Sl w 5 v l0.length (fus l0)) (hm : ∀ p ∈ l0, p.n.size ≤ maxLen) (hn : n.size ≤ maxLen) (h8 : l0.length ≤ 1048576) :
    Calls Tryz.prog 41 #[v, fuV i n r l o, .func (.func 42) #[] #[]] w (RetIn w l0 ⟨i, n, r, l, o⟩) := by
  obtain ⟨i0, hi, hz0, hz1, hz2⟩ := info_parts info_fuel
  have hbA := grow_alloc w (.cells #[.int .i64 i, .string n, .int .i64 r, .int .i64 l, .int .i64 o] 25)
  have hbB := grow_alloc (w.alloc (.cells #[.int .i64 i, .string n, .int .i64 r, .int .i64 l, .int .i64 o] 25)) (.cells #[.func (.func 42) #[] #[]] 70)
  have hT : Hid (C5 _ _ i n r l o) := (C5.new w i n r l o).below hbB
  have hC : Hid (((w.alloc (.cells #[.int .i64 i, .string n, .int .i64 r, .int .i64 l, .int .i64 o] 25)).alloc (.cells #[.func (.func 42) #[] #[]] 70)).cell? ⟨w.heap.size + 1, 0, none⟩ = some (.func (.func 42) #[] #[])) := by show _ = _; simp [go_sem]
  have hb0 := Lib.hid (grow_trans hbA hbB)
  have hz : Hid (((w.alloc (.cells #[.int .i64 i, .string n, .int .i64 r, .int .i64 l, .int .i64 o] 25)).alloc (.cells #[.func (.func 42) #[] #[]] 70)).heap.size = w.heap.size + 2) := by show _ = _; simp [go_sem]
  have HS := Lib.hid hs
  have H1 := Lib.hid (fus_one l0)
  have HM := Lib.hid hm
  clear hbA hbB hs hm
  go_enter Tryz.func41, Tryz.ntmps41
  go_wp2_with fail
  generalize hN : l0.length = N at *
  have HN := Lib.hid hN
  clear hN
  generalize (w.alloc (.cells #[.int .i64 i, .string n, .int .i64 r, .int .i64 l, .int .i64 o] 25)).alloc (.cells #[.func (.func 42) #[] #[]] 70) = W0 at *
  have hT := hT.out
  have hC := hC.out
  have hzz := hz.out
  refine wp_region_held_drew (S := fun W => (W.cell? ⟨w.heap.size, 0, none⟩ = some (.int .i64 i) ∧ W.cell? ⟨w.heap.size, 1, none⟩ = some (.string n) ∧ W.cell? ⟨w.heap.size, 2, none⟩ = some (.int .i64 r) ∧ W.cell? ⟨w.heap.size, 3, none⟩ = some (.int .i64 l) ∧ W.cell? ⟨w.heap.size, 4, none⟩ = some (.int .i64 o))) (by kernel_rfl) (hT.below (grow_drew W0)) (fun hHeld => ?_)
  have hbW : Below W0.heap.size W0 W0.drew := grow_drew _
  replace hT := hT.below hbW
  replace hC := cell_below0 hC hbW
  have hbw := grow_trans hb0.out hbW
  generalize W0.drew = Wd at *
  refine wpAnyH_take (i := 0) (v := ?_) rfl (by kernel_rfl) (by kernel_rfl) (by kernel_rfl) (fun _ _ _ h => h) (Or.inl ⟨by rfl, ?_⟩) (by assumption) ?_
  rotate_left
  · intro w hSw
    try dsimp only at hSw
    go_simp
    try (with_reducible rfl)
  try simp only [Act.put, List.setIfInBounds_toArray, List.set_cons_zero, List.set_cons_succ]
  refine wpAnyH_take (i := 2) (v := ?_) rfl (by kernel_rfl) (by kernel_rfl) (by kernel_rfl) (fun _ _ _ h => h) (Or.inl ⟨by rfl, ?_⟩) (by assumption) ?_
  rotate_left
  · intro w hSw
    try dsimp only at hSw
    go_simp
    try (with_reducible rfl)
  try simp only [Act.put, List.setIfInBounds_toArray, List.set_cons_zero, List.set_cons_succ]
  refine wpAnyH_ready (rs := [1, 3]) (by kernel_rfl) (by simp) ?_
  refine AllReadyH.cons rfl (fun K hK => ?_) (AllReadyH.cons rfl (fun K hK => ?_) AllReadyH.nil)
  · skip
    go_simp
    go_at_call 70
    refine (copyOf_fuel_any _ l0 _ (by rw [HN.out]; exact HS.out.below hbw) (by rw [HN.out]; exact h8)).mono ?_
    rintro e w1 ⟨u, rfl, hq, hbn⟩
    rw [HN.out] at hq
    replace hq := own_lower hq (show w.heap.size + 2 ≤ Wd.heap.size by have := hbW.size; omega)
    replace hT := hT.below hbn
    replace hC := cell_below0 hC hbn
    replace hbW := grow_trans hbW hbn
    replace hbw := grow_trans hbw hbn
    clear hbn
    refine hK.out _ _ hT (fun hHeld => ?_)
    clear hK K
    refine wpAnyH_ready (rs := [3]) (by kernel_rfl) (by simp) ?_
    refine AllReadyH.cons rfl (fun K hK => ?_) AllReadyH.nil
    go_simp
    have s2 := lit_fu w1 i n r l o
    have hbn := grow_alloc w1 (.cells #[.int .i64 i, .string n, .int .i64 r, .int .i64 l, .int .i64 o] 25)
    replace hT := hT.below hbn
    replace hC := cell_below0 hC hbn
    replace hbW := grow_trans hbW hbn
    replace hbw := grow_trans hbw hbn
    replace hq := own_below hq hbn
    clear hbn
    generalize w1.alloc (.cells #[.int .i64 i, .string n, .int .i64 r, .int .i64 l, .int .i64 o] 25) = W2 at *
    generalize w1.heap.size = b2 at *
    refine hK.out _ _ hT (fun hHeld => ?_)
    clear hK K
    refine wpAnyH_ready (rs := [4]) (by kernel_rfl) (by simp) ?_
    refine AllReadyH.cons rfl (fun K hK => ?_) AllReadyH.nil
    refine step_append_o _ rfl (.tmp 9) (.tmp 11) 33 rfl (w.heap.size + 2) 25 i0 (fuV 0 ByteArray.empty 0 0 0) 5 48 Tryz.underlying33 hi hz0 hz1 hz2 rfl (by decide) u N (fus l0) (by rfl) hq _ 1 (encU ⟨i, n, r, l, o⟩) (by rfl) s2 (enc_one _) (by unfold maxLen; omega) (by omega) (by have := hbW.size; omega) ?_
    intro v3 w3 hq3 hg3
    replace hC := hg3.cell hC (by intro e; have : w.heap.size + 2 ≤ w.heap.size + 1 := (hq.lt _ e.symm).1; omega)
    have hT3 : C5 w3 w.heap.size i n r l o := ⟨hg3.cell hT.1 (by intro e; have : w.heap.size + 2 ≤ w.heap.size := (hq.lt _ e.symm).1; omega), hg3.cell hT.2.1 (by intro e; have : w.heap.size + 2 ≤ w.heap.size := (hq.lt _ e.symm).1; omega), hg3.cell hT.2.2.1 (by intro e; have : w.heap.size + 2 ≤ w.heap.size := (hq.lt _ e.symm).1; omega), hg3.cell hT.2.2.2.1 (by intro e; have : w.heap.size + 2 ≤ w.heap.size := (hq.lt _ e.symm).1; omega), hg3.cell hT.2.2.2.2 (by intro e; have : w.heap.size + 2 ≤ w.heap.size := (hq.lt _ e.symm).1; omega)⟩
    replace hbw := hbw.grown hg3 hbw.size (fun j hj => by have := (hq.lt _ hj).1; omega)
    refine hK.out _ _ hT3 (fun hHeld => ?_)
    clear hK K
    refine wpAnyH_take (i := 5) (v := ?_) rfl (by kernel_rfl) (by kernel_rfl) (by kernel_rfl) (fun _ _ _ h => h) (Or.inl ⟨by rfl, ?_⟩) (by assumption) ?_
    rotate_left
    · intro w hSw
      try dsimp only at hSw
      go_simp
      try (with_reducible rfl)
    try simp only [Act.put, List.setIfInBounds_toArray, List.set_cons_zero, List.set_cons_succ]
    refine wpAnyH_done (by kernel_rfl) ?_ _
    obtain ⟨g, cp, rfl, hgb⟩ := own_at hq3 (by omega)
    have hSo := so_start HN.out HM.out hn hq3 hC (by omega)
    have HC := Lib.hid (SortStable_any (w.heap.size + 2) w3 g cp (N + 1) (w.heap.size + 1) _ (l0 ++ [⟨i, n, r, l, o⟩]) 72 #[.pointer (some ⟨w.heap.size + 1, 0, none⟩)] callFunc_ins1 (fun W i n r l o i' n' r' l' o' hc => ins1_any i n r l o i' n' r' l' o' (w.heap.size + 1) W hc) hSo (by omega))
    replace hbw := Lib.hid hbw
    clear hSo hC hT hT3 hq hq3 hg3 s2 hHeld hbW hz hzz HS H1 hb0
    go_wp2_with fail
    refine HC.out.mono ?_
    rintro e w4 ⟨rfl, l6, hl6, hS2⟩
    have hS2 := Lib.hid hS2
    have hl6 := Lib.hid hl6
    clear HC
    go_wp2
    go_ret
    exact so_end HN.out (by omega) hgb hbw.out hS2.out hl6.out
  · skip
    go_simp
    have s2 := lit_fu Wd i n r l o
    have hbn := grow_alloc Wd (.cells #[.int .i64 i, .string n, .int .i64 r, .int .i64 l, .int .i64 o] 25)
    replace hT := hT.below hbn
    replace hC := cell_below0 hC hbn
    replace hbW := grow_trans hbW hbn
    replace hbw := grow_trans hbw hbn
    clear hbn
    generalize Wd.alloc (.cells #[.int .i64 i, .string n, .int .i64 r, .int .i64 l, .int .i64 o] 25) = W2 at *
    generalize Wd.heap.size = b2 at *
    refine hK.out _ _ hT (fun hHeld => ?_)
    clear hK K
    refine wpAnyH_ready (rs := [1]) (by kernel_rfl) (by simp) ?_
    refine AllReadyH.cons rfl (fun K hK => ?_) AllReadyH.nil
    go_simp
    go_at_call 70
    refine (copyOf_fuel_any _ l0 _ (by rw [HN.out]; exact HS.out.below hbw) (by rw [HN.out]; exact h8)).mono ?_
    rintro e w1 ⟨u, rfl, hq, hbn⟩
    rw [HN.out] at hq
    replace hq := own_lower hq (show w.heap.size + 2 ≤ W2.heap.size by have := hbW.size; omega)
    replace hT := hT.below hbn
    replace hC := cell_below0 hC hbn
    replace hbW := grow_trans hbW hbn
    replace hbw := grow_trans hbw hbn
    replace s2 := s2.below hbn
    clear hbn
    refine hK.out _ _ hT (fun hHeld => ?_)
    clear hK K
    refine wpAnyH_ready (rs := [4]) (by kernel_rfl) (by simp) ?_
    refine AllReadyH.cons rfl (fun K hK => ?_) AllReadyH.nil
    refine step_append_o _ rfl (.tmp 9) (.tmp 11) 33 rfl (w.heap.size + 2) 25 i0 (fuV 0 ByteArray.empty 0 0 0) 5 48 Tryz.underlying33 hi hz0 hz1 hz2 rfl (by decide) u N (fus l0) (by rfl) hq _ 1 (encU ⟨i, n, r, l, o⟩) (by rfl) s2 (enc_one _) (by unfold maxLen; omega) (by omega) (by have := hbW.size; omega) ?_
    intro v3 w3 hq3 hg3
    replace hC := hg3.cell hC (by intro e; have : w.heap.size + 2 ≤ w.heap.size + 1 := (hq.lt _ e.symm).1; omega)
    have hT3 : C5 w3 w.heap.size i n r l o := ⟨hg3.cell hT.1 (by intro e; have : w.heap.size + 2 ≤ w.heap.size := (hq.lt _ e.symm).1; omega), hg3.cell hT.2.1 (by intro e; have : w.heap.size + 2 ≤ w.heap.size := (hq.lt _ e.symm).1; omega), hg3.cell hT.2.2.1 (by intro e; have : w.heap.size + 2 ≤ w.heap.size := (hq.lt _ e.symm).1; omega), hg3.cell hT.2.2.2.1 (by intro e; have : w.heap.size + 2 ≤ w.heap.size := (hq.lt _ e.symm).1; omega), hg3.cell hT.2.2.2.2 (by intro e; have : w.heap.size + 2 ≤ w.heap.size := (hq.lt _ e.symm).1; omega)⟩
    replace hbw := hbw.grown hg3 hbw.size (fun j hj => by have := (hq.lt _ hj).1; omega)
    refine hK.out _ _ hT3 (fun hHeld => ?_)
    clear hK K
    refine wpAnyH_take (i := 5) (v := ?_) rfl (by kernel_rfl) (by kernel_rfl) (by kernel_rfl) (fun _ _ _ h => h) (Or.inl ⟨by rfl, ?_⟩) (by assumption) ?_
    rotate_left
    · intro w hSw
      try dsimp only at hSw
      go_simp
      try (with_reducible rfl)
    try simp only [Act.put, List.setIfInBounds_toArray, List.set_cons_zero, List.set_cons_succ]
    refine wpAnyH_done (by kernel_rfl) ?_ _
    obtain ⟨g, cp, rfl, hgb⟩ := own_at hq3 (by omega)
    have hSo := so_start HN.out HM.out hn hq3 hC (by omega)
    have HC := Lib.hid (SortStable_any (w.heap.size + 2) w3 g cp (N + 1) (w.heap.size + 1) _ (l0 ++ [⟨i, n, r, l, o⟩]) 72 #[.pointer (some ⟨w.heap.size + 1, 0, none⟩)] callFunc_ins1 (fun W i n r l o i' n' r' l' o' hc => ins1_any i n r l o i' n' r' l' o' (w.heap.size + 1) W hc) hSo (by omega))
    replace hbw := Lib.hid hbw
    clear hSo hC hT hT3 hq hq3 hg3 s2 hHeld hbW hz hzz HS H1 hb0
    go_wp2_with fail
    refine HC.out.mono ?_
    rintro e w4 ⟨rfl, l6, hl6, hS2⟩
    have hS2 := Lib.hid hS2
    have hl6 := Lib.hid hl6
    clear HC
    go_wp2
    go_ret
    exact so_end HN.out (by omega) hgb hbw.out hS2.out hl6.out
/-- A call answers with a list of fuels of its own and a Bool. -/
def RetAf (w : World) (l : List Fu) (ok : Bool) (e : Ending) (w' : World) : Prop := ∃ v, e = .returned (.tuple #[v, .bool ok]) ∧ w'.ownsRow w.heap.size 25 5 v l.length (fus l) ∧ Below w.heap.size w w'
theorem adR_le (l : List Fu) (x : Fu) : (adR l x).length ≤ 8 := by
  unfold adR
  split
  · rename_i h
    unfold adB at h
    simp only [Bool.and_eq_true] at h
    exact (are_facts h.2).1
  · simp
theorem adR_no {l : List Fu} {x : Fu} (h : adB l x = false) : adR l x = [] := by unfold adR; rw [h]; rfl
theorem adR_yes {l : List Fu} {x : Fu} (h : adB l x = true) : adR l x = adL l x := by unfold adR; rw [h]; rfl
set_option maxHeartbeats 8000000 in
theorem AddFuel_any (v : Value) (l0 : List Fu) (i : Int) (n : ByteArray) (r l o : Int) (w : World) (hs : Sl w 5 v l0.length (fus l0)) (hm : ∀ p ∈ l0, p.n.size ≤ maxLen) (hn : n.size ≤ maxLen) (h8 : l0.length ≤ 1048576) :
    Calls Tryz.prog 13 #[v, fuV i n r l o] w (RetAf w (adR l0 ⟨i, n, r, l, o⟩) (adB l0 ⟨i, n, r, l, o⟩)) := by
  have hb0 := grow_alloc w (.cells #[.int .i64 i, .string n, .int .i64 r, .int .i64 l, .int .i64 o] 25)
  have HI := Lib.hid (inserted_any v l0 i n r l o _ (hs.below hb0) hm hn h8)
  have HA := Lib.hid fun W (hW : Below w.heap.size w W) => AreFuels_any v l0 W (hs.below hW) hm
  have hbd : adB l0 ⟨i, n, r, l, o⟩ = (areB l0 && areB (adL l0 ⟨i, n, r, l, o⟩)) := rfl
  have HN := Lib.hid fun (h : adB l0 ⟨i, n, r, l, o⟩ = false) => adR_no h
  have HY := Lib.hid fun (h : adB l0 ⟨i, n, r, l, o⟩ = true) => adR_yes h
  have HP := Lib.hid fun (h : areB l0 = true) => add_law ⟨i, n, r, l, o⟩ h
  have H8 := Lib.hid fun (h : areB l0 = true) => (are_facts h).1
  have hHb := Lib.hid hb0
  clear hs hm hb0
  generalize adR l0 ⟨i, n, r, l, o⟩ = R at *
  generalize adB l0 ⟨i, n, r, l, o⟩ = B at *
  go_enter Tryz.func13, Tryz.ntmps13
  go_wp2_with fail
  refine HI.out.mono ?_
  rintro e w1 ⟨u, l', rfl, hl', hlen, hm', ho, hb1⟩
  have hb := Lib.hid (grow_trans hHb.out hb1)
  have ho := Lib.hid (own_lower ho hHb.out.size)
  have hl' := Lib.hid hl'
  have hlen := Lib.hid hlen
  have hm' := Lib.hid hm'
  clear hHb HI hb1
  have HA := Lib.hid (HA.out w1 hb.out)
  cases hA : areB l0 with
  | false =>
    rw [hA] at HA hbd
    obtain rfl : B = false := by rw [hbd]; rfl
    have hR := HN.out rfl
    subst hR
    clear HN HY HP H8 hA hbd
    go_wp2_with fail
    with_reducible refine HA.out.mono ?_
    rintro e w2 ⟨rfl, hb1⟩
    have hb2 := Lib.hid (grow_trans hb.out hb1)
    clear hb1 HA hb ho
    go_wp2
    exact bodyPost_ret (v := .tuple #[.slice none 0 0, .bool false]) (by simp [results, Tryz.results13, go_sem]) rfl ⟨_, rfl, own_nil _ _ _ _, hb2.out⟩
  | true =>
    have hp := HP.out hA
    have h9 := H8.out hA
    have el := hl'.out (by omega)
    rw [← el] at hp
    obtain ⟨p1, p2⟩ := hp
    rw [hA] at HA hbd
    have HA2 := Lib.hid fun W (hW : Below w1.heap.size w1 W) => AreFuels_any u l' W (by rw [hlen.out]; exact (Sl.of_own ho.out).below hW) hm'.out
    rw [p1] at HA2
    rw [Bool.true_and] at hbd
    rw [← hbd] at HA2 p2
    obtain ⟨A2, c2, hu, _⟩ := Sl.of_own ho.out
    have hlen2 := hlen.out
    subst hu
    clear hbd p1 el HP H8 hA
    cases B with
    | false =>
      have hR := HN.out rfl
      subst hR
      clear HN HY p2
      go_wp2_with fail
      with_reducible refine HA.out.mono ?_
      rintro e w2 ⟨rfl, hb1⟩
      have hb2 := Lib.hid (grow_trans hb.out hb1)
      have HA3 := Lib.hid (HA2.out w2 hb1)
      clear hb1 HA hb HA2
      go_wp2_with fail
      with_reducible refine HA3.out.mono ?_
      rintro e w3 ⟨rfl, hb1⟩
      have hb3 := Lib.hid (grow_trans hb2.out hb1)
      clear hb1 HA3 hb2 ho
      go_wp2
      exact bodyPost_ret (v := .tuple #[.slice none 0 0, .bool false]) (by simp [results, Tryz.results13, go_sem]) rfl ⟨_, rfl, own_nil _ _ _ _, hb3.out⟩
    | true =>
      have hR := (HY.out rfl).trans (p2 rfl).symm
      subst hR
      clear HN HY p2
      go_wp2_with fail
      with_reducible refine HA.out.mono ?_
      rintro e w2 ⟨rfl, hb1⟩
      have hb2 := Lib.hid (grow_trans hb.out hb1)
      have HA3 := Lib.hid (HA2.out w2 hb1)
      replace ho := Lib.hid (own_below ho.out hb1)
      clear hb1 HA hb HA2
      go_wp2_with fail
      with_reducible refine HA3.out.mono ?_
      rintro e w3 ⟨rfl, hb1⟩
      have hb3 := Lib.hid (grow_trans hb2.out hb1)
      replace ho := Lib.hid (own_below ho.out hb1)
      clear hb1 HA3 hb2
      go_wp2
      exact bodyPost_ret (v := .tuple #[.slice A2 (l0.length + 1) c2, .bool true]) (by simp [results, Tryz.results13, go_sem]) rfl ⟨_, rfl, by rw [hlen.out]; exact ho.out, hb3.out⟩
end Go.Proofs.YtnadeddkogapoaaGreatDoor
