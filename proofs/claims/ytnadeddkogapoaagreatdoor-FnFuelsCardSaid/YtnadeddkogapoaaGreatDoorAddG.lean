/- AddFuel in the reference. Conditions: as each states. -/
import Derived.Test.YtnadeddkogapoaaGreatDoorAddC
import Derived.Test.YtnadeddkogapoaaGreatDoorAddP
import Derived.Test.YtnadeddkogapoaaGreatDoorFusC
namespace Go.Proofs.YtnadeddkogapoaaGreatDoor
open Go.ChangeShapes Go.WideShapes Go.ChangeAt Go.RowKit Go.Deep
set_option linter.unusedVariables false
set_option linter.unusedSimpArgs false
set_option maxRecDepth 100000

/-- A call answers with a list of fuels of its own, at whatever offset, and a Bool. -/
def RetAfQ (w : World) (l : List Fu) (ok : Bool) (e : Ending) (w' : World) : Prop := ∃ v, e = .returned (.tuple #[v, .bool ok]) ∧ Qw w' w.heap.size 25 5 v l.length (fus l) ∧ Below w.heap.size w w'
theorem adq_no {l : List Fu} {x : Fu} (h : adB l x = false) : adR l x = [] := by unfold adR; rw [h]; rfl
theorem adq_yes {l : List Fu} {x : Fu} (h : adB l x = true) : adR l x = adL l x := by unfold adR; rw [h]; rfl
theorem fus_len (ps : List Fu) : (fus ps).length = ps.length * 5 := flat_length encU_length ps
theorem fus_take (l : List Fu) (k : Nat) : fus (l.take k) = (fus l).take (k * 5) := by
  induction l generalizing k with
  | nil => simp [fus]
  | cons a l ih =>
    cases k with
    | zero => simp [fus]
    | succ k =>
      have e1 : (k + 1) * 5 = k * 5 + 5 := by omega
      have := ih k
      rw [e1]
      simp only [fus, List.take_succ_cons, List.flatMap_cons, encU, List.cons_append, List.nil_append] at this ⊢
      rw [this]
theorem fus_drop (l : List Fu) (k : Nat) : fus (l.drop k) = (fus l).drop (k * 5) := by
  induction l generalizing k with
  | nil => simp [fus]
  | cons a l ih =>
    cases k with
    | zero => simp [fus]
    | succ k =>
      have e1 : (k + 1) * 5 = k * 5 + 5 := by omega
      have := ih k
      rw [e1]
      simp only [fus, List.drop_succ_cons, List.flatMap_cons, encU, List.cons_append, List.nil_append] at this ⊢
      rw [this]
/-- The row behind the three appends. -/
theorem ad_end {w3 : World} {base base' j N : Nat} {v : Value} {l : List Fu} {x : Fu} (hN : l.length = N) (hk : adK l x.i = j) (hj : j ≤ N) (hb : base' ≤ base) (h : Qw w3 base 25 5 v (0 + j + 1 + (N - j)) ([] ++ (fus l).take (j * 5) ++ encU x ++ (fus l).drop (j * 5))) :
    Qw w3 base' 25 5 v (adL l x).length (fus (adL l x)) := by
  have e : (adL l x).length = 0 + j + 1 + (N - j) := by rw [adL_length]; omega
  have e2 : fus (adL l x) = [] ++ (fus l).take (j * 5) ++ encU x ++ (fus l).drop (j * 5) := by
    unfold adL
    rw [hk, List.nil_append, ← fus_take, ← fus_drop]
    simp [fus]
  rw [e, e2]
  exact h.lower hb
theorem ad_mem {l : List Fu} {x : Fu} (hm : ∀ p ∈ l, p.n.size ≤ maxLen) (hx : x.n.size ≤ maxLen) : ∀ p ∈ adL l x, p.n.size ≤ maxLen := by
  intro p hp
  unfold adL at hp
  rcases List.mem_append.1 hp with h | h
  · rcases List.mem_append.1 h with h | h
    · exact hm p (List.mem_of_mem_take h)
    · obtain rfl := List.mem_singleton.1 h; exact hx
  · exact hm p (List.mem_of_mem_drop h)
set_option maxHeartbeats 16000000 in
theorem sAddFuel_any (v : Value) (l0 : List Fu) (i : Int) (n : ByteArray) (r l o : Int) (w : World) (hs : Sl w 5 v l0.length (fus l0)) (hm : ∀ p ∈ l0, p.n.size ≤ maxLen) (hn : n.size ≤ maxLen) :
    Calls Tryz.prog 14 #[v, fuV i n r l o] w (RetAfQ w (adR l0 ⟨i, n, r, l, o⟩) (adB l0 ⟨i, n, r, l, o⟩)) := by
  obtain ⟨i0, hi, hz0, hz1, hz2⟩ := info_parts info_fuel
  have hb0 := grow_alloc w (.cells #[.int .i64 i, .string n, .int .i64 r, .int .i64 l, .int .i64 o] 25)
  have hT0 := Lib.hid (C5.new w i n r l o)
  have HA := Lib.hid (l3Good_any v l0 _ (hs.below hb0) hm)
  have HG := Lib.hid fun W u (h : Sl W 5 u (adL l0 ⟨i, n, r, l, o⟩).length (fus (adL l0 ⟨i, n, r, l, o⟩))) => l3Good_any u _ W h (ad_mem hm hn)
  have hbd : adB l0 ⟨i, n, r, l, o⟩ = (areB l0 && areB (adL l0 ⟨i, n, r, l, o⟩)) := rfl
  have HN := Lib.hid fun (h : adB l0 ⟨i, n, r, l, o⟩ = false) => adq_no h
  have HY := Lib.hid fun (h : adB l0 ⟨i, n, r, l, o⟩ = true) => adq_yes h
  have H8 := Lib.hid fun (h : areB l0 = true) => (are_facts h).1
  obtain ⟨A, c, rfl⟩ := hs.val
  have hc8 : l0.length ≤ c ∧ c ≤ 9223372036854775807 := by
    obtain ⟨A', c', e, h1, h2, _⟩ := hs
    injection e with _ _ e2
    subst e2
    unfold maxLen at h2; omega
  obtain ⟨hc1, hc2⟩ := hc8
  have HS := Lib.hid hs
  have hHb := Lib.hid hb0
  clear hs hm hb0
  generalize adR l0 ⟨i, n, r, l, o⟩ = R at *
  generalize adB l0 ⟨i, n, r, l, o⟩ = B at *
  go_enter Tryz.func14, Tryz.ntmps14
  go_wp2_with fail
  with_reducible refine HA.out.mono ?_
  rintro e w1 ⟨rfl, hb1⟩
  have hb := Lib.hid (grow_trans hHb.out hb1)
  have hT := Lib.hid (hT0.out.below hb1)
  clear hHb HA hb1 hT0
  cases hA : areB l0 with
  | false =>
    rw [hA] at hbd
    obtain rfl : B = false := by rw [hbd]; rfl
    have hR := HN.out rfl
    subst hR
    clear HN HY H8 hA hbd
    go_wp2
    exact bodyPost_ret (v := .tuple #[.slice (some ⟨w1.heap.size, 0, none⟩) 0 0, .bool false]) (by simp [results, Tryz.results14, go_sem]) rfl ⟨_, rfl, Qw.emptyK (hp0 _ _) hb.out.size, grow_trans hb.out (grow_alloc _ _)⟩
  | true =>
    have h8 := H8.out hA
    have hK := Lib.hid fun k (hk : k ≤ l0.length) h1 h2 => adK_loop (l := l0) (i := i) (k := k) hk h1 h2
    have hE := Lib.hid fun (w3 : World) (base base' j : Nat) (u : Value) (hk : adK l0 i = j) (hj : j ≤ l0.length) hb => ad_end (w3 := w3) (base := base) (base' := base') (j := j) (v := u) (l := l0) (x := ⟨i, n, r, l, o⟩) rfl hk hj hb
    have H1 := Lib.hid (fus_one l0)
    rw [hA, Bool.true_and] at hbd
    rw [← hbd] at HG
    clear hbd H8 hA
    generalize adL l0 ⟨i, n, r, l, o⟩ = al at *
    generalize hLN : l0.length = N at *
    have HLN := Lib.hid hLN
    clear hLN
    go_wp2_with fail
    go_loopw [6] (fun q wr => ∃ k : Nat, k ≤ N ∧ q = .int .i64 k ∧ Hid (Below w1.heap.size w1 wr) ∧ Hid (∀ j, j < k → idF l0 j < i)) (fun q _ => N - (intOf q).toNat)
    case atStart => exact ⟨0, Nat.zero_le _, rfl, Below.refl _ _, fun j hj => by omega⟩
    case round =>
      obtain ⟨k, hk, rfl, hbr, hup⟩ := hrel
      obtain ⟨t0, t1, t2, t3, t4⟩ := hT.out.below hbr.out
      by_cases hlt : k < N
      case neg =>
        have d0 : decide (k < N) = false := decide_eq_false hlt
        have hkk := Lib.hid (hK.out k hk hup.out (fun h => absurd h hlt))
        clear hK hup
        go_wp2_with fail
        go_quiet (fail)
        generalize hwr : World.drewN _ _ = wr2
        replace hbr : Hid (Below w1.heap.size w1 wr2) := by rw [← hwr]; exact grow_trans hbr.out (grow_drewN _ _)
        clear hwr
        obtain ⟨wr, rfl⟩ : ∃ wr : World, wr = wr2 := ⟨_, rfl⟩
        clear d0 hlt
        have hbz := hb.out.trans (hbr.out.mono hb.out.size)
        have HSz := HS.out.below hbz
        have HA := HSz.cutK hk
        have HB := HSz.fromK hk
        try simp only [Option.map_some, Addr.add_lit] at HB
        have g1 : ∀ u ∈ (fus l0).take (k * 5), u.oneCell' = true := fun u hu => H1.out u (List.mem_of_mem_take hu)
        have g2 : ∀ u ∈ (fus l0).drop (k * 5), u.oneCell' = true := fun u hu => H1.out u (List.mem_of_mem_drop hu)
        have mkS := fun W (hW : Below wr.heap.size wr W) => (hT.out.below hbr.out).below hW
        have i1 : (0 : Int) ≤ (k : Int) := by omega
        have i2 : (k : Int) ≤ (N : Int) := by omega
        have i3 : (k : Int) ≤ (c : Int) := by omega
        replace HA := Lib.hid HA
        replace HB := Lib.hid HB
        replace hbz := Lib.hid hbz
        replace mkS := Lib.hid mkS
        clear HSz t0 t1 t2 t3 t4
        go_wp2_with fail
        replace HA := HA.out
        replace HB := HB.out
        replace mkS := mkS.out
        refine wp_region_held_drew (S := fun W => (W.cell? ⟨w.heap.size, 0, none⟩ = some (.int .i64 i) ∧ W.cell? ⟨w.heap.size, 1, none⟩ = some (.string n) ∧ W.cell? ⟨w.heap.size, 2, none⟩ = some (.int .i64 r) ∧ W.cell? ⟨w.heap.size, 3, none⟩ = some (.int .i64 l) ∧ W.cell? ⟨w.heap.size, 4, none⟩ = some (.int .i64 o))) (by kernel_rfl) (mkS _ (grow_drew _)) (fun hHeld => ?_)
        have hbW : Below wr.heap.size wr wr.drew := grow_drew _
        generalize wr.drew = Wd at *
        refine wpAnyH_take (i := 1) (v := ?_) rfl (by kernel_rfl) (by kernel_rfl) (by kernel_rfl) (fun _ _ _ h => h) (Or.inl ⟨by rfl, ?_⟩) (by assumption) ?_
        rotate_left
        · intro w hSw
          try dsimp only at hSw
          go_simp
          try (with_reducible rfl)
        try simp only [Act.put, List.setIfInBounds_toArray, List.set_cons_zero, List.set_cons_succ]
        refine wpAnyH_take (i := 2) (v := ?_) rfl (by kernel_rfl) (by kernel_rfl) (by kernel_rfl) (fun _ _ _ h => h) (Or.inl ⟨by rfl, ?_⟩) (by assumption) ?_
        rotate_left
        · intro w hSw
          try dsimp only at hSw
          go_simp
          try (with_reducible rfl)
        try simp only [Act.put, List.setIfInBounds_toArray, List.set_cons_zero, List.set_cons_succ]
        refine wpAnyH_take (i := 3) (v := ?_) rfl (by kernel_rfl) (by kernel_rfl) (by kernel_rfl) (fun _ _ _ h => h) (Or.inl ⟨by rfl, ?_⟩) (by assumption) ?_
        rotate_left
        · intro w hSw
          try dsimp only at hSw
          go_simp
          try (with_reducible rfl)
        try simp only [Act.put, List.setIfInBounds_toArray, List.set_cons_zero, List.set_cons_succ]
        refine wpAnyH_take (i := 5) (v := ?_) rfl (by kernel_rfl) (by kernel_rfl) (by kernel_rfl) (fun _ _ _ h => h) (Or.inl ⟨by rfl, ?_⟩) (by assumption) ?_
        rotate_left
        · intro w hSw
          try dsimp only at hSw
          go_simp
          try (with_reducible rfl)
        try simp only [Act.put, List.setIfInBounds_toArray, List.set_cons_zero, List.set_cons_succ]
        refine wpAnyH_take (i := 8) (v := ?_) rfl (by kernel_rfl) (by kernel_rfl) (by kernel_rfl) (fun _ _ _ h => h) (Or.inl ⟨by rfl, ?_⟩) (by assumption) ?_
        rotate_left
        · intro w hSw
          try dsimp only at hSw
          go_simp
          try (with_reducible rfl)
        try simp only [Act.put, List.setIfInBounds_toArray, List.set_cons_zero, List.set_cons_succ]
        refine wpAnyH_take (i := 9) (v := ?_) rfl (by kernel_rfl) (by kernel_rfl) (by kernel_rfl) (fun _ _ _ h => h) (Or.inl ⟨by rfl, ?_⟩) (by assumption) ?_
        rotate_left
        · intro w hSw
          try dsimp only at hSw
          go_simp
          try (with_reducible rfl)
        try simp only [Act.put, List.setIfInBounds_toArray, List.set_cons_zero, List.set_cons_succ]
        refine wpAnyH_take (i := 10) (v := ?_) rfl (by kernel_rfl) (by kernel_rfl) (by kernel_rfl) (fun _ _ _ h => h) (Or.inl ⟨by rfl, ?_⟩) (by assumption) ?_
        rotate_left
        · intro w hSw
          try dsimp only at hSw
          go_simp
          try (with_reducible rfl)
        try simp only [Act.put, List.setIfInBounds_toArray, List.set_cons_zero, List.set_cons_succ]
        refine wpAnyH_ready (rs := [0, 6]) (by kernel_rfl) (by simp) ?_
        refine AllReadyH.cons rfl (fun K hK => ?_) (AllReadyH.cons rfl (fun K hK => ?_) AllReadyH.nil)
        · skip
          go_simp
          have q0 : Qw (Wd.alloc (.cells #[] 25)) wr.heap.size 25 5 (.slice (some ⟨Wd.heap.size, 0, none⟩) 0 0) 0 [] := Qw.emptyK (hp0 _ _) hbW.size
          replace hbW := grow_trans hbW (grow_alloc Wd (.cells #[] 25))
          have z0 := Lib.hid (World.size_alloc Wd (.cells #[] 25))
          generalize Wd.alloc (.cells #[] 25) = Wa0 at *
          generalize Wd.heap.size = b0 at *
          refine hK.out _ _ (mkS _ hbW) (fun hHeld => ?_)
          clear hK K
          refine wpAnyH_ready (rs := [4, 6]) (by kernel_rfl) (by simp) ?_
          refine AllReadyH.cons rfl (fun K hK => ?_) (AllReadyH.cons rfl (fun K hK => ?_) AllReadyH.nil)
          · skip
            refine step_append_q _ rfl (.tmp 28) (.tmp 31) 33 rfl wr.heap.size 25 i0 (fuV 0 ByteArray.empty 0 0 0) 5 48 Tryz.underlying33 hi hz0 hz1 hz2 rfl (by decide) (.slice (some ⟨b0, 0, none⟩) 0 0) (0) ([]) (by rfl) q0 _ (k) ((fus l0).take (k * 5)) (by rfl) (HA.below hbW) g1 (by unfold maxLen; omega) (by omega) hbW.size ?_
            intro v1 w1 hq1 hg1 hd1
            replace hbW := hbW.grown hg1 hbW.size (fun j hj => (q0.lt j hj).1)
            clear hg1 hd1
            refine hK.out _ _ (mkS _ hbW) (fun hHeld => ?_)
            clear hK K
            refine wpAnyH_ready (rs := [6]) (by kernel_rfl) (by simp) ?_
            refine AllReadyH.cons rfl (fun K hK => ?_) AllReadyH.nil
            go_simp
            have s2 := lit_fu w1 i n r l o
            replace hq1 := hq1.below (grow_alloc w1 (.cells #[.int .i64 i, .string n, .int .i64 r, .int .i64 l, .int .i64 o] 25))
            replace hbW := grow_trans hbW (grow_alloc w1 (.cells #[.int .i64 i, .string n, .int .i64 r, .int .i64 l, .int .i64 o] 25))
            have z2 := Lib.hid (World.size_alloc w1 (.cells #[.int .i64 i, .string n, .int .i64 r, .int .i64 l, .int .i64 o] 25))
            generalize w1.alloc (.cells #[.int .i64 i, .string n, .int .i64 r, .int .i64 l, .int .i64 o] 25) = Wa2 at *
            generalize w1.heap.size = b2 at *
            refine hK.out _ _ (mkS _ hbW) (fun hHeld => ?_)
            clear hK K
            refine wpAnyH_ready (rs := [7]) (by kernel_rfl) (by simp) ?_
            refine AllReadyH.cons rfl (fun K hK => ?_) AllReadyH.nil
            refine step_append_q _ rfl (.tmp 32) (.tmp 34) 33 rfl wr.heap.size 25 i0 (fuV 0 ByteArray.empty 0 0 0) 5 48 Tryz.underlying33 hi hz0 hz1 hz2 rfl (by decide) v1 (0 + k) ([] ++ (fus l0).take (k * 5)) (by rfl) hq1 _ (1) (encU ⟨i, n, r, l, o⟩) (by rfl) s2 (enc_one _) (by unfold maxLen; omega) (by omega) hbW.size ?_
            intro v2 w2 hq2 hg2 hd2
            replace hbW := hbW.grown hg2 hbW.size (fun j hj => (hq1.lt j hj).1)
            clear hg2 hd2
            refine hK.out _ _ (mkS _ hbW) (fun hHeld => ?_)
            clear hK K
            refine wpAnyH_ready (rs := [11]) (by kernel_rfl) (by simp) ?_
            refine AllReadyH.cons rfl (fun K hK => ?_) AllReadyH.nil
            refine step_append_q _ rfl (.tmp 35) (.tmp 38) 33 rfl wr.heap.size 25 i0 (fuV 0 ByteArray.empty 0 0 0) 5 48 Tryz.underlying33 hi hz0 hz1 hz2 rfl (by decide) v2 (0 + k + 1) ([] ++ (fus l0).take (k * 5) ++ encU ⟨i, n, r, l, o⟩) (by rfl) hq2 _ (N - k) ((fus l0).drop (k * 5)) (by rfl) (HB.below hbW) g2 (by unfold maxLen; omega) (by omega) hbW.size ?_
            intro v3 w3 hq3 hg3 hd3
            replace hbW := hbW.grown hg3 hbW.size (fun j hj => (hq2.lt j hj).1)
            clear hg3 hd3
            refine hK.out _ _ (mkS _ hbW) (fun hHeld => ?_)
            clear hK K
            refine wpAnyH_take (i := 12) (v := ?_) rfl (by kernel_rfl) (by kernel_rfl) (by kernel_rfl) (fun _ _ _ h => h) (Or.inl ⟨by rfl, ?_⟩) (by assumption) ?_
            rotate_left
            · intro w hSw
              try dsimp only at hSw
              go_simp
              try (with_reducible rfl)
            try simp only [Act.put, List.setIfInBounds_toArray, List.set_cons_zero, List.set_cons_succ]
            refine wpAnyH_done (by kernel_rfl) ?_ _
            have hqz := hE.out _ _ w.heap.size _ _ hkk.out hk (show w.heap.size ≤ wr.heap.size from hbz.out.size) hq3
            have hbf := Lib.hid (hbz.out.trans (hbW.mono hbz.out.size))
            have HG2 := Lib.hid (HG.out _ _ (Sl.of_q hqz))
            replace hqz := Lib.hid hqz
            obtain ⟨A3, c3, rfl⟩ := (Sl.of_q hqz.out).val
            generalize hal : al.length = M at *
            have Hal := Lib.hid hal
            clear hal hq3 hbW g1 g2 mkS hHeld HA HB HG hE
            cases B with
            | false =>
              have hR := HN.out rfl
              subst hR
              clear HN HY
              go_wp2_with fail
              all_goals
                with_reducible refine HG2.out.mono ?_
                rintro e w5 ⟨rfl, hb1⟩
                have hbg := Lib.hid (grow_trans hbf.out hb1)
                clear hb1 HG2 hbf hbz hqz
                go_wp2
                exact bodyPost_ret (v := .tuple #[.slice (some ⟨w5.heap.size, 0, none⟩) 0 0, .bool false]) (by simp [results, Tryz.results14, go_sem]) rfl ⟨_, rfl, Qw.emptyK (hp0 _ _) hbg.out.size, grow_trans hbg.out (grow_alloc _ _)⟩
            | true =>
              have hR := HY.out rfl
              subst hR
              clear HN HY
              go_wp2_with fail
              all_goals
                with_reducible refine HG2.out.mono ?_
                rintro e w5 ⟨rfl, hb1⟩
                have hbg := Lib.hid (grow_trans hbf.out hb1)
                replace hqz := Lib.hid (hqz.out.below hb1)
                clear hb1 HG2 hbf hbz
                go_wp2
                refine bodyPost_ret (v := .tuple #[.slice A3 M c3, .bool true]) (by simp [results, Tryz.results14, go_sem]) rfl ⟨_, rfl, ?_, hbg.out⟩
                rw [Hal.out]
                exact hqz.out
          · skip
            go_simp
            have s2 := lit_fu Wa0 i n r l o
            replace q0 := q0.below (grow_alloc Wa0 (.cells #[.int .i64 i, .string n, .int .i64 r, .int .i64 l, .int .i64 o] 25))
            replace hbW := grow_trans hbW (grow_alloc Wa0 (.cells #[.int .i64 i, .string n, .int .i64 r, .int .i64 l, .int .i64 o] 25))
            have z2 := Lib.hid (World.size_alloc Wa0 (.cells #[.int .i64 i, .string n, .int .i64 r, .int .i64 l, .int .i64 o] 25))
            generalize Wa0.alloc (.cells #[.int .i64 i, .string n, .int .i64 r, .int .i64 l, .int .i64 o] 25) = Wa1 at *
            generalize Wa0.heap.size = b2 at *
            refine hK.out _ _ (mkS _ hbW) (fun hHeld => ?_)
            clear hK K
            refine wpAnyH_ready (rs := [4]) (by kernel_rfl) (by simp) ?_
            refine AllReadyH.cons rfl (fun K hK => ?_) AllReadyH.nil
            refine step_append_q _ rfl (.tmp 28) (.tmp 31) 33 rfl wr.heap.size 25 i0 (fuV 0 ByteArray.empty 0 0 0) 5 48 Tryz.underlying33 hi hz0 hz1 hz2 rfl (by decide) (.slice (some ⟨b0, 0, none⟩) 0 0) (0) ([]) (by rfl) q0 _ (k) ((fus l0).take (k * 5)) (by rfl) (HA.below hbW) g1 (by unfold maxLen; omega) (by omega) hbW.size ?_
            intro v1 w1 hq1 hg1 hd1
            replace s2 := s2.kept hg1 (.inr (by intro e; simp [Value.ownBlock] at e; have y0 := z0.out; have y2 := z2.out; omega))
            replace hbW := hbW.grown hg1 hbW.size (fun j hj => (q0.lt j hj).1)
            clear hg1 hd1
            refine hK.out _ _ (mkS _ hbW) (fun hHeld => ?_)
            clear hK K
            refine wpAnyH_ready (rs := [7]) (by kernel_rfl) (by simp) ?_
            refine AllReadyH.cons rfl (fun K hK => ?_) AllReadyH.nil
            refine step_append_q _ rfl (.tmp 32) (.tmp 34) 33 rfl wr.heap.size 25 i0 (fuV 0 ByteArray.empty 0 0 0) 5 48 Tryz.underlying33 hi hz0 hz1 hz2 rfl (by decide) v1 (0 + k) ([] ++ (fus l0).take (k * 5)) (by rfl) hq1 _ (1) (encU ⟨i, n, r, l, o⟩) (by rfl) s2 (enc_one _) (by unfold maxLen; omega) (by omega) hbW.size ?_
            intro v2 w2 hq2 hg2 hd2
            replace hbW := hbW.grown hg2 hbW.size (fun j hj => (hq1.lt j hj).1)
            clear hg2 hd2
            refine hK.out _ _ (mkS _ hbW) (fun hHeld => ?_)
            clear hK K
            refine wpAnyH_ready (rs := [11]) (by kernel_rfl) (by simp) ?_
            refine AllReadyH.cons rfl (fun K hK => ?_) AllReadyH.nil
            refine step_append_q _ rfl (.tmp 35) (.tmp 38) 33 rfl wr.heap.size 25 i0 (fuV 0 ByteArray.empty 0 0 0) 5 48 Tryz.underlying33 hi hz0 hz1 hz2 rfl (by decide) v2 (0 + k + 1) ([] ++ (fus l0).take (k * 5) ++ encU ⟨i, n, r, l, o⟩) (by rfl) hq2 _ (N - k) ((fus l0).drop (k * 5)) (by rfl) (HB.below hbW) g2 (by unfold maxLen; omega) (by omega) hbW.size ?_
            intro v3 w3 hq3 hg3 hd3
            replace hbW := hbW.grown hg3 hbW.size (fun j hj => (hq2.lt j hj).1)
            clear hg3 hd3
            refine hK.out _ _ (mkS _ hbW) (fun hHeld => ?_)
            clear hK K
            refine wpAnyH_take (i := 12) (v := ?_) rfl (by kernel_rfl) (by kernel_rfl) (by kernel_rfl) (fun _ _ _ h => h) (Or.inl ⟨by rfl, ?_⟩) (by assumption) ?_
            rotate_left
            · intro w hSw
              try dsimp only at hSw
              go_simp
              try (with_reducible rfl)
            try simp only [Act.put, List.setIfInBounds_toArray, List.set_cons_zero, List.set_cons_succ]
            refine wpAnyH_done (by kernel_rfl) ?_ _
            have hqz := hE.out _ _ w.heap.size _ _ hkk.out hk (show w.heap.size ≤ wr.heap.size from hbz.out.size) hq3
            have hbf := Lib.hid (hbz.out.trans (hbW.mono hbz.out.size))
            have HG2 := Lib.hid (HG.out _ _ (Sl.of_q hqz))
            replace hqz := Lib.hid hqz
            obtain ⟨A3, c3, rfl⟩ := (Sl.of_q hqz.out).val
            generalize hal : al.length = M at *
            have Hal := Lib.hid hal
            clear hal hq3 hbW g1 g2 mkS hHeld HA HB HG hE
            cases B with
            | false =>
              have hR := HN.out rfl
              subst hR
              clear HN HY
              go_wp2_with fail
              all_goals
                with_reducible refine HG2.out.mono ?_
                rintro e w5 ⟨rfl, hb1⟩
                have hbg := Lib.hid (grow_trans hbf.out hb1)
                clear hb1 HG2 hbf hbz hqz
                go_wp2
                exact bodyPost_ret (v := .tuple #[.slice (some ⟨w5.heap.size, 0, none⟩) 0 0, .bool false]) (by simp [results, Tryz.results14, go_sem]) rfl ⟨_, rfl, Qw.emptyK (hp0 _ _) hbg.out.size, grow_trans hbg.out (grow_alloc _ _)⟩
            | true =>
              have hR := HY.out rfl
              subst hR
              clear HN HY
              go_wp2_with fail
              all_goals
                with_reducible refine HG2.out.mono ?_
                rintro e w5 ⟨rfl, hb1⟩
                have hbg := Lib.hid (grow_trans hbf.out hb1)
                replace hqz := Lib.hid (hqz.out.below hb1)
                clear hb1 HG2 hbf hbz
                go_wp2
                refine bodyPost_ret (v := .tuple #[.slice A3 M c3, .bool true]) (by simp [results, Tryz.results14, go_sem]) rfl ⟨_, rfl, ?_, hbg.out⟩
                rw [Hal.out]
                exact hqz.out
        · skip
          go_simp
          have s2 := lit_fu Wd i n r l o
          replace hbW := grow_trans hbW (grow_alloc Wd (.cells #[.int .i64 i, .string n, .int .i64 r, .int .i64 l, .int .i64 o] 25))
          have z2 := Lib.hid (World.size_alloc Wd (.cells #[.int .i64 i, .string n, .int .i64 r, .int .i64 l, .int .i64 o] 25))
          generalize Wd.alloc (.cells #[.int .i64 i, .string n, .int .i64 r, .int .i64 l, .int .i64 o] 25) = Wa0 at *
          generalize Wd.heap.size = b2 at *
          refine hK.out _ _ (mkS _ hbW) (fun hHeld => ?_)
          clear hK K
          refine wpAnyH_ready (rs := [0]) (by kernel_rfl) (by simp) ?_
          refine AllReadyH.cons rfl (fun K hK => ?_) AllReadyH.nil
          go_simp
          have q0 : Qw (Wa0.alloc (.cells #[] 25)) wr.heap.size 25 5 (.slice (some ⟨Wa0.heap.size, 0, none⟩) 0 0) 0 [] := Qw.emptyK (hp0 _ _) hbW.size
          replace s2 := s2.below (grow_alloc Wa0 (.cells #[] 25))
          replace hbW := grow_trans hbW (grow_alloc Wa0 (.cells #[] 25))
          have z0 := Lib.hid (World.size_alloc Wa0 (.cells #[] 25))
          generalize Wa0.alloc (.cells #[] 25) = Wa1 at *
          generalize Wa0.heap.size = b0 at *
          refine hK.out _ _ (mkS _ hbW) (fun hHeld => ?_)
          clear hK K
          refine wpAnyH_ready (rs := [4]) (by kernel_rfl) (by simp) ?_
          refine AllReadyH.cons rfl (fun K hK => ?_) AllReadyH.nil
          refine step_append_q _ rfl (.tmp 28) (.tmp 31) 33 rfl wr.heap.size 25 i0 (fuV 0 ByteArray.empty 0 0 0) 5 48 Tryz.underlying33 hi hz0 hz1 hz2 rfl (by decide) (.slice (some ⟨b0, 0, none⟩) 0 0) (0) ([]) (by rfl) q0 _ (k) ((fus l0).take (k * 5)) (by rfl) (HA.below hbW) g1 (by unfold maxLen; omega) (by omega) hbW.size ?_
          intro v1 w1 hq1 hg1 hd1
          replace s2 := s2.kept hg1 (.inr (by intro e; simp [Value.ownBlock] at e; have y0 := z0.out; have y2 := z2.out; omega))
          replace hbW := hbW.grown hg1 hbW.size (fun j hj => (q0.lt j hj).1)
          clear hg1 hd1
          refine hK.out _ _ (mkS _ hbW) (fun hHeld => ?_)
          clear hK K
          refine wpAnyH_ready (rs := [7]) (by kernel_rfl) (by simp) ?_
          refine AllReadyH.cons rfl (fun K hK => ?_) AllReadyH.nil
          refine step_append_q _ rfl (.tmp 32) (.tmp 34) 33 rfl wr.heap.size 25 i0 (fuV 0 ByteArray.empty 0 0 0) 5 48 Tryz.underlying33 hi hz0 hz1 hz2 rfl (by decide) v1 (0 + k) ([] ++ (fus l0).take (k * 5)) (by rfl) hq1 _ (1) (encU ⟨i, n, r, l, o⟩) (by rfl) s2 (enc_one _) (by unfold maxLen; omega) (by omega) hbW.size ?_
          intro v2 w2 hq2 hg2 hd2
          replace hbW := hbW.grown hg2 hbW.size (fun j hj => (hq1.lt j hj).1)
          clear hg2 hd2
          refine hK.out _ _ (mkS _ hbW) (fun hHeld => ?_)
          clear hK K
          refine wpAnyH_ready (rs := [11]) (by kernel_rfl) (by simp) ?_
          refine AllReadyH.cons rfl (fun K hK => ?_) AllReadyH.nil
          refine step_append_q _ rfl (.tmp 35) (.tmp 38) 33 rfl wr.heap.size 25 i0 (fuV 0 ByteArray.empty 0 0 0) 5 48 Tryz.underlying33 hi hz0 hz1 hz2 rfl (by decide) v2 (0 + k + 1) ([] ++ (fus l0).take (k * 5) ++ encU ⟨i, n, r, l, o⟩) (by rfl) hq2 _ (N - k) ((fus l0).drop (k * 5)) (by rfl) (HB.below hbW) g2 (by unfold maxLen; omega) (by omega) hbW.size ?_
          intro v3 w3 hq3 hg3 hd3
          replace hbW := hbW.grown hg3 hbW.size (fun j hj => (hq2.lt j hj).1)
          clear hg3 hd3
          refine hK.out _ _ (mkS _ hbW) (fun hHeld => ?_)
          clear hK K
          refine wpAnyH_take (i := 12) (v := ?_) rfl (by kernel_rfl) (by kernel_rfl) (by kernel_rfl) (fun _ _ _ h => h) (Or.inl ⟨by rfl, ?_⟩) (by assumption) ?_
          rotate_left
          · intro w hSw
            try dsimp only at hSw
            go_simp
            try (with_reducible rfl)
          try simp only [Act.put, List.setIfInBounds_toArray, List.set_cons_zero, List.set_cons_succ]
          refine wpAnyH_done (by kernel_rfl) ?_ _
          have hqz := hE.out _ _ w.heap.size _ _ hkk.out hk (show w.heap.size ≤ wr.heap.size from hbz.out.size) hq3
          have hbf := Lib.hid (hbz.out.trans (hbW.mono hbz.out.size))
          have HG2 := Lib.hid (HG.out _ _ (Sl.of_q hqz))
          replace hqz := Lib.hid hqz
          obtain ⟨A3, c3, rfl⟩ := (Sl.of_q hqz.out).val
          generalize hal : al.length = M at *
          have Hal := Lib.hid hal
          clear hal hq3 hbW g1 g2 mkS hHeld HA HB HG hE
          cases B with
          | false =>
            have hR := HN.out rfl
            subst hR
            clear HN HY
            go_wp2_with fail
            all_goals
              with_reducible refine HG2.out.mono ?_
              rintro e w5 ⟨rfl, hb1⟩
              have hbg := Lib.hid (grow_trans hbf.out hb1)
              clear hb1 HG2 hbf hbz hqz
              go_wp2
              exact bodyPost_ret (v := .tuple #[.slice (some ⟨w5.heap.size, 0, none⟩) 0 0, .bool false]) (by simp [results, Tryz.results14, go_sem]) rfl ⟨_, rfl, Qw.emptyK (hp0 _ _) hbg.out.size, grow_trans hbg.out (grow_alloc _ _)⟩
          | true =>
            have hR := HY.out rfl
            subst hR
            clear HN HY
            go_wp2_with fail
            all_goals
              with_reducible refine HG2.out.mono ?_
              rintro e w5 ⟨rfl, hb1⟩
              have hbg := Lib.hid (grow_trans hbf.out hb1)
              replace hqz := Lib.hid (hqz.out.below hb1)
              clear hb1 HG2 hbf hbz
              go_wp2
              refine bodyPost_ret (v := .tuple #[.slice A3 M c3, .bool true]) (by simp [results, Tryz.results14, go_sem]) rfl ⟨_, rfl, ?_, hbg.out⟩
              rw [Hal.out]
              exact hqz.out
      case pos =>
        have d0 : decide (k < N) = true := decide_eq_true hlt
        obtain ⟨b, off, i', n', r', l', o', rfl, hx, c0, c1, c2, c3, c4⟩ := ((HS.out.below hb.out).below hbr.out).fu HLN.out hlt
        have hid := idF_at hx
        clear hx c1 c2 c3 c4
        by_cases hli : i' < i
        case pos =>
          have d1 : decide (i' < i) = true := decide_eq_true hli
          have hup2 : Hid (∀ j, j < k + 1 → idF l0 j < i) := fun j hj => by
            by_cases e : j = k
            · subst e; rw [hid]; exact hli
            · exact hup.out j (by omega)
          clear hK hup hid
          go_wp2_with fail
          go_quiet (fail)
          go_wp2
          go_roundw
          case rel => exact ⟨k + 1, by omega, by go_num, grow_trans hbr.out (grow_drewN _ _), hup2.out⟩
          case measure => simp [intOf]; omega
        case neg =>
          have d1 : decide (i' < i) = false := decide_eq_false hli
          have hkk := Lib.hid (hK.out k hk hup.out (fun _ => by rw [hid]; omega))
          clear hK hup hid
          go_wp2_with fail
          go_quiet (fail)
          generalize hwr : World.drewN _ _ = wr2
          replace hbr : Hid (Below w1.heap.size w1 wr2) := by rw [← hwr]; exact grow_trans hbr.out (grow_drewN _ _)
          clear hwr
          obtain ⟨wr, rfl⟩ : ∃ wr : World, wr = wr2 := ⟨_, rfl⟩
          clear d0 d1 c0 hli
          have hbz := hb.out.trans (hbr.out.mono hb.out.size)
          have HSz := HS.out.below hbz
          have HA := HSz.cutK hk
          have HB := HSz.fromK hk
          try simp only [Option.map_some, Addr.add_lit] at HB
          have g1 : ∀ u ∈ (fus l0).take (k * 5), u.oneCell' = true := fun u hu => H1.out u (List.mem_of_mem_take hu)
          have g2 : ∀ u ∈ (fus l0).drop (k * 5), u.oneCell' = true := fun u hu => H1.out u (List.mem_of_mem_drop hu)
          have mkS := fun W (hW : Below wr.heap.size wr W) => (hT.out.below hbr.out).below hW
          have i1 : (0 : Int) ≤ (k : Int) := by omega
          have i2 : (k : Int) ≤ (N : Int) := by omega
          have i3 : (k : Int) ≤ (c : Int) := by omega
          replace HA := Lib.hid HA
          replace HB := Lib.hid HB
          replace hbz := Lib.hid hbz
          replace mkS := Lib.hid mkS
          clear HSz t0 t1 t2 t3 t4
          go_wp2_with fail
          replace HA := HA.out
          replace HB := HB.out
          replace mkS := mkS.out
          refine wp_region_held_drew (S := fun W => (W.cell? ⟨w.heap.size, 0, none⟩ = some (.int .i64 i) ∧ W.cell? ⟨w.heap.size, 1, none⟩ = some (.string n) ∧ W.cell? ⟨w.heap.size, 2, none⟩ = some (.int .i64 r) ∧ W.cell? ⟨w.heap.size, 3, none⟩ = some (.int .i64 l) ∧ W.cell? ⟨w.heap.size, 4, none⟩ = some (.int .i64 o))) (by kernel_rfl) (mkS _ (grow_drew _)) (fun hHeld => ?_)
          have hbW : Below wr.heap.size wr wr.drew := grow_drew _
          generalize wr.drew = Wd at *
          refine wpAnyH_take (i := 1) (v := ?_) rfl (by kernel_rfl) (by kernel_rfl) (by kernel_rfl) (fun _ _ _ h => h) (Or.inl ⟨by rfl, ?_⟩) (by assumption) ?_
          rotate_left
          · intro w hSw
            try dsimp only at hSw
            go_simp
            try (with_reducible rfl)
          try simp only [Act.put, List.setIfInBounds_toArray, List.set_cons_zero, List.set_cons_succ]
          refine wpAnyH_take (i := 2) (v := ?_) rfl (by kernel_rfl) (by kernel_rfl) (by kernel_rfl) (fun _ _ _ h => h) (Or.inl ⟨by rfl, ?_⟩) (by assumption) ?_
          rotate_left
          · intro w hSw
            try dsimp only at hSw
            go_simp
            try (with_reducible rfl)
          try simp only [Act.put, List.setIfInBounds_toArray, List.set_cons_zero, List.set_cons_succ]
          refine wpAnyH_take (i := 3) (v := ?_) rfl (by kernel_rfl) (by kernel_rfl) (by kernel_rfl) (fun _ _ _ h => h) (Or.inl ⟨by rfl, ?_⟩) (by assumption) ?_
          rotate_left
          · intro w hSw
            try dsimp only at hSw
            go_simp
            try (with_reducible rfl)
          try simp only [Act.put, List.setIfInBounds_toArray, List.set_cons_zero, List.set_cons_succ]
          refine wpAnyH_take (i := 5) (v := ?_) rfl (by kernel_rfl) (by kernel_rfl) (by kernel_rfl) (fun _ _ _ h => h) (Or.inl ⟨by rfl, ?_⟩) (by assumption) ?_
          rotate_left
          · intro w hSw
            try dsimp only at hSw
            go_simp
            try (with_reducible rfl)
          try simp only [Act.put, List.setIfInBounds_toArray, List.set_cons_zero, List.set_cons_succ]
          refine wpAnyH_take (i := 8) (v := ?_) rfl (by kernel_rfl) (by kernel_rfl) (by kernel_rfl) (fun _ _ _ h => h) (Or.inl ⟨by rfl, ?_⟩) (by assumption) ?_
          rotate_left
          · intro w hSw
            try dsimp only at hSw
            go_simp
            try (with_reducible rfl)
          try simp only [Act.put, List.setIfInBounds_toArray, List.set_cons_zero, List.set_cons_succ]
          refine wpAnyH_take (i := 9) (v := ?_) rfl (by kernel_rfl) (by kernel_rfl) (by kernel_rfl) (fun _ _ _ h => h) (Or.inl ⟨by rfl, ?_⟩) (by assumption) ?_
          rotate_left
          · intro w hSw
            try dsimp only at hSw
            go_simp
            try (with_reducible rfl)
          try simp only [Act.put, List.setIfInBounds_toArray, List.set_cons_zero, List.set_cons_succ]
          refine wpAnyH_take (i := 10) (v := ?_) rfl (by kernel_rfl) (by kernel_rfl) (by kernel_rfl) (fun _ _ _ h => h) (Or.inl ⟨by rfl, ?_⟩) (by assumption) ?_
          rotate_left
          · intro w hSw
            try dsimp only at hSw
            go_simp
            try (with_reducible rfl)
          try simp only [Act.put, List.setIfInBounds_toArray, List.set_cons_zero, List.set_cons_succ]
          refine wpAnyH_ready (rs := [0, 6]) (by kernel_rfl) (by simp) ?_
          refine AllReadyH.cons rfl (fun K hK => ?_) (AllReadyH.cons rfl (fun K hK => ?_) AllReadyH.nil)
          · skip
            go_simp
            have q0 : Qw (Wd.alloc (.cells #[] 25)) wr.heap.size 25 5 (.slice (some ⟨Wd.heap.size, 0, none⟩) 0 0) 0 [] := Qw.emptyK (hp0 _ _) hbW.size
            replace hbW := grow_trans hbW (grow_alloc Wd (.cells #[] 25))
            have z0 := Lib.hid (World.size_alloc Wd (.cells #[] 25))
            generalize Wd.alloc (.cells #[] 25) = Wa0 at *
            generalize Wd.heap.size = b0 at *
            refine hK.out _ _ (mkS _ hbW) (fun hHeld => ?_)
            clear hK K
            refine wpAnyH_ready (rs := [4, 6]) (by kernel_rfl) (by simp) ?_
            refine AllReadyH.cons rfl (fun K hK => ?_) (AllReadyH.cons rfl (fun K hK => ?_) AllReadyH.nil)
            · skip
              refine step_append_q _ rfl (.tmp 28) (.tmp 31) 33 rfl wr.heap.size 25 i0 (fuV 0 ByteArray.empty 0 0 0) 5 48 Tryz.underlying33 hi hz0 hz1 hz2 rfl (by decide) (.slice (some ⟨b0, 0, none⟩) 0 0) (0) ([]) (by rfl) q0 _ (k) ((fus l0).take (k * 5)) (by rfl) (HA.below hbW) g1 (by unfold maxLen; omega) (by omega) hbW.size ?_
              intro v1 w1 hq1 hg1 hd1
              replace hbW := hbW.grown hg1 hbW.size (fun j hj => (q0.lt j hj).1)
              clear hg1 hd1
              refine hK.out _ _ (mkS _ hbW) (fun hHeld => ?_)
              clear hK K
              refine wpAnyH_ready (rs := [6]) (by kernel_rfl) (by simp) ?_
              refine AllReadyH.cons rfl (fun K hK => ?_) AllReadyH.nil
              go_simp
              have s2 := lit_fu w1 i n r l o
              replace hq1 := hq1.below (grow_alloc w1 (.cells #[.int .i64 i, .string n, .int .i64 r, .int .i64 l, .int .i64 o] 25))
              replace hbW := grow_trans hbW (grow_alloc w1 (.cells #[.int .i64 i, .string n, .int .i64 r, .int .i64 l, .int .i64 o] 25))
              have z2 := Lib.hid (World.size_alloc w1 (.cells #[.int .i64 i, .string n, .int .i64 r, .int .i64 l, .int .i64 o] 25))
              generalize w1.alloc (.cells #[.int .i64 i, .string n, .int .i64 r, .int .i64 l, .int .i64 o] 25) = Wa2 at *
              generalize w1.heap.size = b2 at *
              refine hK.out _ _ (mkS _ hbW) (fun hHeld => ?_)
              clear hK K
              refine wpAnyH_ready (rs := [7]) (by kernel_rfl) (by simp) ?_
              refine AllReadyH.cons rfl (fun K hK => ?_) AllReadyH.nil
              refine step_append_q _ rfl (.tmp 32) (.tmp 34) 33 rfl wr.heap.size 25 i0 (fuV 0 ByteArray.empty 0 0 0) 5 48 Tryz.underlying33 hi hz0 hz1 hz2 rfl (by decide) v1 (0 + k) ([] ++ (fus l0).take (k * 5)) (by rfl) hq1 _ (1) (encU ⟨i, n, r, l, o⟩) (by rfl) s2 (enc_one _) (by unfold maxLen; omega) (by omega) hbW.size ?_
              intro v2 w2 hq2 hg2 hd2
              replace hbW := hbW.grown hg2 hbW.size (fun j hj => (hq1.lt j hj).1)
              clear hg2 hd2
              refine hK.out _ _ (mkS _ hbW) (fun hHeld => ?_)
              clear hK K
              refine wpAnyH_ready (rs := [11]) (by kernel_rfl) (by simp) ?_
              refine AllReadyH.cons rfl (fun K hK => ?_) AllReadyH.nil
              refine step_append_q _ rfl (.tmp 35) (.tmp 38) 33 rfl wr.heap.size 25 i0 (fuV 0 ByteArray.empty 0 0 0) 5 48 Tryz.underlying33 hi hz0 hz1 hz2 rfl (by decide) v2 (0 + k + 1) ([] ++ (fus l0).take (k * 5) ++ encU ⟨i, n, r, l, o⟩) (by rfl) hq2 _ (N - k) ((fus l0).drop (k * 5)) (by rfl) (HB.below hbW) g2 (by unfold maxLen; omega) (by omega) hbW.size ?_
              intro v3 w3 hq3 hg3 hd3
              replace hbW := hbW.grown hg3 hbW.size (fun j hj => (hq2.lt j hj).1)
              clear hg3 hd3
              refine hK.out _ _ (mkS _ hbW) (fun hHeld => ?_)
              clear hK K
              refine wpAnyH_take (i := 12) (v := ?_) rfl (by kernel_rfl) (by kernel_rfl) (by kernel_rfl) (fun _ _ _ h => h) (Or.inl ⟨by rfl, ?_⟩) (by assumption) ?_
              rotate_left
              · intro w hSw
                try dsimp only at hSw
                go_simp
                try (with_reducible rfl)
              try simp only [Act.put, List.setIfInBounds_toArray, List.set_cons_zero, List.set_cons_succ]
              refine wpAnyH_done (by kernel_rfl) ?_ _
              have hqz := hE.out _ _ w.heap.size _ _ hkk.out hk (show w.heap.size ≤ wr.heap.size from hbz.out.size) hq3
              have hbf := Lib.hid (hbz.out.trans (hbW.mono hbz.out.size))
              have HG2 := Lib.hid (HG.out _ _ (Sl.of_q hqz))
              replace hqz := Lib.hid hqz
              obtain ⟨A3, c3, rfl⟩ := (Sl.of_q hqz.out).val
              generalize hal : al.length = M at *
              have Hal := Lib.hid hal
              clear hal hq3 hbW g1 g2 mkS hHeld HA HB HG hE
              cases B with
              | false =>
                have hR := HN.out rfl
                subst hR
                clear HN HY
                go_wp2_with fail
                all_goals
                  with_reducible refine HG2.out.mono ?_
                  rintro e w5 ⟨rfl, hb1⟩
                  have hbg := Lib.hid (grow_trans hbf.out hb1)
                  clear hb1 HG2 hbf hbz hqz
                  go_wp2
                  exact bodyPost_ret (v := .tuple #[.slice (some ⟨w5.heap.size, 0, none⟩) 0 0, .bool false]) (by simp [results, Tryz.results14, go_sem]) rfl ⟨_, rfl, Qw.emptyK (hp0 _ _) hbg.out.size, grow_trans hbg.out (grow_alloc _ _)⟩
              | true =>
                have hR := HY.out rfl
                subst hR
                clear HN HY
                go_wp2_with fail
                all_goals
                  with_reducible refine HG2.out.mono ?_
                  rintro e w5 ⟨rfl, hb1⟩
                  have hbg := Lib.hid (grow_trans hbf.out hb1)
                  replace hqz := Lib.hid (hqz.out.below hb1)
                  clear hb1 HG2 hbf hbz
                  go_wp2
                  refine bodyPost_ret (v := .tuple #[.slice A3 M c3, .bool true]) (by simp [results, Tryz.results14, go_sem]) rfl ⟨_, rfl, ?_, hbg.out⟩
                  rw [Hal.out]
                  exact hqz.out
            · skip
              go_simp
              have s2 := lit_fu Wa0 i n r l o
              replace q0 := q0.below (grow_alloc Wa0 (.cells #[.int .i64 i, .string n, .int .i64 r, .int .i64 l, .int .i64 o] 25))
              replace hbW := grow_trans hbW (grow_alloc Wa0 (.cells #[.int .i64 i, .string n, .int .i64 r, .int .i64 l, .int .i64 o] 25))
              have z2 := Lib.hid (World.size_alloc Wa0 (.cells #[.int .i64 i, .string n, .int .i64 r, .int .i64 l, .int .i64 o] 25))
              generalize Wa0.alloc (.cells #[.int .i64 i, .string n, .int .i64 r, .int .i64 l, .int .i64 o] 25) = Wa1 at *
              generalize Wa0.heap.size = b2 at *
              refine hK.out _ _ (mkS _ hbW) (fun hHeld => ?_)
              clear hK K
              refine wpAnyH_ready (rs := [4]) (by kernel_rfl) (by simp) ?_
              refine AllReadyH.cons rfl (fun K hK => ?_) AllReadyH.nil
              refine step_append_q _ rfl (.tmp 28) (.tmp 31) 33 rfl wr.heap.size 25 i0 (fuV 0 ByteArray.empty 0 0 0) 5 48 Tryz.underlying33 hi hz0 hz1 hz2 rfl (by decide) (.slice (some ⟨b0, 0, none⟩) 0 0) (0) ([]) (by rfl) q0 _ (k) ((fus l0).take (k * 5)) (by rfl) (HA.below hbW) g1 (by unfold maxLen; omega) (by omega) hbW.size ?_
              intro v1 w1 hq1 hg1 hd1
              replace s2 := s2.kept hg1 (.inr (by intro e; simp [Value.ownBlock] at e; have y0 := z0.out; have y2 := z2.out; omega))
              replace hbW := hbW.grown hg1 hbW.size (fun j hj => (q0.lt j hj).1)
              clear hg1 hd1
              refine hK.out _ _ (mkS _ hbW) (fun hHeld => ?_)
              clear hK K
              refine wpAnyH_ready (rs := [7]) (by kernel_rfl) (by simp) ?_
              refine AllReadyH.cons rfl (fun K hK => ?_) AllReadyH.nil
              refine step_append_q _ rfl (.tmp 32) (.tmp 34) 33 rfl wr.heap.size 25 i0 (fuV 0 ByteArray.empty 0 0 0) 5 48 Tryz.underlying33 hi hz0 hz1 hz2 rfl (by decide) v1 (0 + k) ([] ++ (fus l0).take (k * 5)) (by rfl) hq1 _ (1) (encU ⟨i, n, r, l, o⟩) (by rfl) s2 (enc_one _) (by unfold maxLen; omega) (by omega) hbW.size ?_
              intro v2 w2 hq2 hg2 hd2
              replace hbW := hbW.grown hg2 hbW.size (fun j hj => (hq1.lt j hj).1)
              clear hg2 hd2
              refine hK.out _ _ (mkS _ hbW) (fun hHeld => ?_)
              clear hK K
              refine wpAnyH_ready (rs := [11]) (by kernel_rfl) (by simp) ?_
              refine AllReadyH.cons rfl (fun K hK => ?_) AllReadyH.nil
              refine step_append_q _ rfl (.tmp 35) (.tmp 38) 33 rfl wr.heap.size 25 i0 (fuV 0 ByteArray.empty 0 0 0) 5 48 Tryz.underlying33 hi hz0 hz1 hz2 rfl (by decide) v2 (0 + k + 1) ([] ++ (fus l0).take (k * 5) ++ encU ⟨i, n, r, l, o⟩) (by rfl) hq2 _ (N - k) ((fus l0).drop (k * 5)) (by rfl) (HB.below hbW) g2 (by unfold maxLen; omega) (by omega) hbW.size ?_
              intro v3 w3 hq3 hg3 hd3
              replace hbW := hbW.grown hg3 hbW.size (fun j hj => (hq2.lt j hj).1)
              clear hg3 hd3
              refine hK.out _ _ (mkS _ hbW) (fun hHeld => ?_)
              clear hK K
              refine wpAnyH_take (i := 12) (v := ?_) rfl (by kernel_rfl) (by kernel_rfl) (by kernel_rfl) (fun _ _ _ h => h) (Or.inl ⟨by rfl, ?_⟩) (by assumption) ?_
              rotate_left
              · intro w hSw
                try dsimp only at hSw
                go_simp
                try (with_reducible rfl)
              try simp only [Act.put, List.setIfInBounds_toArray, List.set_cons_zero, List.set_cons_succ]
              refine wpAnyH_done (by kernel_rfl) ?_ _
              have hqz := hE.out _ _ w.heap.size _ _ hkk.out hk (show w.heap.size ≤ wr.heap.size from hbz.out.size) hq3
              have hbf := Lib.hid (hbz.out.trans (hbW.mono hbz.out.size))
              have HG2 := Lib.hid (HG.out _ _ (Sl.of_q hqz))
              replace hqz := Lib.hid hqz
              obtain ⟨A3, c3, rfl⟩ := (Sl.of_q hqz.out).val
              generalize hal : al.length = M at *
              have Hal := Lib.hid hal
              clear hal hq3 hbW g1 g2 mkS hHeld HA HB HG hE
              cases B with
              | false =>
                have hR := HN.out rfl
                subst hR
                clear HN HY
                go_wp2_with fail
                all_goals
                  with_reducible refine HG2.out.mono ?_
                  rintro e w5 ⟨rfl, hb1⟩
                  have hbg := Lib.hid (grow_trans hbf.out hb1)
                  clear hb1 HG2 hbf hbz hqz
                  go_wp2
                  exact bodyPost_ret (v := .tuple #[.slice (some ⟨w5.heap.size, 0, none⟩) 0 0, .bool false]) (by simp [results, Tryz.results14, go_sem]) rfl ⟨_, rfl, Qw.emptyK (hp0 _ _) hbg.out.size, grow_trans hbg.out (grow_alloc _ _)⟩
              | true =>
                have hR := HY.out rfl
                subst hR
                clear HN HY
                go_wp2_with fail
                all_goals
                  with_reducible refine HG2.out.mono ?_
                  rintro e w5 ⟨rfl, hb1⟩
                  have hbg := Lib.hid (grow_trans hbf.out hb1)
                  replace hqz := Lib.hid (hqz.out.below hb1)
                  clear hb1 HG2 hbf hbz
                  go_wp2
                  refine bodyPost_ret (v := .tuple #[.slice A3 M c3, .bool true]) (by simp [results, Tryz.results14, go_sem]) rfl ⟨_, rfl, ?_, hbg.out⟩
                  rw [Hal.out]
                  exact hqz.out
          · skip
            go_simp
            have s2 := lit_fu Wd i n r l o
            replace hbW := grow_trans hbW (grow_alloc Wd (.cells #[.int .i64 i, .string n, .int .i64 r, .int .i64 l, .int .i64 o] 25))
            have z2 := Lib.hid (World.size_alloc Wd (.cells #[.int .i64 i, .string n, .int .i64 r, .int .i64 l, .int .i64 o] 25))
            generalize Wd.alloc (.cells #[.int .i64 i, .string n, .int .i64 r, .int .i64 l, .int .i64 o] 25) = Wa0 at *
            generalize Wd.heap.size = b2 at *
            refine hK.out _ _ (mkS _ hbW) (fun hHeld => ?_)
            clear hK K
            refine wpAnyH_ready (rs := [0]) (by kernel_rfl) (by simp) ?_
            refine AllReadyH.cons rfl (fun K hK => ?_) AllReadyH.nil
            go_simp
            have q0 : Qw (Wa0.alloc (.cells #[] 25)) wr.heap.size 25 5 (.slice (some ⟨Wa0.heap.size, 0, none⟩) 0 0) 0 [] := Qw.emptyK (hp0 _ _) hbW.size
            replace s2 := s2.below (grow_alloc Wa0 (.cells #[] 25))
            replace hbW := grow_trans hbW (grow_alloc Wa0 (.cells #[] 25))
            have z0 := Lib.hid (World.size_alloc Wa0 (.cells #[] 25))
            generalize Wa0.alloc (.cells #[] 25) = Wa1 at *
            generalize Wa0.heap.size = b0 at *
            refine hK.out _ _ (mkS _ hbW) (fun hHeld => ?_)
            clear hK K
            refine wpAnyH_ready (rs := [4]) (by kernel_rfl) (by simp) ?_
            refine AllReadyH.cons rfl (fun K hK => ?_) AllReadyH.nil
            refine step_append_q _ rfl (.tmp 28) (.tmp 31) 33 rfl wr.heap.size 25 i0 (fuV 0 ByteArray.empty 0 0 0) 5 48 Tryz.underlying33 hi hz0 hz1 hz2 rfl (by decide) (.slice (some ⟨b0, 0, none⟩) 0 0) (0) ([]) (by rfl) q0 _ (k) ((fus l0).take (k * 5)) (by rfl) (HA.below hbW) g1 (by unfold maxLen; omega) (by omega) hbW.size ?_
            intro v1 w1 hq1 hg1 hd1
            replace s2 := s2.kept hg1 (.inr (by intro e; simp [Value.ownBlock] at e; have y0 := z0.out; have y2 := z2.out; omega))
            replace hbW := hbW.grown hg1 hbW.size (fun j hj => (q0.lt j hj).1)
            clear hg1 hd1
            refine hK.out _ _ (mkS _ hbW) (fun hHeld => ?_)
            clear hK K
            refine wpAnyH_ready (rs := [7]) (by kernel_rfl) (by simp) ?_
            refine AllReadyH.cons rfl (fun K hK => ?_) AllReadyH.nil
            refine step_append_q _ rfl (.tmp 32) (.tmp 34) 33 rfl wr.heap.size 25 i0 (fuV 0 ByteArray.empty 0 0 0) 5 48 Tryz.underlying33 hi hz0 hz1 hz2 rfl (by decide) v1 (0 + k) ([] ++ (fus l0).take (k * 5)) (by rfl) hq1 _ (1) (encU ⟨i, n, r, l, o⟩) (by rfl) s2 (enc_one _) (by unfold maxLen; omega) (by omega) hbW.size ?_
            intro v2 w2 hq2 hg2 hd2
            replace hbW := hbW.grown hg2 hbW.size (fun j hj => (hq1.lt j hj).1)
            clear hg2 hd2
            refine hK.out _ _ (mkS _ hbW) (fun hHeld => ?_)
            clear hK K
            refine wpAnyH_ready (rs := [11]) (by kernel_rfl) (by simp) ?_
            refine AllReadyH.cons rfl (fun K hK => ?_) AllReadyH.nil
            refine step_append_q _ rfl (.tmp 35) (.tmp 38) 33 rfl wr.heap.size 25 i0 (fuV 0 ByteArray.empty 0 0 0) 5 48 Tryz.underlying33 hi hz0 hz1 hz2 rfl (by decide) v2 (0 + k + 1) ([] ++ (fus l0).take (k * 5) ++ encU ⟨i, n, r, l, o⟩) (by rfl) hq2 _ (N - k) ((fus l0).drop (k * 5)) (by rfl) (HB.below hbW) g2 (by unfold maxLen; omega) (by omega) hbW.size ?_
            intro v3 w3 hq3 hg3 hd3
            replace hbW := hbW.grown hg3 hbW.size (fun j hj => (hq2.lt j hj).1)
            clear hg3 hd3
            refine hK.out _ _ (mkS _ hbW) (fun hHeld => ?_)
            clear hK K
            refine wpAnyH_take (i := 12) (v := ?_) rfl (by kernel_rfl) (by kernel_rfl) (by kernel_rfl) (fun _ _ _ h => h) (Or.inl ⟨by rfl, ?_⟩) (by assumption) ?_
            rotate_left
            · intro w hSw
              try dsimp only at hSw
              go_simp
              try (with_reducible rfl)
            try simp only [Act.put, List.setIfInBounds_toArray, List.set_cons_zero, List.set_cons_succ]
            refine wpAnyH_done (by kernel_rfl) ?_ _
            have hqz := hE.out _ _ w.heap.size _ _ hkk.out hk (show w.heap.size ≤ wr.heap.size from hbz.out.size) hq3
            have hbf := Lib.hid (hbz.out.trans (hbW.mono hbz.out.size))
            have HG2 := Lib.hid (HG.out _ _ (Sl.of_q hqz))
            replace hqz := Lib.hid hqz
            obtain ⟨A3, c3, rfl⟩ := (Sl.of_q hqz.out).val
            generalize hal : al.length = M at *
            have Hal := Lib.hid hal
            clear hal hq3 hbW g1 g2 mkS hHeld HA HB HG hE
            cases B with
            | false =>
              have hR := HN.out rfl
              subst hR
              clear HN HY
              go_wp2_with fail
              all_goals
                with_reducible refine HG2.out.mono ?_
                rintro e w5 ⟨rfl, hb1⟩
                have hbg := Lib.hid (grow_trans hbf.out hb1)
                clear hb1 HG2 hbf hbz hqz
                go_wp2
                exact bodyPost_ret (v := .tuple #[.slice (some ⟨w5.heap.size, 0, none⟩) 0 0, .bool false]) (by simp [results, Tryz.results14, go_sem]) rfl ⟨_, rfl, Qw.emptyK (hp0 _ _) hbg.out.size, grow_trans hbg.out (grow_alloc _ _)⟩
            | true =>
              have hR := HY.out rfl
              subst hR
              clear HN HY
              go_wp2_with fail
              all_goals
                with_reducible refine HG2.out.mono ?_
                rintro e w5 ⟨rfl, hb1⟩
                have hbg := Lib.hid (grow_trans hbf.out hb1)
                replace hqz := Lib.hid (hqz.out.below hb1)
                clear hb1 HG2 hbf hbz
                go_wp2
                refine bodyPost_ret (v := .tuple #[.slice A3 M c3, .bool true]) (by simp [results, Tryz.results14, go_sem]) rfl ⟨_, rfl, ?_, hbg.out⟩
                rw [Hal.out]
                exact hqz.out
end Go.Proofs.YtnadeddkogapoaaGreatDoor
