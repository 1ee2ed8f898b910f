/- The arguments that FnSpeeds draws. Conditions: as each states. -/
import Derived.Test.YtnacofmjipilhaaDrF
import Derived.Deep.RegionHeldLaw
namespace Go.Proofs.Ytnacofmjipilhaa
open Go.ChangeShapes Go.WideShapes Go.ChangeAt Go.RowKit Go.Deep
set_option linter.unusedVariables false
set_option linter.unusedSimpArgs false
set_option maxRecDepth 100000

theorem small_of {l : List Int} {a b x : Int} (h : ∀ y ∈ l, a ≤ y ∧ y ≤ b) (hx : x ∈ l) : a ≤ x ∧ x ≤ b := h x hx
/-- A result box ahead of the reader's own: what the draw leaves. -/
theorem fin_below2 {w w' : World} {o p : Obj} (h : ((w.alloc o).alloc p).grownBy w' (some (w.heap.size + 1))) : Below w.heap.size w w' :=
  Below.grown (grow_trans (grow_alloc w o) (grow_alloc _ p)) h (by simp; omega) (fun k hk => by cases hk; omega)
theorem five_grow {w0 W : World} {row : Option Nat} {B : Nat} {i r l o : Int} {n : ByteArray} (h : w0.grownBy W row) (hB : w0.heap.size ≤ B) :
    w0.grownBy (((((W.setCell ⟨B, 0, none⟩ (.int .i64 i)).setCell ⟨B, 1, none⟩ (.string n)).setCell ⟨B, 2, none⟩ (.int .i64 r)).setCell ⟨B, 3, none⟩ (.int .i64 l)).setCell ⟨B, 4, none⟩ (.int .i64 o)) row :=
  grow_set (grow_set (grow_set (grow_set (grow_set h hB 0 _) hB 1 _) hB 2 _) hB 3 _) hB 4 _
theorem five_below {a W : World} {b B : Nat} {i r l o : Int} {n : ByteArray} (h : Below b a W) (hB : b ≤ B) :
    Below b a (((((W.setCell ⟨B, 0, none⟩ (.int .i64 i)).setCell ⟨B, 1, none⟩ (.string n)).setCell ⟨B, 2, none⟩ (.int .i64 r)).setCell ⟨B, 3, none⟩ (.int .i64 l)).setCell ⟨B, 4, none⟩ (.int .i64 o)) :=
  ((((h.setCell (p := ⟨B, 0, none⟩) hB _).setCell (p := ⟨B, 1, none⟩) hB _).setCell (p := ⟨B, 2, none⟩) hB _).setCell (p := ⟨B, 3, none⟩) hB _).setCell (p := ⟨B, 4, none⟩) hB _
theorem pick_u (C m : Nat) (n : Int) (w : World) (h : Cur w C m) (hm : m ≤ 1099511627770) (hn : n ≤ 1000000) :
    Calls Try.prog 94 #[.pointer (some ⟨C, 0, none⟩), .int .i64 n] w fun e w' => ∃ x : Int, e = .returned (.int .i64 x) ∧ (0 ≤ x ∧ x < max n 1) ∧ Cur w' C (m + 2) ∧ w.grownBy w' (some C) := by
  refine (pick_any C m n w h hm hn).mono ?_
  rintro e w1 ⟨v, rfl, ⟨x, rfl, x0, x1⟩, hc1, hg1⟩
  exact ⟨x, rfl, ⟨x0, x1⟩, hc1, hg1⟩
set_option maxHeartbeats 8000000 in
theorem DrawSpeedIn_any (V : Value) (zs : List Int) (w : World) (h1 : Sl w 1 V zs.length (octs zs)) (h2 : ∀ z ∈ zs, 0 ≤ z ∧ z ≤ 255) :
    Calls Try.prog 27 #[V] w fun e w' => ∃ i n r l o m s, e = .returned (.tuple #[fuV i n r l o, .int .i64 m, .int .i64 s]) ∧ FuS i n r l o ∧ (-1 ≤ m ∧ m ≤ 401) ∧ (-46 ≤ s ∧ s ≤ 46) ∧ Below w.heap.size w w' := by
  obtain ⟨A, cc, rfl⟩ := h1.val
  have hC0 : Cur ((w.alloc (.cells #[.int .i64 0, .string (⟨#[]⟩ : ByteArray), .int .i64 0, .int .i64 0, .int .i64 0] 39)).alloc (.cells #[.slice A zs.length cc, .int .i64 0, .int .u64 0] 107)) (w.heap.size + 1) 0 := by
    have := Cur.new (h1.below (grow_alloc w (.cells #[.int .i64 0, .string (⟨#[]⟩ : ByteArray), .int .i64 0, .int .i64 0, .int .i64 0] 39))) h2
    rwa [World.size_alloc] at this
  have hR0 := Lib.hid ((Bx.new w (fuC 0 ⟨#[]⟩ 0 0 0) 39).below (grow_alloc _ (.cells #[.slice A zs.length cc, .int .i64 0, .int .u64 0] 107)))
  have hF := Lib.hid (fuel_any _ _ _ hC0 (by omega))
  clear hC0
  go_enter Try.func27, Try.ntmps27
  go_wp2_with fail
  refine hF.out.mono ?_
  rintro e w1 ⟨i, n, r, l, o, rfl, hFS, hc, hg⟩
  have hR := Lib.hid (hR0.out.kept hg (by simp))
  replace hc := Lib.hid hc
  replace hg := Lib.hid hg
  clear hF hR0
  have hM := Lib.hid (moist_any _ _ _ hc.out (by omega))
  go_wp2_with fail
  refine hM.out.mono ?_
  rintro e w2 ⟨m, hm, rfl, hc', hg'⟩
  replace hR := Lib.hid (hR.out.kept hg' (by simp))
  replace hc := Lib.hid hc'
  replace hg := Lib.hid (grownBy_trans hg.out hg')
  have hm' := Lib.hid (small_of (a := -1) (b := 401) (by decide) hm)
  clear hM hc' hg' hm
  have hM := Lib.hid (slope_any _ _ _ hc.out (by omega))
  go_wp2_with fail
  refine hM.out.mono ?_
  rintro e w3 ⟨s, hs, rfl, hc', hg'⟩
  replace hR := Lib.hid (hR.out.kept hg' (by simp))
  replace hg := Lib.hid (grownBy_trans hg.out hg')
  have hs' := Lib.hid (small_of (a := -46) (b := 46) (by decide) hs)
  clear hM hc hc' hg' hs
  obtain ⟨⟨r0, r1, r2, r3, r4⟩, s0, s1, s2, s3, s4⟩ := fu_cells hR.out
  have hE := Lib.hid (five_set (i' := i) (n' := n) (r' := r) (l' := l) (o' := o) hR.out)
  have hZ := Lib.hid (five_below (i := i) (n := n) (r := r) (l := l) (o := o) (fin_below2 hg.out) (Nat.le_refl w.heap.size))
  go_wp2
  generalize hWz : World.setCell _ ⟨w.heap.size, 4, none⟩ _ = Wz at *
  obtain ⟨⟨e0, e1, e2, e3, e4⟩, _⟩ := fu_cells hE.out
  exact bodyPost_ret (v := .tuple #[fuV i n r l o, .int .i64 m, .int .i64 s]) (by simp [results, Try.results27, go_sem, e0, e1, e2, e3, e4]) rfl ⟨_, _, _, _, _, _, _, rfl, hFS, hm'.out, hs'.out, hZ.out⟩
set_option maxHeartbeats 8000000 in
theorem DrawDampestFor_any (V : Value) (zs : List Int) (w : World) (h1 : Sl w 1 V zs.length (octs zs)) (h2 : ∀ z ∈ zs, 0 ≤ z ∧ z ≤ 255) :
    Calls Try.prog 30 #[V] w fun e w' => ∃ i n r l o m s, e = .returned (.tuple #[fuV i n r l o, .int .i64 m, .int .i64 s]) ∧ FuS i n r l o ∧ (-46 ≤ m ∧ m ≤ 46) ∧ (0 ≤ s ∧ s ≤ 10001) ∧ Below w.heap.size w w' := by
  obtain ⟨A, cc, rfl⟩ := h1.val
  have hC0 : Cur ((w.alloc (.cells #[.int .i64 0, .string (⟨#[]⟩ : ByteArray), .int .i64 0, .int .i64 0, .int .i64 0] 39)).alloc (.cells #[.slice A zs.length cc, .int .i64 0, .int .u64 0] 107)) (w.heap.size + 1) 0 := by
    have := Cur.new (h1.below (grow_alloc w (.cells #[.int .i64 0, .string (⟨#[]⟩ : ByteArray), .int .i64 0, .int .i64 0, .int .i64 0] 39))) h2
    rwa [World.size_alloc] at this
  have hR0 := Lib.hid ((Bx.new w (fuC 0 ⟨#[]⟩ 0 0 0) 39).below (grow_alloc _ (.cells #[.slice A zs.length cc, .int .i64 0, .int .u64 0] 107)))
  have hF := Lib.hid (fuel_any _ _ _ hC0 (by omega))
  clear hC0
  go_enter Try.func30, Try.ntmps30
  go_wp2_with fail
  refine hF.out.mono ?_
  rintro e w1 ⟨i, n, r, l, o, rfl, hFS, hc, hg⟩
  have hR := Lib.hid (hR0.out.kept hg (by simp))
  replace hc := Lib.hid hc
  replace hg := Lib.hid hg
  clear hF hR0
  have hlt1 := hc.out.lt
  have hb1 := grow_alloc w1 (.cells #[.int .i64 i, .string n, .int .i64 r, .int .i64 l, .int .i64 o] 39)
  have hT : Bx (w1.alloc (.cells #[.int .i64 i, .string n, .int .i64 r, .int .i64 l, .int .i64 o] 39)) 39 w1.heap.size (fuC i n r l o) := Bx.new w1 (fuC i n r l o) 39
  replace hR := hR.out.below hb1
  replace hc := hc.out.below hb1
  replace hg := grownBy_trans hg.out (grownBy_of_below (r := some (w.heap.size + 1)) hb1)
  have hTC : w1.heap.size ≠ w.heap.size + 1 := by omega
  have hsz1 : w.heap.size + 1 < w1.heap.size := hlt1
  replace hR := Lib.hid hR
  replace hc := Lib.hid hc
  replace hg := Lib.hid hg
  replace hT := Lib.hid hT
  clear hb1
  go_wp2_with fail
  replace hR := hR.out
  replace hc := hc.out
  replace hg := hg.out
  replace hT := hT.out
  generalize hW : w1.alloc (.cells #[.int .i64 i, .string n, .int .i64 r, .int .i64 l, .int .i64 o] 39) = W1 at *
  generalize hB5 : w1.heap.size = T at *
  clear hB5 hW
  have hTR : T ≠ w.heap.size := by omega
  have HL0 := fun (W : World) => lit_sl W ((([1, 20, 100, 500, 10000, 0, 10001] : List Int)).map (Value.int .i64)) 3 (by simp)
  simp only [List.map_cons, List.map_nil, List.length_cons, List.length_nil, Nat.reduceAdd] at HL0
  replace HL0 := Lib.hid HL0
  refine wp_region_held_drew (S := (fun W => (W.cell? ⟨T, 0, none⟩ = some (.int .i64 i) ∧ W.cell? ⟨T, 1, none⟩ = some (.string n) ∧ W.cell? ⟨T, 2, none⟩ = some (.int .i64 r) ∧ W.cell? ⟨T, 3, none⟩ = some (.int .i64 l) ∧ W.cell? ⟨T, 4, none⟩ = some (.int .i64 o)))) (by kernel_rfl) ((fu_cells (hT.below (grow_drew _))).1) (fun hHeld => ?_)
  replace hR := hR.below (grow_drew _)
  replace hc := hc.below (grow_drew _)
  replace hg := grownBy_trans hg (grownBy_of_below (r := some (w.heap.size + 1)) (grow_drew _))
  replace hT := hT.below (grow_drew _)
  generalize W1.drew = Wd at *
  refine wpAnyH_take (i := 0) (v := ?_) rfl (by kernel_rfl) (by kernel_rfl) (by kernel_rfl) (fun _ _ _ h => h) (Or.inl ⟨by rfl, ?_⟩) (by assumption) ?_
  rotate_left
  · intro w hSw
    try dsimp only at hSw
    go_simp
    try (with_reducible rfl)
  try simp only [Act.put, List.setIfInBounds_toArray, List.set_cons_zero, List.set_cons_succ]
  refine wpAnyH_take (i := 1) (v := ?_) rfl (by kernel_rfl) (by kernel_rfl) (by kernel_rfl) (fun _ _ _ h => h) (Or.inl ⟨by rfl, ?_⟩) (by assumption) ?_
  rotate_left
  · intro w hSw
    try dsimp only at hSw
    go_simp
    try (with_reducible rfl)
  try simp only [Act.put, List.setIfInBounds_toArray, List.set_cons_zero, List.set_cons_succ]
  refine wpAnyH_take (i := 3) (v := ?_) rfl (by kernel_rfl) (by kernel_rfl) (by kernel_rfl) (fun _ _ _ h => h) (Or.inl ⟨by rfl, ?_⟩) (by assumption) ?_
  rotate_left
  · intro w hSw
    try dsimp only at hSw
    go_simp
    try (with_reducible rfl)
  try simp only [Act.put, List.setIfInBounds_toArray, List.set_cons_zero, List.set_cons_succ]
  refine wpAnyH_take (i := 5) (v := ?_) rfl (by kernel_rfl) (by kernel_rfl) (by kernel_rfl) (fun _ _ _ h => h) (Or.inl ⟨by rfl, ?_⟩) (by assumption) ?_
  rotate_left
  · intro w hSw
    try dsimp only at hSw
    go_simp
    try (with_reducible rfl)
  try simp only [Act.put, List.setIfInBounds_toArray, List.set_cons_zero, List.set_cons_succ]
  refine wpAnyH_ready (rs := [2, 4]) (by kernel_rfl) (by simp) ?_
  refine AllReadyH.cons rfl (fun K hK => ?_) (AllReadyH.cons rfl (fun K hK => ?_) AllReadyH.nil)
  · skip
    go_simp
    go_at_call 88
    refine (slope_any _ _ _ hc (by omega)).mono ?_
    rintro e wa ⟨m, hm, rfl, hc', hg'⟩
    have hm1 := small_of (a := -46) (b := 46) (by decide) hm
    clear hm
    replace hT := hT.kept hg' (by simpa using hTC)
    replace hR := hR.kept hg' (by simp)
    replace hg := grownBy_trans hg hg'
    replace hc := hc'
    clear hc' hg'
    refine hK.out _ _ (fu_cells hT).1 (fun hHeld => ?_)
    clear hK K
    refine wpAnyH_ready (rs := [4, 6]) (by kernel_rfl) (by simp) ?_
    refine AllReadyH.cons rfl (fun K hK => ?_) (AllReadyH.cons rfl (fun K hK => ?_) AllReadyH.nil)
    · skip
      go_simp
      have hlB : wa.heap.size ≠ w.heap.size + 1 := by have := hc.lt; omega
      have hl := HL0.out wa
      have hbl := grow_alloc wa (.cells #[.int .i64 1, .int .i64 20, .int .i64 100, .int .i64 500, .int .i64 10000, .int .i64 0, .int .i64 10001] 3)
      replace hT := hT.below hbl
      replace hR := hR.below hbl
      replace hc := hc.below hbl
      replace hg := grownBy_trans hg (grownBy_of_below (r := some (w.heap.size + 1)) hbl)
      generalize wa.alloc (.cells #[.int .i64 1, .int .i64 20, .int .i64 100, .int .i64 500, .int .i64 10000, .int .i64 0, .int .i64 10001] 3) = Wl at *
      generalize wa.heap.size = bl at *
      clear hbl
      refine hK.out _ _ (fu_cells hT).1 (fun hHeld => ?_)
      clear hK K
      refine wpAnyH_ready (rs := [6]) (by kernel_rfl) (by simp) ?_
      refine AllReadyH.cons rfl (fun K hK => ?_) AllReadyH.nil
      · skip
        go_simp
        go_at_call 94
        refine (pick_u _ _ 24 _ hc (by omega) (by omega)).mono ?_
        rintro e wb ⟨x, rfl, ⟨x0, x1⟩, hc', hg'⟩
        replace hT := hT.kept hg' (by simpa using hTC)
        replace hR := hR.kept hg' (by simp)
        replace hl := hl.kept hg' (.inr (by simp [Value.ownBlock]; omega))
        replace hg := grownBy_trans hg hg'
        replace hc := hc'
        clear hc' hg'
        refine hK.out _ _ (fu_cells hT).1 (fun hHeld => ?_)
        clear hK K
        rcases (show x / 11 = 0 ∨ x / 11 = 1 ∨ x / 11 = 2 by omega) with hx | hx | hx
        · skip
          have e1 : IntKind.i64.wrap (x.tdiv 11) = 0 := by rw [Int.tdiv_eq_ediv_of_nonneg x0, hx]; rfl
          have e2 : IntKind.i64.wrap 5 = 5 := by rfl
          have e3 : IntKind.i64.wrap (5 + IntKind.i64.wrap (x.tdiv 11)) = 5 := by rw [e1]; rfl
          refine wpAnyH_take (i := 7) (v := ?_) rfl (by kernel_rfl) (by kernel_rfl) (by kernel_rfl) (fun _ _ _ h => h) (Or.inl ⟨by rfl, ?_⟩) (by assumption) ?_
          rotate_left
          · intro w hSw
            try dsimp only at hSw
            go_simp
            try (with_reducible rfl)
          try simp only [Act.put, List.setIfInBounds_toArray, List.set_cons_zero, List.set_cons_succ]
          refine wpAnyH_take (i := 8) (v := ?_) rfl (by kernel_rfl) (by kernel_rfl) (by kernel_rfl) (fun _ _ _ h => h) (Or.inl ⟨by rfl, ?_⟩) (by assumption) ?_
          rotate_left
          · intro w hSw
            try dsimp only at hSw
            go_simp
            try (with_reducible rfl)
          try simp only [Act.put, List.setIfInBounds_toArray, List.set_cons_zero, List.set_cons_succ]
          refine wpAnyH_take (i := 9) (v := ?_) rfl (by kernel_rfl) (by kernel_rfl) (by kernel_rfl) (fun _ _ _ h => h) (Or.inl ⟨by rfl, ?_⟩) (by assumption) ?_
          rotate_left
          · intro w hSw
            try dsimp only at hSw
            go_simp
            try (with_reducible rfl)
          try simp only [Act.put, List.setIfInBounds_toArray, List.set_cons_zero, List.set_cons_succ]
          refine wpAnyH_ready (rs := [10]) (by kernel_rfl) (by simp) (AllReadyH.cons rfl (fun K hK => ?_) AllReadyH.nil)
          go_simp
          go_at_call 93
          refine (among_cut _ _ _ 5 7 [1, 20, 100, 500, 10000, 0, 10001] _ rfl hc (by omega) hl hlB (by omega) (by omega)).mono ?_
          rintro e wz ⟨s, hs, rfl, hc', hg'⟩
          have hs1 := small_of (a := 0) (b := 10001) (by decide) hs
          clear hs
          replace hT := hT.kept hg' (by simpa using hTC)
          replace hR := hR.kept hg' (by simp)
          replace hg := grownBy_trans hg hg'
          replace hc := hc'
          clear hc' hg'
          refine hK.out _ _ (fu_cells hT).1 (fun hHeld => ?_)
          clear hK K
          obtain ⟨⟨r0, r1, r2, r3, r4⟩, s0, s1, s2, s3, s4⟩ := fu_cells hR
          have hE := Lib.hid (five_set (i' := i) (n' := n) (r' := r) (l' := l) (o' := o) hR)
          have hZ := Lib.hid (five_below (i := i) (n := n) (r := r) (l := l) (o := o) (fin_below2 hg) (Nat.le_refl w.heap.size))
          have hT5 := (fu_cells (((((hT.other hTR 0 (.int .i64 i)).other hTR 1 (.string n)).other hTR 2 (.int .i64 r)).other hTR 3 (.int .i64 l)).other hTR 4 (.int .i64 o))).1
          refine wpAnyH_ready (rs := [11]) (by kernel_rfl) (by simp) (AllReadyH.cons rfl (fun K hK => ?_) AllReadyH.nil)
          go_simp
          refine hK.out _ _ hT5 (fun hHeld => ?_)
          clear hK K
          clear r0 r1 r2 r3 r4 s0 s1 s2 s3 s4
          refine wpAnyH_ready (rs := [12]) (by kernel_rfl) (by simp) (AllReadyH.cons rfl (fun K hK => ?_) AllReadyH.nil)
          go_simp
          refine hK.out _ _ hT5 (fun hHeld => ?_)
          clear hK K
          refine wpAnyH_ready (rs := [13]) (by kernel_rfl) (by simp) (AllReadyH.cons rfl (fun K hK => ?_) AllReadyH.nil)
          go_simp
          refine hK.out _ _ hT5 (fun hHeld => ?_)
          clear hK K
          refine wpAnyH_done (by kernel_rfl) ?_ _
          go_wp2
          generalize hWz : World.setCell _ ⟨w.heap.size, 4, none⟩ _ = Wz at *
          obtain ⟨⟨e0, e1, e2, e3, e4⟩, _⟩ := fu_cells hE.out
          exact bodyPost_ret (v := .tuple #[fuV i n r l o, .int .i64 m, .int .i64 s]) (by simp [results, Try.results30, go_sem, e0, e1, e2, e3, e4]) rfl ⟨_, _, _, _, _, _, _, rfl, hFS, hm1, hs1, hZ.out⟩
        · skip
          have e1 : IntKind.i64.wrap (x.tdiv 11) = 1 := by rw [Int.tdiv_eq_ediv_of_nonneg x0, hx]; rfl
          have e2 : IntKind.i64.wrap 6 = 6 := by rfl
          have e3 : IntKind.i64.wrap (5 + IntKind.i64.wrap (x.tdiv 11)) = 6 := by rw [e1]; rfl
          refine wpAnyH_take (i := 7) (v := ?_) rfl (by kernel_rfl) (by kernel_rfl) (by kernel_rfl) (fun _ _ _ h => h) (Or.inl ⟨by rfl, ?_⟩) (by assumption) ?_
          rotate_left
          · intro w hSw
            try dsimp only at hSw
            go_simp
            try (with_reducible rfl)
          try simp only [Act.put, List.setIfInBounds_toArray, List.set_cons_zero, List.set_cons_succ]
          refine wpAnyH_take (i := 8) (v := ?_) rfl (by kernel_rfl) (by kernel_rfl) (by kernel_rfl) (fun _ _ _ h => h) (Or.inl ⟨by rfl, ?_⟩) (by assumption) ?_
          rotate_left
          · intro w hSw
            try dsimp only at hSw
            go_simp
            try (with_reducible rfl)
          try simp only [Act.put, List.setIfInBounds_toArray, List.set_cons_zero, List.set_cons_succ]
          refine wpAnyH_take (i := 9) (v := ?_) rfl (by kernel_rfl) (by kernel_rfl) (by kernel_rfl) (fun _ _ _ h => h) (Or.inl ⟨by rfl, ?_⟩) (by assumption) ?_
          rotate_left
          · intro w hSw
            try dsimp only at hSw
            go_simp
            try (with_reducible rfl)
          try simp only [Act.put, List.setIfInBounds_toArray, List.set_cons_zero, List.set_cons_succ]
          refine wpAnyH_ready (rs := [10]) (by kernel_rfl) (by simp) (AllReadyH.cons rfl (fun K hK => ?_) AllReadyH.nil)
          go_simp
          go_at_call 93
          refine (among_cut _ _ _ 6 7 [1, 20, 100, 500, 10000, 0, 10001] _ rfl hc (by omega) hl hlB (by omega) (by omega)).mono ?_
          rintro e wz ⟨s, hs, rfl, hc', hg'⟩
          have hs1 := small_of (a := 0) (b := 10001) (by decide) hs
          clear hs
          replace hT := hT.kept hg' (by simpa using hTC)
          replace hR := hR.kept hg' (by simp)
          replace hg := grownBy_trans hg hg'
          replace hc := hc'
          clear hc' hg'
          refine hK.out _ _ (fu_cells hT).1 (fun hHeld => ?_)
          clear hK K
          obtain ⟨⟨r0, r1, r2, r3, r4⟩, s0, s1, s2, s3, s4⟩ := fu_cells hR
          have hE := Lib.hid (five_set (i' := i) (n' := n) (r' := r) (l' := l) (o' := o) hR)
          have hZ := Lib.hid (five_below (i := i) (n := n) (r := r) (l := l) (o := o) (fin_below2 hg) (Nat.le_refl w.heap.size))
          have hT5 := (fu_cells (((((hT.other hTR 0 (.int .i64 i)).other hTR 1 (.string n)).other hTR 2 (.int .i64 r)).other hTR 3 (.int .i64 l)).other hTR 4 (.int .i64 o))).1
          refine wpAnyH_ready (rs := [11]) (by kernel_rfl) (by simp) (AllReadyH.cons rfl (fun K hK => ?_) AllReadyH.nil)
          go_simp
          refine hK.out _ _ hT5 (fun hHeld => ?_)
          clear hK K
          clear r0 r1 r2 r3 r4 s0 s1 s2 s3 s4
          refine wpAnyH_ready (rs := [12]) (by kernel_rfl) (by simp) (AllReadyH.cons rfl (fun K hK => ?_) AllReadyH.nil)
          go_simp
          refine hK.out _ _ hT5 (fun hHeld => ?_)
          clear hK K
          refine wpAnyH_ready (rs := [13]) (by kernel_rfl) (by simp) (AllReadyH.cons rfl (fun K hK => ?_) AllReadyH.nil)
          go_simp
          refine hK.out _ _ hT5 (fun hHeld => ?_)
          clear hK K
          refine wpAnyH_done (by kernel_rfl) ?_ _
          go_wp2
          generalize hWz : World.setCell _ ⟨w.heap.size, 4, none⟩ _ = Wz at *
          obtain ⟨⟨e0, e1, e2, e3, e4⟩, _⟩ := fu_cells hE.out
          exact bodyPost_ret (v := .tuple #[fuV i n r l o, .int .i64 m, .int .i64 s]) (by simp [results, Try.results30, go_sem, e0, e1, e2, e3, e4]) rfl ⟨_, _, _, _, _, _, _, rfl, hFS, hm1, hs1, hZ.out⟩
        · skip
          have e1 : IntKind.i64.wrap (x.tdiv 11) = 2 := by rw [Int.tdiv_eq_ediv_of_nonneg x0, hx]; rfl
          have e2 : IntKind.i64.wrap 7 = 7 := by rfl
          have e3 : IntKind.i64.wrap (5 + IntKind.i64.wrap (x.tdiv 11)) = 7 := by rw [e1]; rfl
          refine wpAnyH_take (i := 7) (v := ?_) rfl (by kernel_rfl) (by kernel_rfl) (by kernel_rfl) (fun _ _ _ h => h) (Or.inl ⟨by rfl, ?_⟩) (by assumption) ?_
          rotate_left
          · intro w hSw
            try dsimp only at hSw
            go_simp
            try (with_reducible rfl)
          try simp only [Act.put, List.setIfInBounds_toArray, List.set_cons_zero, List.set_cons_succ]
          refine wpAnyH_take (i := 8) (v := ?_) rfl (by kernel_rfl) (by kernel_rfl) (by kernel_rfl) (fun _ _ _ h => h) (Or.inl ⟨by rfl, ?_⟩) (by assumption) ?_
          rotate_left
          · intro w hSw
            try dsimp only at hSw
            go_simp
            try (with_reducible rfl)
          try simp only [Act.put, List.setIfInBounds_toArray, List.set_cons_zero, List.set_cons_succ]
          refine wpAnyH_take (i := 9) (v := ?_) rfl (by kernel_rfl) (by kernel_rfl) (by kernel_rfl) (fun _ _ _ h => h) (Or.inl ⟨by rfl, ?_⟩) (by assumption) ?_
          rotate_left
          · intro w hSw
            try dsimp only at hSw
            go_simp
            try (with_reducible rfl)
          try simp only [Act.put, List.setIfInBounds_toArray, List.set_cons_zero, List.set_cons_succ]
          refine wpAnyH_ready (rs := [10]) (by kernel_rfl) (by simp) (AllReadyH.cons rfl (fun K hK => ?_) AllReadyH.nil)
          go_simp
          go_at_call 93
          refine (among_cut _ _ _ 7 7 [1, 20, 100, 500, 10000, 0, 10001] _ rfl hc (by omega) hl hlB (by omega) (by omega)).mono ?_
          rintro e wz ⟨s, hs, rfl, hc', hg'⟩
          have hs1 := small_of (a := 0) (b := 10001) (by decide) hs
          clear hs
          replace hT := hT.kept hg' (by simpa using hTC)
          replace hR := hR.kept hg' (by simp)
          replace hg := grownBy_trans hg hg'
          replace hc := hc'
          clear hc' hg'
          refine hK.out _ _ (fu_cells hT).1 (fun hHeld => ?_)
          clear hK K
          obtain ⟨⟨r0, r1, r2, r3, r4⟩, s0, s1, s2, s3, s4⟩ := fu_cells hR
          have hE := Lib.hid (five_set (i' := i) (n' := n) (r' := r) (l' := l) (o' := o) hR)
          have hZ := Lib.hid (five_below (i := i) (n := n) (r := r) (l := l) (o := o) (fin_below2 hg) (Nat.le_refl w.heap.size))
          have hT5 := (fu_cells (((((hT.other hTR 0 (.int .i64 i)).other hTR 1 (.string n)).other hTR 2 (.int .i64 r)).other hTR 3 (.int .i64 l)).other hTR 4 (.int .i64 o))).1
          refine wpAnyH_ready (rs := [11]) (by kernel_rfl) (by simp) (AllReadyH.cons rfl (fun K hK => ?_) AllReadyH.nil)
          go_simp
          refine hK.out _ _ hT5 (fun hHeld => ?_)
          clear hK K
          clear r0 r1 r2 r3 r4 s0 s1 s2 s3 s4
          refine wpAnyH_ready (rs := [12]) (by kernel_rfl) (by simp) (AllReadyH.cons rfl (fun K hK => ?_) AllReadyH.nil)
          go_simp
          refine hK.out _ _ hT5 (fun hHeld => ?_)
          clear hK K
          refine wpAnyH_ready (rs := [13]) (by kernel_rfl) (by simp) (AllReadyH.cons rfl (fun K hK => ?_) AllReadyH.nil)
          go_simp
          refine hK.out _ _ hT5 (fun hHeld => ?_)
          clear hK K
          refine wpAnyH_done (by kernel_rfl) ?_ _
          go_wp2
          generalize hWz : World.setCell _ ⟨w.heap.size, 4, none⟩ _ = Wz at *
          obtain ⟨⟨e0, e1, e2, e3, e4⟩, _⟩ := fu_cells hE.out
          exact bodyPost_ret (v := .tuple #[fuV i n r l o, .int .i64 m, .int .i64 s]) (by simp [results, Try.results30, go_sem, e0, e1, e2, e3, e4]) rfl ⟨_, _, _, _, _, _, _, rfl, hFS, hm1, hs1, hZ.out⟩
    · skip
      go_simp
      go_at_call 94
      refine (pick_u _ _ 24 _ hc (by omega) (by omega)).mono ?_
      rintro e wb ⟨x, rfl, ⟨x0, x1⟩, hc', hg'⟩
      replace hT := hT.kept hg' (by simpa using hTC)
      replace hR := hR.kept hg' (by simp)
      replace hg := grownBy_trans hg hg'
      replace hc := hc'
      clear hc' hg'
      refine hK.out _ _ (fu_cells hT).1 (fun hHeld => ?_)
      clear hK K
      rcases (show x / 11 = 0 ∨ x / 11 = 1 ∨ x / 11 = 2 by omega) with hx | hx | hx
      · skip
        have e1 : IntKind.i64.wrap (x.tdiv 11) = 0 := by rw [Int.tdiv_eq_ediv_of_nonneg x0, hx]; rfl
        have e2 : IntKind.i64.wrap 5 = 5 := by rfl
        have e3 : IntKind.i64.wrap (5 + IntKind.i64.wrap (x.tdiv 11)) = 5 := by rw [e1]; rfl
        refine wpAnyH_take (i := 7) (v := ?_) rfl (by kernel_rfl) (by kernel_rfl) (by kernel_rfl) (fun _ _ _ h => h) (Or.inl ⟨by rfl, ?_⟩) (by assumption) ?_
        rotate_left
        · intro w hSw
          try dsimp only at hSw
          go_simp
          try (with_reducible rfl)
        try simp only [Act.put, List.setIfInBounds_toArray, List.set_cons_zero, List.set_cons_succ]
        refine wpAnyH_take (i := 8) (v := ?_) rfl (by kernel_rfl) (by kernel_rfl) (by kernel_rfl) (fun _ _ _ h => h) (Or.inl ⟨by rfl, ?_⟩) (by assumption) ?_
        rotate_left
        · intro w hSw
          try dsimp only at hSw
          go_simp
          try (with_reducible rfl)
        try simp only [Act.put, List.setIfInBounds_toArray, List.set_cons_zero, List.set_cons_succ]
        refine wpAnyH_ready (rs := [4]) (by kernel_rfl) (by simp) (AllReadyH.cons rfl (fun K hK => ?_) AllReadyH.nil)
        go_simp
        have hlB : wb.heap.size ≠ w.heap.size + 1 := by have := hc.lt; omega
        have hl := HL0.out wb
        have hbl := grow_alloc wb (.cells #[.int .i64 1, .int .i64 20, .int .i64 100, .int .i64 500, .int .i64 10000, .int .i64 0, .int .i64 10001] 3)
        replace hT := hT.below hbl
        replace hR := hR.below hbl
        replace hc := hc.below hbl
        replace hg := grownBy_trans hg (grownBy_of_below (r := some (w.heap.size + 1)) hbl)
        generalize wb.alloc (.cells #[.int .i64 1, .int .i64 20, .int .i64 100, .int .i64 500, .int .i64 10000, .int .i64 0, .int .i64 10001] 3) = Wl at *
        generalize wb.heap.size = bl at *
        clear hbl
        refine hK.out _ _ (fu_cells hT).1 (fun hHeld => ?_)
        clear hK K
        refine wpAnyH_take (i := 9) (v := ?_) rfl (by kernel_rfl) (by kernel_rfl) (by kernel_rfl) (fun _ _ _ h => h) (Or.inl ⟨by rfl, ?_⟩) (by assumption) ?_
        rotate_left
        · intro w hSw
          try dsimp only at hSw
          go_simp
          try (with_reducible rfl)
        try simp only [Act.put, List.setIfInBounds_toArray, List.set_cons_zero, List.set_cons_succ]
        refine wpAnyH_ready (rs := [10]) (by kernel_rfl) (by simp) (AllReadyH.cons rfl (fun K hK => ?_) AllReadyH.nil)
        go_simp
        go_at_call 93
        refine (among_cut _ _ _ 5 7 [1, 20, 100, 500, 10000, 0, 10001] _ rfl hc (by omega) hl hlB (by omega) (by omega)).mono ?_
        rintro e wz ⟨s, hs, rfl, hc', hg'⟩
        have hs1 := small_of (a := 0) (b := 10001) (by decide) hs
        clear hs
        replace hT := hT.kept hg' (by simpa using hTC)
        replace hR := hR.kept hg' (by simp)
        replace hg := grownBy_trans hg hg'
        replace hc := hc'
        clear hc' hg'
        refine hK.out _ _ (fu_cells hT).1 (fun hHeld => ?_)
        clear hK K
        obtain ⟨⟨r0, r1, r2, r3, r4⟩, s0, s1, s2, s3, s4⟩ := fu_cells hR
        have hE := Lib.hid (five_set (i' := i) (n' := n) (r' := r) (l' := l) (o' := o) hR)
        have hZ := Lib.hid (five_below (i := i) (n := n) (r := r) (l := l) (o := o) (fin_below2 hg) (Nat.le_refl w.heap.size))
        have hT5 := (fu_cells (((((hT.other hTR 0 (.int .i64 i)).other hTR 1 (.string n)).other hTR 2 (.int .i64 r)).other hTR 3 (.int .i64 l)).other hTR 4 (.int .i64 o))).1
        refine wpAnyH_ready (rs := [11]) (by kernel_rfl) (by simp) (AllReadyH.cons rfl (fun K hK => ?_) AllReadyH.nil)
        go_simp
        refine hK.out _ _ hT5 (fun hHeld => ?_)
        clear hK K
        clear r0 r1 r2 r3 r4 s0 s1 s2 s3 s4
        refine wpAnyH_ready (rs := [12]) (by kernel_rfl) (by simp) (AllReadyH.cons rfl (fun K hK => ?_) AllReadyH.nil)
        go_simp
        refine hK.out _ _ hT5 (fun hHeld => ?_)
        clear hK K
        refine wpAnyH_ready (rs := [13]) (by kernel_rfl) (by simp) (AllReadyH.cons rfl (fun K hK => ?_) AllReadyH.nil)
        go_simp
        refine hK.out _ _ hT5 (fun hHeld => ?_)
        clear hK K
        refine wpAnyH_done (by kernel_rfl) ?_ _
        go_wp2
        generalize hWz : World.setCell _ ⟨w.heap.size, 4, none⟩ _ = Wz at *
        obtain ⟨⟨e0, e1, e2, e3, e4⟩, _⟩ := fu_cells hE.out
        exact bodyPost_ret (v := .tuple #[fuV i n r l o, .int .i64 m, .int .i64 s]) (by simp [results, Try.results30, go_sem, e0, e1, e2, e3, e4]) rfl ⟨_, _, _, _, _, _, _, rfl, hFS, hm1, hs1, hZ.out⟩
      · skip
        have e1 : IntKind.i64.wrap (x.tdiv 11) = 1 := by rw [Int.tdiv_eq_ediv_of_nonneg x0, hx]; rfl
        have e2 : IntKind.i64.wrap 6 = 6 := by rfl
        have e3 : IntKind.i64.wrap (5 + IntKind.i64.wrap (x.tdiv 11)) = 6 := by rw [e1]; rfl
        refine wpAnyH_take (i := 7) (v := ?_) rfl (by kernel_rfl) (by kernel_rfl) (by kernel_rfl) (fun _ _ _ h => h) (Or.inl ⟨by rfl, ?_⟩) (by assumption) ?_
        rotate_left
        · intro w hSw
          try dsimp only at hSw
          go_simp
          try (with_reducible rfl)
        try simp only [Act.put, List.setIfInBounds_toArray, List.set_cons_zero, List.set_cons_succ]
        refine wpAnyH_take (i := 8) (v := ?_) rfl (by kernel_rfl) (by kernel_rfl) (by kernel_rfl) (fun _ _ _ h => h) (Or.inl ⟨by rfl, ?_⟩) (by assumption) ?_
        rotate_left
        · intro w hSw
          try dsimp only at hSw
          go_simp
          try (with_reducible rfl)
        try simp only [Act.put, List.setIfInBounds_toArray, List.set_cons_zero, List.set_cons_succ]
        refine wpAnyH_ready (rs := [4]) (by kernel_rfl) (by simp) (AllReadyH.cons rfl (fun K hK => ?_) AllReadyH.nil)
        go_simp
        have hlB : wb.heap.size ≠ w.heap.size + 1 := by have := hc.lt; omega
        have hl := HL0.out wb
        have hbl := grow_alloc wb (.cells #[.int .i64 1, .int .i64 20, .int .i64 100, .int .i64 500, .int .i64 10000, .int .i64 0, .int .i64 10001] 3)
        replace hT := hT.below hbl
        replace hR := hR.below hbl
        replace hc := hc.below hbl
        replace hg := grownBy_trans hg (grownBy_of_below (r := some (w.heap.size + 1)) hbl)
        generalize wb.alloc (.cells #[.int .i64 1, .int .i64 20, .int .i64 100, .int .i64 500, .int .i64 10000, .int .i64 0, .int .i64 10001] 3) = Wl at *
        generalize wb.heap.size = bl at *
        clear hbl
        refine hK.out _ _ (fu_cells hT).1 (fun hHeld => ?_)
        clear hK K
        refine wpAnyH_take (i := 9) (v := ?_) rfl (by kernel_rfl) (by kernel_rfl) (by kernel_rfl) (fun _ _ _ h => h) (Or.inl ⟨by rfl, ?_⟩) (by assumption) ?_
        rotate_left
        · intro w hSw
          try dsimp only at hSw
          go_simp
          try (with_reducible rfl)
        try simp only [Act.put, List.setIfInBounds_toArray, List.set_cons_zero, List.set_cons_succ]
        refine wpAnyH_ready (rs := [10]) (by kernel_rfl) (by simp) (AllReadyH.cons rfl (fun K hK => ?_) AllReadyH.nil)
        go_simp
        go_at_call 93
        refine (among_cut _ _ _ 6 7 [1, 20, 100, 500, 10000, 0, 10001] _ rfl hc (by omega) hl hlB (by omega) (by omega)).mono ?_
        rintro e wz ⟨s, hs, rfl, hc', hg'⟩
        have hs1 := small_of (a := 0) (b := 10001) (by decide) hs
        clear hs
        replace hT := hT.kept hg' (by simpa using hTC)
        replace hR := hR.kept hg' (by simp)
        replace hg := grownBy_trans hg hg'
        replace hc := hc'
        clear hc' hg'
        refine hK.out _ _ (fu_cells hT).1 (fun hHeld => ?_)
        clear hK K
        obtain ⟨⟨r0, r1, r2, r3, r4⟩, s0, s1, s2, s3, s4⟩ := fu_cells hR
        have hE := Lib.hid (five_set (i' := i) (n' := n) (r' := r) (l' := l) (o' := o) hR)
        have hZ := Lib.hid (five_below (i := i) (n := n) (r := r) (l := l) (o := o) (fin_below2 hg) (Nat.le_refl w.heap.size))
        have hT5 := (fu_cells (((((hT.other hTR 0 (.int .i64 i)).other hTR 1 (.string n)).other hTR 2 (.int .i64 r)).other hTR 3 (.int .i64 l)).other hTR 4 (.int .i64 o))).1
        refine wpAnyH_ready (rs := [11]) (by kernel_rfl) (by simp) (AllReadyH.cons rfl (fun K hK => ?_) AllReadyH.nil)
        go_simp
        refine hK.out _ _ hT5 (fun hHeld => ?_)
        clear hK K
        clear r0 r1 r2 r3 r4 s0 s1 s2 s3 s4
        refine wpAnyH_ready (rs := [12]) (by kernel_rfl) (by simp) (AllReadyH.cons rfl (fun K hK => ?_) AllReadyH.nil)
        go_simp
        refine hK.out _ _ hT5 (fun hHeld => ?_)
        clear hK K
        refine wpAnyH_ready (rs := [13]) (by kernel_rfl) (by simp) (AllReadyH.cons rfl (fun K hK => ?_) AllReadyH.nil)
        go_simp
        refine hK.out _ _ hT5 (fun hHeld => ?_)
        clear hK K
        refine wpAnyH_done (by kernel_rfl) ?_ _
        go_wp2
        generalize hWz : World.setCell _ ⟨w.heap.size, 4, none⟩ _ = Wz at *
        obtain ⟨⟨e0, e1, e2, e3, e4⟩, _⟩ := fu_cells hE.out
        exact bodyPost_ret (v := .tuple #[fuV i n r l o, .int .i64 m, .int .i64 s]) (by simp [results, Try.results30, go_sem, e0, e1, e2, e3, e4]) rfl ⟨_, _, _, _, _, _, _, rfl, hFS, hm1, hs1, hZ.out⟩
      · skip
        have e1 : IntKind.i64.wrap (x.tdiv 11) = 2 := by rw [Int.tdiv_eq_ediv_of_nonneg x0, hx]; rfl
        have e2 : IntKind.i64.wrap 7 = 7 := by rfl
        have e3 : IntKind.i64.wrap (5 + IntKind.i64.wrap (x.tdiv 11)) = 7 := by rw [e1]; rfl
        refine wpAnyH_take (i := 7) (v := ?_) rfl (by kernel_rfl) (by kernel_rfl) (by kernel_rfl) (fun _ _ _ h => h) (Or.inl ⟨by rfl, ?_⟩) (by assumption) ?_
        rotate_left
        · intro w hSw
          try dsimp only at hSw
          go_simp
          try (with_reducible rfl)
        try simp only [Act.put, List.setIfInBounds_toArray, List.set_cons_zero, List.set_cons_succ]
        refine wpAnyH_take (i := 8) (v := ?_) rfl (by kernel_rfl) (by kernel_rfl) (by kernel_rfl) (fun _ _ _ h => h) (Or.inl ⟨by rfl, ?_⟩) (by assumption) ?_
        rotate_left
        · intro w hSw
          try dsimp only at hSw
          go_simp
          try (with_reducible rfl)
        try simp only [Act.put, List.setIfInBounds_toArray, List.set_cons_zero, List.set_cons_succ]
        refine wpAnyH_ready (rs := [4]) (by kernel_rfl) (by simp) (AllReadyH.cons rfl (fun K hK => ?_) AllReadyH.nil)
        go_simp
        have hlB : wb.heap.size ≠ w.heap.size + 1 := by have := hc.lt; omega
        have hl := HL0.out wb
        have hbl := grow_alloc wb (.cells #[.int .i64 1, .int .i64 20, .int .i64 100, .int .i64 500, .int .i64 10000, .int .i64 0, .int .i64 10001] 3)
        replace hT := hT.below hbl
        replace hR := hR.below hbl
        replace hc := hc.below hbl
        replace hg := grownBy_trans hg (grownBy_of_below (r := some (w.heap.size + 1)) hbl)
        generalize wb.alloc (.cells #[.int .i64 1, .int .i64 20, .int .i64 100, .int .i64 500, .int .i64 10000, .int .i64 0, .int .i64 10001] 3) = Wl at *
        generalize wb.heap.size = bl at *
        clear hbl
        refine hK.out _ _ (fu_cells hT).1 (fun hHeld => ?_)
        clear hK K
        refine wpAnyH_take (i := 9) (v := ?_) rfl (by kernel_rfl) (by kernel_rfl) (by kernel_rfl) (fun _ _ _ h => h) (Or.inl ⟨by rfl, ?_⟩) (by assumption) ?_
        rotate_left
        · intro w hSw
          try dsimp only at hSw
          go_simp
          try (with_reducible rfl)
        try simp only [Act.put, List.setIfInBounds_toArray, List.set_cons_zero, List.set_cons_succ]
        refine wpAnyH_ready (rs := [10]) (by kernel_rfl) (by simp) (AllReadyH.cons rfl (fun K hK => ?_) AllReadyH.nil)
        go_simp
        go_at_call 93
        refine (among_cut _ _ _ 7 7 [1, 20, 100, 500, 10000, 0, 10001] _ rfl hc (by omega) hl hlB (by omega) (by omega)).mono ?_
        rintro e wz ⟨s, hs, rfl, hc', hg'⟩
        have hs1 := small_of (a := 0) (b := 10001) (by decide) hs
        clear hs
        replace hT := hT.kept hg' (by simpa using hTC)
        replace hR := hR.kept hg' (by simp)
        replace hg := grownBy_trans hg hg'
        replace hc := hc'
        clear hc' hg'
        refine hK.out _ _ (fu_cells hT).1 (fun hHeld => ?_)
        clear hK K
        obtain ⟨⟨r0, r1, r2, r3, r4⟩, s0, s1, s2, s3, s4⟩ := fu_cells hR
        have hE := Lib.hid (five_set (i' := i) (n' := n) (r' := r) (l' := l) (o' := o) hR)
        have hZ := Lib.hid (five_below (i := i) (n := n) (r := r) (l := l) (o := o) (fin_below2 hg) (Nat.le_refl w.heap.size))
        have hT5 := (fu_cells (((((hT.other hTR 0 (.int .i64 i)).other hTR 1 (.string n)).other hTR 2 (.int .i64 r)).other hTR 3 (.int .i64 l)).other hTR 4 (.int .i64 o))).1
        refine wpAnyH_ready (rs := [11]) (by kernel_rfl) (by simp) (AllReadyH.cons rfl (fun K hK => ?_) AllReadyH.nil)
        go_simp
        refine hK.out _ _ hT5 (fun hHeld => ?_)
        clear hK K
        clear r0 r1 r2 r3 r4 s0 s1 s2 s3 s4
        refine wpAnyH_ready (rs := [12]) (by kernel_rfl) (by simp) (AllReadyH.cons rfl (fun K hK => ?_) AllReadyH.nil)
        go_simp
        refine hK.out _ _ hT5 (fun hHeld => ?_)
        clear hK K
        refine wpAnyH_ready (rs := [13]) (by kernel_rfl) (by simp) (AllReadyH.cons rfl (fun K hK => ?_) AllReadyH.nil)
        go_simp
        refine hK.out _ _ hT5 (fun hHeld => ?_)
        clear hK K
        refine wpAnyH_done (by kernel_rfl) ?_ _
        go_wp2
        generalize hWz : World.setCell _ ⟨w.heap.size, 4, none⟩ _ = Wz at *
        obtain ⟨⟨e0, e1, e2, e3, e4⟩, _⟩ := fu_cells hE.out
        exact bodyPost_ret (v := .tuple #[fuV i n r l o, .int .i64 m, .int .i64 s]) (by simp [results, Try.results30, go_sem, e0, e1, e2, e3, e4]) rfl ⟨_, _, _, _, _, _, _, rfl, hFS, hm1, hs1, hZ.out⟩
  · skip
    go_simp
    have hlB : Wd.heap.size ≠ w.heap.size + 1 := by have := hc.lt; omega
    have hl := HL0.out Wd
    have hbl := grow_alloc Wd (.cells #[.int .i64 1, .int .i64 20, .int .i64 100, .int .i64 500, .int .i64 10000, .int .i64 0, .int .i64 10001] 3)
    replace hT := hT.below hbl
    replace hR := hR.below hbl
    replace hc := hc.below hbl
    replace hg := grownBy_trans hg (grownBy_of_below (r := some (w.heap.size + 1)) hbl)
    generalize Wd.alloc (.cells #[.int .i64 1, .int .i64 20, .int .i64 100, .int .i64 500, .int .i64 10000, .int .i64 0, .int .i64 10001] 3) = Wl at *
    generalize Wd.heap.size = bl at *
    clear hbl
    refine hK.out _ _ (fu_cells hT).1 (fun hHeld => ?_)
    clear hK K
    refine wpAnyH_ready (rs := [2]) (by kernel_rfl) (by simp) ?_
    refine AllReadyH.cons rfl (fun K hK => ?_) AllReadyH.nil
    · skip
      go_simp
      go_at_call 88
      refine (slope_any _ _ _ hc (by omega)).mono ?_
      rintro e wa ⟨m, hm, rfl, hc', hg'⟩
      have hm1 := small_of (a := -46) (b := 46) (by decide) hm
      clear hm
      replace hT := hT.kept hg' (by simpa using hTC)
      replace hR := hR.kept hg' (by simp)
      replace hl := hl.kept hg' (.inr (by simp [Value.ownBlock]; omega))
      replace hg := grownBy_trans hg hg'
      replace hc := hc'
      clear hc' hg'
      refine hK.out _ _ (fu_cells hT).1 (fun hHeld => ?_)
      clear hK K
      refine wpAnyH_ready (rs := [6]) (by kernel_rfl) (by simp) ?_
      refine AllReadyH.cons rfl (fun K hK => ?_) AllReadyH.nil
      · skip
        go_simp
        go_at_call 94
        refine (pick_u _ _ 24 _ hc (by omega) (by omega)).mono ?_
        rintro e wb ⟨x, rfl, ⟨x0, x1⟩, hc', hg'⟩
        replace hT := hT.kept hg' (by simpa using hTC)
        replace hR := hR.kept hg' (by simp)
        replace hl := hl.kept hg' (.inr (by simp [Value.ownBlock]; omega))
        replace hg := grownBy_trans hg hg'
        replace hc := hc'
        clear hc' hg'
        refine hK.out _ _ (fu_cells hT).1 (fun hHeld => ?_)
        clear hK K
        rcases (show x / 11 = 0 ∨ x / 11 = 1 ∨ x / 11 = 2 by omega) with hx | hx | hx
        · skip
          have e1 : IntKind.i64.wrap (x.tdiv 11) = 0 := by rw [Int.tdiv_eq_ediv_of_nonneg x0, hx]; rfl
          have e2 : IntKind.i64.wrap 5 = 5 := by rfl
          have e3 : IntKind.i64.wrap (5 + IntKind.i64.wrap (x.tdiv 11)) = 5 := by rw [e1]; rfl
          refine wpAnyH_take (i := 7) (v := ?_) rfl (by kernel_rfl) (by kernel_rfl) (by kernel_rfl) (fun _ _ _ h => h) (Or.inl ⟨by rfl, ?_⟩) (by assumption) ?_
          rotate_left
          · intro w hSw
            try dsimp only at hSw
            go_simp
            try (with_reducible rfl)
          try simp only [Act.put, List.setIfInBounds_toArray, List.set_cons_zero, List.set_cons_succ]
          refine wpAnyH_take (i := 8) (v := ?_) rfl (by kernel_rfl) (by kernel_rfl) (by kernel_rfl) (fun _ _ _ h => h) (Or.inl ⟨by rfl, ?_⟩) (by assumption) ?_
          rotate_left
          · intro w hSw
            try dsimp only at hSw
            go_simp
            try (with_reducible rfl)
          try simp only [Act.put, List.setIfInBounds_toArray, List.set_cons_zero, List.set_cons_succ]
          refine wpAnyH_take (i := 9) (v := ?_) rfl (by kernel_rfl) (by kernel_rfl) (by kernel_rfl) (fun _ _ _ h => h) (Or.inl ⟨by rfl, ?_⟩) (by assumption) ?_
          rotate_left
          · intro w hSw
            try dsimp only at hSw
            go_simp
            try (with_reducible rfl)
          try simp only [Act.put, List.setIfInBounds_toArray, List.set_cons_zero, List.set_cons_succ]
          refine wpAnyH_ready (rs := [10]) (by kernel_rfl) (by simp) (AllReadyH.cons rfl (fun K hK => ?_) AllReadyH.nil)
          go_simp
          go_at_call 93
          refine (among_cut _ _ _ 5 7 [1, 20, 100, 500, 10000, 0, 10001] _ rfl hc (by omega) hl hlB (by omega) (by omega)).mono ?_
          rintro e wz ⟨s, hs, rfl, hc', hg'⟩
          have hs1 := small_of (a := 0) (b := 10001) (by decide) hs
          clear hs
          replace hT := hT.kept hg' (by simpa using hTC)
          replace hR := hR.kept hg' (by simp)
          replace hg := grownBy_trans hg hg'
          replace hc := hc'
          clear hc' hg'
          refine hK.out _ _ (fu_cells hT).1 (fun hHeld => ?_)
          clear hK K
          obtain ⟨⟨r0, r1, r2, r3, r4⟩, s0, s1, s2, s3, s4⟩ := fu_cells hR
          have hE := Lib.hid (five_set (i' := i) (n' := n) (r' := r) (l' := l) (o' := o) hR)
          have hZ := Lib.hid (five_below (i := i) (n := n) (r := r) (l := l) (o := o) (fin_below2 hg) (Nat.le_refl w.heap.size))
          have hT5 := (fu_cells (((((hT.other hTR 0 (.int .i64 i)).other hTR 1 (.string n)).other hTR 2 (.int .i64 r)).other hTR 3 (.int .i64 l)).other hTR 4 (.int .i64 o))).1
          refine wpAnyH_ready (rs := [11]) (by kernel_rfl) (by simp) (AllReadyH.cons rfl (fun K hK => ?_) AllReadyH.nil)
          go_simp
          refine hK.out _ _ hT5 (fun hHeld => ?_)
          clear hK K
          clear r0 r1 r2 r3 r4 s0 s1 s2 s3 s4
          refine wpAnyH_ready (rs := [12]) (by kernel_rfl) (by simp) (AllReadyH.cons rfl (fun K hK => ?_) AllReadyH.nil)
          go_simp
          refine hK.out _ _ hT5 (fun hHeld => ?_)
          clear hK K
          refine wpAnyH_ready (rs := [13]) (by kernel_rfl) (by simp) (AllReadyH.cons rfl (fun K hK => ?_) AllReadyH.nil)
          go_simp
          refine hK.out _ _ hT5 (fun hHeld => ?_)
          clear hK K
          refine wpAnyH_done (by kernel_rfl) ?_ _
          go_wp2
          generalize hWz : World.setCell _ ⟨w.heap.size, 4, none⟩ _ = Wz at *
          obtain ⟨⟨e0, e1, e2, e3, e4⟩, _⟩ := fu_cells hE.out
          exact bodyPost_ret (v := .tuple #[fuV i n r l o, .int .i64 m, .int .i64 s]) (by simp [results, Try.results30, go_sem, e0, e1, e2, e3, e4]) rfl ⟨_, _, _, _, _, _, _, rfl, hFS, hm1, hs1, hZ.out⟩
        · skip
          have e1 : IntKind.i64.wrap (x.tdiv 11) = 1 := by rw [Int.tdiv_eq_ediv_of_nonneg x0, hx]; rfl
          have e2 : IntKind.i64.wrap 6 = 6 := by rfl
          have e3 : IntKind.i64.wrap (5 + IntKind.i64.wrap (x.tdiv 11)) = 6 := by rw [e1]; rfl
          refine wpAnyH_take (i := 7) (v := ?_) rfl (by kernel_rfl) (by kernel_rfl) (by kernel_rfl) (fun _ _ _ h => h) (Or.inl ⟨by rfl, ?_⟩) (by assumption) ?_
          rotate_left
          · intro w hSw
            try dsimp only at hSw
            go_simp
            try (with_reducible rfl)
          try simp only [Act.put, List.setIfInBounds_toArray, List.set_cons_zero, List.set_cons_succ]
          refine wpAnyH_take (i := 8) (v := ?_) rfl (by kernel_rfl) (by kernel_rfl) (by kernel_rfl) (fun _ _ _ h => h) (Or.inl ⟨by rfl, ?_⟩) (by assumption) ?_
          rotate_left
          · intro w hSw
            try dsimp only at hSw
            go_simp
            try (with_reducible rfl)
          try simp only [Act.put, List.setIfInBounds_toArray, List.set_cons_zero, List.set_cons_succ]
          refine wpAnyH_take (i := 9) (v := ?_) rfl (by kernel_rfl) (by kernel_rfl) (by kernel_rfl) (fun _ _ _ h => h) (Or.inl ⟨by rfl, ?_⟩) (by assumption) ?_
          rotate_left
          · intro w hSw
            try dsimp only at hSw
            go_simp
            try (with_reducible rfl)
          try simp only [Act.put, List.setIfInBounds_toArray, List.set_cons_zero, List.set_cons_succ]
          refine wpAnyH_ready (rs := [10]) (by kernel_rfl) (by simp) (AllReadyH.cons rfl (fun K hK => ?_) AllReadyH.nil)
          go_simp
          go_at_call 93
          refine (among_cut _ _ _ 6 7 [1, 20, 100, 500, 10000, 0, 10001] _ rfl hc (by omega) hl hlB (by omega) (by omega)).mono ?_
          rintro e wz ⟨s, hs, rfl, hc', hg'⟩
          have hs1 := small_of (a := 0) (b := 10001) (by decide) hs
          clear hs
          replace hT := hT.kept hg' (by simpa using hTC)
          replace hR := hR.kept hg' (by simp)
          replace hg := grownBy_trans hg hg'
          replace hc := hc'
          clear hc' hg'
          refine hK.out _ _ (fu_cells hT).1 (fun hHeld => ?_)
          clear hK K
          obtain ⟨⟨r0, r1, r2, r3, r4⟩, s0, s1, s2, s3, s4⟩ := fu_cells hR
          have hE := Lib.hid (five_set (i' := i) (n' := n) (r' := r) (l' := l) (o' := o) hR)
          have hZ := Lib.hid (five_below (i := i) (n := n) (r := r) (l := l) (o := o) (fin_below2 hg) (Nat.le_refl w.heap.size))
          have hT5 := (fu_cells (((((hT.other hTR 0 (.int .i64 i)).other hTR 1 (.string n)).other hTR 2 (.int .i64 r)).other hTR 3 (.int .i64 l)).other hTR 4 (.int .i64 o))).1
          refine wpAnyH_ready (rs := [11]) (by kernel_rfl) (by simp) (AllReadyH.cons rfl (fun K hK => ?_) AllReadyH.nil)
          go_simp
          refine hK.out _ _ hT5 (fun hHeld => ?_)
          clear hK K
          clear r0 r1 r2 r3 r4 s0 s1 s2 s3 s4
          refine wpAnyH_ready (rs := [12]) (by kernel_rfl) (by simp) (AllReadyH.cons rfl (fun K hK => ?_) AllReadyH.nil)
          go_simp
          refine hK.out _ _ hT5 (fun hHeld => ?_)
          clear hK K
          refine wpAnyH_ready (rs := [13]) (by kernel_rfl) (by simp) (AllReadyH.cons rfl (fun K hK => ?_) AllReadyH.nil)
          go_simp
          refine hK.out _ _ hT5 (fun hHeld => ?_)
          clear hK K
          refine wpAnyH_done (by kernel_rfl) ?_ _
          go_wp2
          generalize hWz : World.setCell _ ⟨w.heap.size, 4, none⟩ _ = Wz at *
          obtain ⟨⟨e0, e1, e2, e3, e4⟩, _⟩ := fu_cells hE.out
          exact bodyPost_ret (v := .tuple #[fuV i n r l o, .int .i64 m, .int .i64 s]) (by simp [results, Try.results30, go_sem, e0, e1, e2, e3, e4]) rfl ⟨_, _, _, _, _, _, _, rfl, hFS, hm1, hs1, hZ.out⟩
        · skip
          have e1 : IntKind.i64.wrap (x.tdiv 11) = 2 := by rw [Int.tdiv_eq_ediv_of_nonneg x0, hx]; rfl
          have e2 : IntKind.i64.wrap 7 = 7 := by rfl
          have e3 : IntKind.i64.wrap (5 + IntKind.i64.wrap (x.tdiv 11)) = 7 := by rw [e1]; rfl
          refine wpAnyH_take (i := 7) (v := ?_) rfl (by kernel_rfl) (by kernel_rfl) (by kernel_rfl) (fun _ _ _ h => h) (Or.inl ⟨by rfl, ?_⟩) (by assumption) ?_
          rotate_left
          · intro w hSw
            try dsimp only at hSw
            go_simp
            try (with_reducible rfl)
          try simp only [Act.put, List.setIfInBounds_toArray, List.set_cons_zero, List.set_cons_succ]
          refine wpAnyH_take (i := 8) (v := ?_) rfl (by kernel_rfl) (by kernel_rfl) (by kernel_rfl) (fun _ _ _ h => h) (Or.inl ⟨by rfl, ?_⟩) (by assumption) ?_
          rotate_left
          · intro w hSw
            try dsimp only at hSw
            go_simp
            try (with_reducible rfl)
          try simp only [Act.put, List.setIfInBounds_toArray, List.set_cons_zero, List.set_cons_succ]
          refine wpAnyH_take (i := 9) (v := ?_) rfl (by kernel_rfl) (by kernel_rfl) (by kernel_rfl) (fun _ _ _ h => h) (Or.inl ⟨by rfl, ?_⟩) (by assumption) ?_
          rotate_left
          · intro w hSw
            try dsimp only at hSw
            go_simp
            try (with_reducible rfl)
          try simp only [Act.put, List.setIfInBounds_toArray, List.set_cons_zero, List.set_cons_succ]
          refine wpAnyH_ready (rs := [10]) (by kernel_rfl) (by simp) (AllReadyH.cons rfl (fun K hK => ?_) AllReadyH.nil)
          go_simp
          go_at_call 93
          refine (among_cut _ _ _ 7 7 [1, 20, 100, 500, 10000, 0, 10001] _ rfl hc (by omega) hl hlB (by omega) (by omega)).mono ?_
          rintro e wz ⟨s, hs, rfl, hc', hg'⟩
          have hs1 := small_of (a := 0) (b := 10001) (by decide) hs
          clear hs
          replace hT := hT.kept hg' (by simpa using hTC)
          replace hR := hR.kept hg' (by simp)
          replace hg := grownBy_trans hg hg'
          replace hc := hc'
          clear hc' hg'
          refine hK.out _ _ (fu_cells hT).1 (fun hHeld => ?_)
          clear hK K
          obtain ⟨⟨r0, r1, r2, r3, r4⟩, s0, s1, s2, s3, s4⟩ := fu_cells hR
          have hE := Lib.hid (five_set (i' := i) (n' := n) (r' := r) (l' := l) (o' := o) hR)
          have hZ := Lib.hid (five_below (i := i) (n := n) (r := r) (l := l) (o := o) (fin_below2 hg) (Nat.le_refl w.heap.size))
          have hT5 := (fu_cells (((((hT.other hTR 0 (.int .i64 i)).other hTR 1 (.string n)).other hTR 2 (.int .i64 r)).other hTR 3 (.int .i64 l)).other hTR 4 (.int .i64 o))).1
          refine wpAnyH_ready (rs := [11]) (by kernel_rfl) (by simp) (AllReadyH.cons rfl (fun K hK => ?_) AllReadyH.nil)
          go_simp
          refine hK.out _ _ hT5 (fun hHeld => ?_)
          clear hK K
          clear r0 r1 r2 r3 r4 s0 s1 s2 s3 s4
          refine wpAnyH_ready (rs := [12]) (by kernel_rfl) (by simp) (AllReadyH.cons rfl (fun K hK => ?_) AllReadyH.nil)
          go_simp
          refine hK.out _ _ hT5 (fun hHeld => ?_)
          clear hK K
          refine wpAnyH_ready (rs := [13]) (by kernel_rfl) (by simp) (AllReadyH.cons rfl (fun K hK => ?_) AllReadyH.nil)
          go_simp
          refine hK.out _ _ hT5 (fun hHeld => ?_)
          clear hK K
          refine wpAnyH_done (by kernel_rfl) ?_ _
          go_wp2
          generalize hWz : World.setCell _ ⟨w.heap.size, 4, none⟩ _ = Wz at *
          obtain ⟨⟨e0, e1, e2, e3, e4⟩, _⟩ := fu_cells hE.out
          exact bodyPost_ret (v := .tuple #[fuV i n r l o, .int .i64 m, .int .i64 s]) (by simp [results, Try.results30, go_sem, e0, e1, e2, e3, e4]) rfl ⟨_, _, _, _, _, _, _, rfl, hFS, hm1, hs1, hZ.out⟩
set_option maxHeartbeats 8000000 in
theorem DrawHeatOf_any (V : Value) (zs : List Int) (w : World) (h1 : Sl w 1 V zs.length (octs zs)) (h2 : ∀ z ∈ zs, 0 ≤ z ∧ z ≤ 255) :
    Calls Try.prog 33 #[V] w fun e w' => ∃ i n r l o m, e = .returned (.tuple #[fuV i n r l o, .int .i64 m]) ∧ FuS i n r l o ∧ (-1 ≤ m ∧ m ≤ 10001) ∧ Below w.heap.size w w' := by
  obtain ⟨A, cc, rfl⟩ := h1.val
  have hC0 : Cur ((w.alloc (.cells #[.int .i64 0, .string (⟨#[]⟩ : ByteArray), .int .i64 0, .int .i64 0, .int .i64 0] 39)).alloc (.cells #[.slice A zs.length cc, .int .i64 0, .int .u64 0] 107)) (w.heap.size + 1) 0 := by
    have := Cur.new (h1.below (grow_alloc w (.cells #[.int .i64 0, .string (⟨#[]⟩ : ByteArray), .int .i64 0, .int .i64 0, .int .i64 0] 39))) h2
    rwa [World.size_alloc] at this
  have hR0 := Lib.hid ((Bx.new w (fuC 0 ⟨#[]⟩ 0 0 0) 39).below (grow_alloc _ (.cells #[.slice A zs.length cc, .int .i64 0, .int .u64 0] 107)))
  have hF := Lib.hid (fuel_any _ _ _ hC0 (by omega))
  clear hC0
  go_enter Try.func33, Try.ntmps33
  go_wp2_with fail
  refine hF.out.mono ?_
  rintro e w1 ⟨i, n, r, l, o, rfl, hFS, hc, hg⟩
  have hR := Lib.hid (hR0.out.kept hg (by simp))
  replace hc := Lib.hid hc
  replace hg := Lib.hid hg
  clear hF hR0
  have hlt1 := hc.out.lt
  have hb1 := grow_alloc w1 (.cells #[.int .i64 i, .string n, .int .i64 r, .int .i64 l, .int .i64 o] 39)
  have hT : Bx (w1.alloc (.cells #[.int .i64 i, .string n, .int .i64 r, .int .i64 l, .int .i64 o] 39)) 39 w1.heap.size (fuC i n r l o) := Bx.new w1 (fuC i n r l o) 39
  replace hR := hR.out.below hb1
  replace hc := hc.out.below hb1
  replace hg := grownBy_trans hg.out (grownBy_of_below (r := some (w.heap.size + 1)) hb1)
  have hTC : w1.heap.size ≠ w.heap.size + 1 := by omega
  have hsz1 : w.heap.size + 1 < w1.heap.size := hlt1
  replace hR := Lib.hid hR
  replace hc := Lib.hid hc
  replace hg := Lib.hid hg
  replace hT := Lib.hid hT
  clear hb1
  go_wp2_with fail
  replace hR := hR.out
  replace hc := hc.out
  replace hg := hg.out
  replace hT := hT.out
  generalize hW : w1.alloc (.cells #[.int .i64 i, .string n, .int .i64 r, .int .i64 l, .int .i64 o] 39) = W1 at *
  generalize hB5 : w1.heap.size = T at *
  clear hB5 hW
  have hTR : T ≠ w.heap.size := by omega
  have HL0 := fun (W : World) => lit_sl W ((([0, 1, 33, 500, 10000, -1, 10001] : List Int)).map (Value.int .i64)) 3 (by simp)
  simp only [List.map_cons, List.map_nil, List.length_cons, List.length_nil, Nat.reduceAdd] at HL0
  replace HL0 := Lib.hid HL0
  refine wp_region_held_drew (S := (fun W => (W.cell? ⟨T, 0, none⟩ = some (.int .i64 i) ∧ W.cell? ⟨T, 1, none⟩ = some (.string n) ∧ W.cell? ⟨T, 2, none⟩ = some (.int .i64 r) ∧ W.cell? ⟨T, 3, none⟩ = some (.int .i64 l) ∧ W.cell? ⟨T, 4, none⟩ = some (.int .i64 o)))) (by kernel_rfl) ((fu_cells (hT.below (grow_drew _))).1) (fun hHeld => ?_)
  replace hR := hR.below (grow_drew _)
  replace hc := hc.below (grow_drew _)
  replace hg := grownBy_trans hg (grownBy_of_below (r := some (w.heap.size + 1)) (grow_drew _))
  replace hT := hT.below (grow_drew _)
  generalize W1.drew = Wd at *
  refine wpAnyH_take (i := 0) (v := ?_) rfl (by kernel_rfl) (by kernel_rfl) (by kernel_rfl) (fun _ _ _ h => h) (Or.inl ⟨by rfl, ?_⟩) (by assumption) ?_
  rotate_left
  · intro w hSw
    try dsimp only at hSw
    go_simp
    try (with_reducible rfl)
  try simp only [Act.put, List.setIfInBounds_toArray, List.set_cons_zero, List.set_cons_succ]
  refine wpAnyH_take (i := 1) (v := ?_) rfl (by kernel_rfl) (by kernel_rfl) (by kernel_rfl) (fun _ _ _ h => h) (Or.inl ⟨by rfl, ?_⟩) (by assumption) ?_
  rotate_left
  · intro w hSw
    try dsimp only at hSw
    go_simp
    try (with_reducible rfl)
  try simp only [Act.put, List.setIfInBounds_toArray, List.set_cons_zero, List.set_cons_succ]
  refine wpAnyH_take (i := 3) (v := ?_) rfl (by kernel_rfl) (by kernel_rfl) (by kernel_rfl) (fun _ _ _ h => h) (Or.inl ⟨by rfl, ?_⟩) (by assumption) ?_
  rotate_left
  · intro w hSw
    try dsimp only at hSw
    go_simp
    try (with_reducible rfl)
  try simp only [Act.put, List.setIfInBounds_toArray, List.set_cons_zero, List.set_cons_succ]
  refine wpAnyH_ready (rs := [2, 4]) (by kernel_rfl) (by simp) ?_
  refine AllReadyH.cons rfl (fun K hK => ?_) (AllReadyH.cons rfl (fun K hK => ?_) AllReadyH.nil)
  · skip
    go_simp
    have hlB : Wd.heap.size ≠ w.heap.size + 1 := by have := hc.lt; omega
    have hl := HL0.out Wd
    have hbl := grow_alloc Wd (.cells #[.int .i64 0, .int .i64 1, .int .i64 33, .int .i64 500, .int .i64 10000, .int .i64 ( -1), .int .i64 10001] 3)
    replace hT := hT.below hbl
    replace hR := hR.below hbl
    replace hc := hc.below hbl
    replace hg := grownBy_trans hg (grownBy_of_below (r := some (w.heap.size + 1)) hbl)
    generalize Wd.alloc (.cells #[.int .i64 0, .int .i64 1, .int .i64 33, .int .i64 500, .int .i64 10000, .int .i64 ( -1), .int .i64 10001] 3) = Wl at *
    generalize Wd.heap.size = bl at *
    clear hbl
    refine hK.out _ _ (fu_cells hT).1 (fun hHeld => ?_)
    clear hK K
    refine wpAnyH_ready (rs := [4]) (by kernel_rfl) (by simp) ?_
    refine AllReadyH.cons rfl (fun K hK => ?_) AllReadyH.nil
    · skip
      go_simp
      go_at_call 94
      refine (pick_u _ _ 24 _ hc (by omega) (by omega)).mono ?_
      rintro e wb ⟨x, rfl, ⟨x0, x1⟩, hc', hg'⟩
      replace hT := hT.kept hg' (by simpa using hTC)
      replace hR := hR.kept hg' (by simp)
      replace hl := hl.kept hg' (.inr (by simp [Value.ownBlock]; omega))
      replace hg := grownBy_trans hg hg'
      replace hc := hc'
      clear hc' hg'
      refine hK.out _ _ (fu_cells hT).1 (fun hHeld => ?_)
      clear hK K
      rcases (show x / 11 = 0 ∨ x / 11 = 1 ∨ x / 11 = 2 by omega) with hx | hx | hx
      · skip
        have e1 : IntKind.i64.wrap (x.tdiv 11) = 0 := by rw [Int.tdiv_eq_ediv_of_nonneg x0, hx]; rfl
        have e2 : IntKind.i64.wrap 5 = 5 := by rfl
        have e3 : IntKind.i64.wrap (5 + IntKind.i64.wrap (x.tdiv 11)) = 5 := by rw [e1]; rfl
        refine wpAnyH_take (i := 5) (v := ?_) rfl (by kernel_rfl) (by kernel_rfl) (by kernel_rfl) (fun _ _ _ h => h) (Or.inl ⟨by rfl, ?_⟩) (by assumption) ?_
        rotate_left
        · intro w hSw
          try dsimp only at hSw
          go_simp
          try (with_reducible rfl)
        try simp only [Act.put, List.setIfInBounds_toArray, List.set_cons_zero, List.set_cons_succ]
        refine wpAnyH_take (i := 6) (v := ?_) rfl (by kernel_rfl) (by kernel_rfl) (by kernel_rfl) (fun _ _ _ h => h) (Or.inl ⟨by rfl, ?_⟩) (by assumption) ?_
        rotate_left
        · intro w hSw
          try dsimp only at hSw
          go_simp
          try (with_reducible rfl)
        try simp only [Act.put, List.setIfInBounds_toArray, List.set_cons_zero, List.set_cons_succ]
        refine wpAnyH_take (i := 7) (v := ?_) rfl (by kernel_rfl) (by kernel_rfl) (by kernel_rfl) (fun _ _ _ h => h) (Or.inl ⟨by rfl, ?_⟩) (by assumption) ?_
        rotate_left
        · intro w hSw
          try dsimp only at hSw
          go_simp
          try (with_reducible rfl)
        try simp only [Act.put, List.setIfInBounds_toArray, List.set_cons_zero, List.set_cons_succ]
        refine wpAnyH_ready (rs := [8]) (by kernel_rfl) (by simp) (AllReadyH.cons rfl (fun K hK => ?_) AllReadyH.nil)
        go_simp
        go_at_call 93
        refine (among_cut _ _ _ 5 7 [0, 1, 33, 500, 10000, -1, 10001] _ rfl hc (by omega) hl hlB (by omega) (by omega)).mono ?_
        rintro e wz ⟨m, hs, rfl, hc', hg'⟩
        have hs1 := small_of (a := -1) (b := 10001) (by decide) hs
        clear hs
        replace hT := hT.kept hg' (by simpa using hTC)
        replace hR := hR.kept hg' (by simp)
        replace hg := grownBy_trans hg hg'
        replace hc := hc'
        clear hc' hg'
        refine hK.out _ _ (fu_cells hT).1 (fun hHeld => ?_)
        clear hK K
        obtain ⟨⟨r0, r1, r2, r3, r4⟩, s0, s1, s2, s3, s4⟩ := fu_cells hR
        have hE := Lib.hid (five_set (i' := i) (n' := n) (r' := r) (l' := l) (o' := o) hR)
        have hZ := Lib.hid (five_below (i := i) (n := n) (r := r) (l := l) (o := o) (fin_below2 hg) (Nat.le_refl w.heap.size))
        have hT5 := (fu_cells (((((hT.other hTR 0 (.int .i64 i)).other hTR 1 (.string n)).other hTR 2 (.int .i64 r)).other hTR 3 (.int .i64 l)).other hTR 4 (.int .i64 o))).1
        refine wpAnyH_ready (rs := [9]) (by kernel_rfl) (by simp) (AllReadyH.cons rfl (fun K hK => ?_) AllReadyH.nil)
        go_simp
        refine hK.out _ _ hT5 (fun hHeld => ?_)
        clear hK K
        clear r0 r1 r2 r3 r4 s0 s1 s2 s3 s4
        refine wpAnyH_ready (rs := [10]) (by kernel_rfl) (by simp) (AllReadyH.cons rfl (fun K hK => ?_) AllReadyH.nil)
        go_simp
        refine hK.out _ _ hT5 (fun hHeld => ?_)
        clear hK K
        refine wpAnyH_done (by kernel_rfl) ?_ _
        go_wp2
        generalize hWz : World.setCell _ ⟨w.heap.size, 4, none⟩ _ = Wz at *
        obtain ⟨⟨e0, e1, e2, e3, e4⟩, _⟩ := fu_cells hE.out
        exact bodyPost_ret (v := .tuple #[fuV i n r l o, .int .i64 m]) (by simp [results, Try.results33, go_sem, e0, e1, e2, e3, e4]) rfl ⟨_, _, _, _, _, _, rfl, hFS, hs1, hZ.out⟩
      · skip
        have e1 : IntKind.i64.wrap (x.tdiv 11) = 1 := by rw [Int.tdiv_eq_ediv_of_nonneg x0, hx]; rfl
        have e2 : IntKind.i64.wrap 6 = 6 := by rfl
        have e3 : IntKind.i64.wrap (5 + IntKind.i64.wrap (x.tdiv 11)) = 6 := by rw [e1]; rfl
        refine wpAnyH_take (i := 5) (v := ?_) rfl (by kernel_rfl) (by kernel_rfl) (by kernel_rfl) (fun _ _ _ h => h) (Or.inl ⟨by rfl, ?_⟩) (by assumption) ?_
        rotate_left
        · intro w hSw
          try dsimp only at hSw
          go_simp
          try (with_reducible rfl)
        try simp only [Act.put, List.setIfInBounds_toArray, List.set_cons_zero, List.set_cons_succ]
        refine wpAnyH_take (i := 6) (v := ?_) rfl (by kernel_rfl) (by kernel_rfl) (by kernel_rfl) (fun _ _ _ h => h) (Or.inl ⟨by rfl, ?_⟩) (by assumption) ?_
        rotate_left
        · intro w hSw
          try dsimp only at hSw
          go_simp
          try (with_reducible rfl)
        try simp only [Act.put, List.setIfInBounds_toArray, List.set_cons_zero, List.set_cons_succ]
        refine wpAnyH_take (i := 7) (v := ?_) rfl (by kernel_rfl) (by kernel_rfl) (by kernel_rfl) (fun _ _ _ h => h) (Or.inl ⟨by rfl, ?_⟩) (by assumption) ?_
        rotate_left
        · intro w hSw
          try dsimp only at hSw
          go_simp
          try (with_reducible rfl)
        try simp only [Act.put, List.setIfInBounds_toArray, List.set_cons_zero, List.set_cons_succ]
        refine wpAnyH_ready (rs := [8]) (by kernel_rfl) (by simp) (AllReadyH.cons rfl (fun K hK => ?_) AllReadyH.nil)
        go_simp
        go_at_call 93
        refine (among_cut _ _ _ 6 7 [0, 1, 33, 500, 10000, -1, 10001] _ rfl hc (by omega) hl hlB (by omega) (by omega)).mono ?_
        rintro e wz ⟨m, hs, rfl, hc', hg'⟩
        have hs1 := small_of (a := -1) (b := 10001) (by decide) hs
        clear hs
        replace hT := hT.kept hg' (by simpa using hTC)
        replace hR := hR.kept hg' (by simp)
        replace hg := grownBy_trans hg hg'
        replace hc := hc'
        clear hc' hg'
        refine hK.out _ _ (fu_cells hT).1 (fun hHeld => ?_)
        clear hK K
        obtain ⟨⟨r0, r1, r2, r3, r4⟩, s0, s1, s2, s3, s4⟩ := fu_cells hR
        have hE := Lib.hid (five_set (i' := i) (n' := n) (r' := r) (l' := l) (o' := o) hR)
        have hZ := Lib.hid (five_below (i := i) (n := n) (r := r) (l := l) (o := o) (fin_below2 hg) (Nat.le_refl w.heap.size))
        have hT5 := (fu_cells (((((hT.other hTR 0 (.int .i64 i)).other hTR 1 (.string n)).other hTR 2 (.int .i64 r)).other hTR 3 (.int .i64 l)).other hTR 4 (.int .i64 o))).1
        refine wpAnyH_ready (rs := [9]) (by kernel_rfl) (by simp) (AllReadyH.cons rfl (fun K hK => ?_) AllReadyH.nil)
        go_simp
        refine hK.out _ _ hT5 (fun hHeld => ?_)
        clear hK K
        clear r0 r1 r2 r3 r4 s0 s1 s2 s3 s4
        refine wpAnyH_ready (rs := [10]) (by kernel_rfl) (by simp) (AllReadyH.cons rfl (fun K hK => ?_) AllReadyH.nil)
        go_simp
        refine hK.out _ _ hT5 (fun hHeld => ?_)
        clear hK K
        refine wpAnyH_done (by kernel_rfl) ?_ _
        go_wp2
        generalize hWz : World.setCell _ ⟨w.heap.size, 4, none⟩ _ = Wz at *
        obtain ⟨⟨e0, e1, e2, e3, e4⟩, _⟩ := fu_cells hE.out
        exact bodyPost_ret (v := .tuple #[fuV i n r l o, .int .i64 m]) (by simp [results, Try.results33, go_sem, e0, e1, e2, e3, e4]) rfl ⟨_, _, _, _, _, _, rfl, hFS, hs1, hZ.out⟩
      · skip
        have e1 : IntKind.i64.wrap (x.tdiv 11) = 2 := by rw [Int.tdiv_eq_ediv_of_nonneg x0, hx]; rfl
        have e2 : IntKind.i64.wrap 7 = 7 := by rfl
        have e3 : IntKind.i64.wrap (5 + IntKind.i64.wrap (x.tdiv 11)) = 7 := by rw [e1]; rfl
        refine wpAnyH_take (i := 5) (v := ?_) rfl (by kernel_rfl) (by kernel_rfl) (by kernel_rfl) (fun _ _ _ h => h) (Or.inl ⟨by rfl, ?_⟩) (by assumption) ?_
        rotate_left
        · intro w hSw
          try dsimp only at hSw
          go_simp
          try (with_reducible rfl)
        try simp only [Act.put, List.setIfInBounds_toArray, List.set_cons_zero, List.set_cons_succ]
        refine wpAnyH_take (i := 6) (v := ?_) rfl (by kernel_rfl) (by kernel_rfl) (by kernel_rfl) (fun _ _ _ h => h) (Or.inl ⟨by rfl, ?_⟩) (by assumption) ?_
        rotate_left
        · intro w hSw
          try dsimp only at hSw
          go_simp
          try (with_reducible rfl)
        try simp only [Act.put, List.setIfInBounds_toArray, List.set_cons_zero, List.set_cons_succ]
        refine wpAnyH_take (i := 7) (v := ?_) rfl (by kernel_rfl) (by kernel_rfl) (by kernel_rfl) (fun _ _ _ h => h) (Or.inl ⟨by rfl, ?_⟩) (by assumption) ?_
        rotate_left
        · intro w hSw
          try dsimp only at hSw
          go_simp
          try (with_reducible rfl)
        try simp only [Act.put, List.setIfInBounds_toArray, List.set_cons_zero, List.set_cons_succ]
        refine wpAnyH_ready (rs := [8]) (by kernel_rfl) (by simp) (AllReadyH.cons rfl (fun K hK => ?_) AllReadyH.nil)
        go_simp
        go_at_call 93
        refine (among_cut _ _ _ 7 7 [0, 1, 33, 500, 10000, -1, 10001] _ rfl hc (by omega) hl hlB (by omega) (by omega)).mono ?_
        rintro e wz ⟨m, hs, rfl, hc', hg'⟩
        have hs1 := small_of (a := -1) (b := 10001) (by decide) hs
        clear hs
        replace hT := hT.kept hg' (by simpa using hTC)
        replace hR := hR.kept hg' (by simp)
        replace hg := grownBy_trans hg hg'
        replace hc := hc'
        clear hc' hg'
        refine hK.out _ _ (fu_cells hT).1 (fun hHeld => ?_)
        clear hK K
        obtain ⟨⟨r0, r1, r2, r3, r4⟩, s0, s1, s2, s3, s4⟩ := fu_cells hR
        have hE := Lib.hid (five_set (i' := i) (n' := n) (r' := r) (l' := l) (o' := o) hR)
        have hZ := Lib.hid (five_below (i := i) (n := n) (r := r) (l := l) (o := o) (fin_below2 hg) (Nat.le_refl w.heap.size))
        have hT5 := (fu_cells (((((hT.other hTR 0 (.int .i64 i)).other hTR 1 (.string n)).other hTR 2 (.int .i64 r)).other hTR 3 (.int .i64 l)).other hTR 4 (.int .i64 o))).1
        refine wpAnyH_ready (rs := [9]) (by kernel_rfl) (by simp) (AllReadyH.cons rfl (fun K hK => ?_) AllReadyH.nil)
        go_simp
        refine hK.out _ _ hT5 (fun hHeld => ?_)
        clear hK K
        clear r0 r1 r2 r3 r4 s0 s1 s2 s3 s4
        refine wpAnyH_ready (rs := [10]) (by kernel_rfl) (by simp) (AllReadyH.cons rfl (fun K hK => ?_) AllReadyH.nil)
        go_simp
        refine hK.out _ _ hT5 (fun hHeld => ?_)
        clear hK K
        refine wpAnyH_done (by kernel_rfl) ?_ _
        go_wp2
        generalize hWz : World.setCell _ ⟨w.heap.size, 4, none⟩ _ = Wz at *
        obtain ⟨⟨e0, e1, e2, e3, e4⟩, _⟩ := fu_cells hE.out
        exact bodyPost_ret (v := .tuple #[fuV i n r l o, .int .i64 m]) (by simp [results, Try.results33, go_sem, e0, e1, e2, e3, e4]) rfl ⟨_, _, _, _, _, _, rfl, hFS, hs1, hZ.out⟩
  · skip
    go_simp
    go_at_call 94
    refine (pick_u _ _ 24 _ hc (by omega) (by omega)).mono ?_
    rintro e wb ⟨x, rfl, ⟨x0, x1⟩, hc', hg'⟩
    replace hT := hT.kept hg' (by simpa using hTC)
    replace hR := hR.kept hg' (by simp)
    replace hg := grownBy_trans hg hg'
    replace hc := hc'
    clear hc' hg'
    refine hK.out _ _ (fu_cells hT).1 (fun hHeld => ?_)
    clear hK K
    rcases (show x / 11 = 0 ∨ x / 11 = 1 ∨ x / 11 = 2 by omega) with hx | hx | hx
    · skip
      have e1 : IntKind.i64.wrap (x.tdiv 11) = 0 := by rw [Int.tdiv_eq_ediv_of_nonneg x0, hx]; rfl
      have e2 : IntKind.i64.wrap 5 = 5 := by rfl
      have e3 : IntKind.i64.wrap (5 + IntKind.i64.wrap (x.tdiv 11)) = 5 := by rw [e1]; rfl
      refine wpAnyH_take (i := 5) (v := ?_) rfl (by kernel_rfl) (by kernel_rfl) (by kernel_rfl) (fun _ _ _ h => h) (Or.inl ⟨by rfl, ?_⟩) (by assumption) ?_
      rotate_left
      · intro w hSw
        try dsimp only at hSw
        go_simp
        try (with_reducible rfl)
      try simp only [Act.put, List.setIfInBounds_toArray, List.set_cons_zero, List.set_cons_succ]
      refine wpAnyH_take (i := 6) (v := ?_) rfl (by kernel_rfl) (by kernel_rfl) (by kernel_rfl) (fun _ _ _ h => h) (Or.inl ⟨by rfl, ?_⟩) (by assumption) ?_
      rotate_left
      · intro w hSw
        try dsimp only at hSw
        go_simp
        try (with_reducible rfl)
      try simp only [Act.put, List.setIfInBounds_toArray, List.set_cons_zero, List.set_cons_succ]
      refine wpAnyH_ready (rs := [2]) (by kernel_rfl) (by simp) (AllReadyH.cons rfl (fun K hK => ?_) AllReadyH.nil)
      go_simp
      have hlB : wb.heap.size ≠ w.heap.size + 1 := by have := hc.lt; omega
      have hl := HL0.out wb
      have hbl := grow_alloc wb (.cells #[.int .i64 0, .int .i64 1, .int .i64 33, .int .i64 500, .int .i64 10000, .int .i64 ( -1), .int .i64 10001] 3)
      replace hT := hT.below hbl
      replace hR := hR.below hbl
      replace hc := hc.below hbl
      replace hg := grownBy_trans hg (grownBy_of_below (r := some (w.heap.size + 1)) hbl)
      generalize wb.alloc (.cells #[.int .i64 0, .int .i64 1, .int .i64 33, .int .i64 500, .int .i64 10000, .int .i64 ( -1), .int .i64 10001] 3) = Wl at *
      generalize wb.heap.size = bl at *
      clear hbl
      refine hK.out _ _ (fu_cells hT).1 (fun hHeld => ?_)
      clear hK K
      refine wpAnyH_take (i := 7) (v := ?_) rfl (by kernel_rfl) (by kernel_rfl) (by kernel_rfl) (fun _ _ _ h => h) (Or.inl ⟨by rfl, ?_⟩) (by assumption) ?_
      rotate_left
      · intro w hSw
        try dsimp only at hSw
        go_simp
        try (with_reducible rfl)
      try simp only [Act.put, List.setIfInBounds_toArray, List.set_cons_zero, List.set_cons_succ]
      refine wpAnyH_ready (rs := [8]) (by kernel_rfl) (by simp) (AllReadyH.cons rfl (fun K hK => ?_) AllReadyH.nil)
      go_simp
      go_at_call 93
      refine (among_cut _ _ _ 5 7 [0, 1, 33, 500, 10000, -1, 10001] _ rfl hc (by omega) hl hlB (by omega) (by omega)).mono ?_
      rintro e wz ⟨m, hs, rfl, hc', hg'⟩
      have hs1 := small_of (a := -1) (b := 10001) (by decide) hs
      clear hs
      replace hT := hT.kept hg' (by simpa using hTC)
      replace hR := hR.kept hg' (by simp)
      replace hg := grownBy_trans hg hg'
      replace hc := hc'
      clear hc' hg'
      refine hK.out _ _ (fu_cells hT).1 (fun hHeld => ?_)
      clear hK K
      obtain ⟨⟨r0, r1, r2, r3, r4⟩, s0, s1, s2, s3, s4⟩ := fu_cells hR
      have hE := Lib.hid (five_set (i' := i) (n' := n) (r' := r) (l' := l) (o' := o) hR)
      have hZ := Lib.hid (five_below (i := i) (n := n) (r := r) (l := l) (o := o) (fin_below2 hg) (Nat.le_refl w.heap.size))
      have hT5 := (fu_cells (((((hT.other hTR 0 (.int .i64 i)).other hTR 1 (.string n)).other hTR 2 (.int .i64 r)).other hTR 3 (.int .i64 l)).other hTR 4 (.int .i64 o))).1
      refine wpAnyH_ready (rs := [9]) (by kernel_rfl) (by simp) (AllReadyH.cons rfl (fun K hK => ?_) AllReadyH.nil)
      go_simp
      refine hK.out _ _ hT5 (fun hHeld => ?_)
      clear hK K
      clear r0 r1 r2 r3 r4 s0 s1 s2 s3 s4
      refine wpAnyH_ready (rs := [10]) (by kernel_rfl) (by simp) (AllReadyH.cons rfl (fun K hK => ?_) AllReadyH.nil)
      go_simp
      refine hK.out _ _ hT5 (fun hHeld => ?_)
      clear hK K
      refine wpAnyH_done (by kernel_rfl) ?_ _
      go_wp2
      generalize hWz : World.setCell _ ⟨w.heap.size, 4, none⟩ _ = Wz at *
      obtain ⟨⟨e0, e1, e2, e3, e4⟩, _⟩ := fu_cells hE.out
      exact bodyPost_ret (v := .tuple #[fuV i n r l o, .int .i64 m]) (by simp [results, Try.results33, go_sem, e0, e1, e2, e3, e4]) rfl ⟨_, _, _, _, _, _, rfl, hFS, hs1, hZ.out⟩
    · skip
      have e1 : IntKind.i64.wrap (x.tdiv 11) = 1 := by rw [Int.tdiv_eq_ediv_of_nonneg x0, hx]; rfl
      have e2 : IntKind.i64.wrap 6 = 6 := by rfl
      have e3 : IntKind.i64.wrap (5 + IntKind.i64.wrap (x.tdiv 11)) = 6 := by rw [e1]; rfl
      refine wpAnyH_take (i := 5) (v := ?_) rfl (by kernel_rfl) (by kernel_rfl) (by kernel_rfl) (fun _ _ _ h => h) (Or.inl ⟨by rfl, ?_⟩) (by assumption) ?_
      rotate_left
      · intro w hSw
        try dsimp only at hSw
        go_simp
        try (with_reducible rfl)
      try simp only [Act.put, List.setIfInBounds_toArray, List.set_cons_zero, List.set_cons_succ]
      refine wpAnyH_take (i := 6) (v := ?_) rfl (by kernel_rfl) (by kernel_rfl) (by kernel_rfl) (fun _ _ _ h => h) (Or.inl ⟨by rfl, ?_⟩) (by assumption) ?_
      rotate_left
      · intro w hSw
        try dsimp only at hSw
        go_simp
        try (with_reducible rfl)
      try simp only [Act.put, List.setIfInBounds_toArray, List.set_cons_zero, List.set_cons_succ]
      refine wpAnyH_ready (rs := [2]) (by kernel_rfl) (by simp) (AllReadyH.cons rfl (fun K hK => ?_) AllReadyH.nil)
      go_simp
      have hlB : wb.heap.size ≠ w.heap.size + 1 := by have := hc.lt; omega
      have hl := HL0.out wb
      have hbl := grow_alloc wb (.cells #[.int .i64 0, .int .i64 1, .int .i64 33, .int .i64 500, .int .i64 10000, .int .i64 ( -1), .int .i64 10001] 3)
      replace hT := hT.below hbl
      replace hR := hR.below hbl
      replace hc := hc.below hbl
      replace hg := grownBy_trans hg (grownBy_of_below (r := some (w.heap.size + 1)) hbl)
      generalize wb.alloc (.cells #[.int .i64 0, .int .i64 1, .int .i64 33, .int .i64 500, .int .i64 10000, .int .i64 ( -1), .int .i64 10001] 3) = Wl at *
      generalize wb.heap.size = bl at *
      clear hbl
      refine hK.out _ _ (fu_cells hT).1 (fun hHeld => ?_)
      clear hK K
      refine wpAnyH_take (i := 7) (v := ?_) rfl (by kernel_rfl) (by kernel_rfl) (by kernel_rfl) (fun _ _ _ h => h) (Or.inl ⟨by rfl, ?_⟩) (by assumption) ?_
      rotate_left
      · intro w hSw
        try dsimp only at hSw
        go_simp
        try (with_reducible rfl)
      try simp only [Act.put, List.setIfInBounds_toArray, List.set_cons_zero, List.set_cons_succ]
      refine wpAnyH_ready (rs := [8]) (by kernel_rfl) (by simp) (AllReadyH.cons rfl (fun K hK => ?_) AllReadyH.nil)
      go_simp
      go_at_call 93
      refine (among_cut _ _ _ 6 7 [0, 1, 33, 500, 10000, -1, 10001] _ rfl hc (by omega) hl hlB (by omega) (by omega)).mono ?_
      rintro e wz ⟨m, hs, rfl, hc', hg'⟩
      have hs1 := small_of (a := -1) (b := 10001) (by decide) hs
      clear hs
      replace hT := hT.kept hg' (by simpa using hTC)
      replace hR := hR.kept hg' (by simp)
      replace hg := grownBy_trans hg hg'
      replace hc := hc'
      clear hc' hg'
      refine hK.out _ _ (fu_cells hT).1 (fun hHeld => ?_)
      clear hK K
      obtain ⟨⟨r0, r1, r2, r3, r4⟩, s0, s1, s2, s3, s4⟩ := fu_cells hR
      have hE := Lib.hid (five_set (i' := i) (n' := n) (r' := r) (l' := l) (o' := o) hR)
      have hZ := Lib.hid (five_below (i := i) (n := n) (r := r) (l := l) (o := o) (fin_below2 hg) (Nat.le_refl w.heap.size))
      have hT5 := (fu_cells (((((hT.other hTR 0 (.int .i64 i)).other hTR 1 (.string n)).other hTR 2 (.int .i64 r)).other hTR 3 (.int .i64 l)).other hTR 4 (.int .i64 o))).1
      refine wpAnyH_ready (rs := [9]) (by kernel_rfl) (by simp) (AllReadyH.cons rfl (fun K hK => ?_) AllReadyH.nil)
      go_simp
      refine hK.out _ _ hT5 (fun hHeld => ?_)
      clear hK K
      clear r0 r1 r2 r3 r4 s0 s1 s2 s3 s4
      refine wpAnyH_ready (rs := [10]) (by kernel_rfl) (by simp) (AllReadyH.cons rfl (fun K hK => ?_) AllReadyH.nil)
      go_simp
      refine hK.out _ _ hT5 (fun hHeld => ?_)
      clear hK K
      refine wpAnyH_done (by kernel_rfl) ?_ _
      go_wp2
      generalize hWz : World.setCell _ ⟨w.heap.size, 4, none⟩ _ = Wz at *
      obtain ⟨⟨e0, e1, e2, e3, e4⟩, _⟩ := fu_cells hE.out
      exact bodyPost_ret (v := .tuple #[fuV i n r l o, .int .i64 m]) (by simp [results, Try.results33, go_sem, e0, e1, e2, e3, e4]) rfl ⟨_, _, _, _, _, _, rfl, hFS, hs1, hZ.out⟩
    · skip
      have e1 : IntKind.i64.wrap (x.tdiv 11) = 2 := by rw [Int.tdiv_eq_ediv_of_nonneg x0, hx]; rfl
      have e2 : IntKind.i64.wrap 7 = 7 := by rfl
      have e3 : IntKind.i64.wrap (5 + IntKind.i64.wrap (x.tdiv 11)) = 7 := by rw [e1]; rfl
      refine wpAnyH_take (i := 5) (v := ?_) rfl (by kernel_rfl) (by kernel_rfl) (by kernel_rfl) (fun _ _ _ h => h) (Or.inl ⟨by rfl, ?_⟩) (by assumption) ?_
      rotate_left
      · intro w hSw
        try dsimp only at hSw
        go_simp
        try (with_reducible rfl)
      try simp only [Act.put, List.setIfInBounds_toArray, List.set_cons_zero, List.set_cons_succ]
      refine wpAnyH_take (i := 6) (v := ?_) rfl (by kernel_rfl) (by kernel_rfl) (by kernel_rfl) (fun _ _ _ h => h) (Or.inl ⟨by rfl, ?_⟩) (by assumption) ?_
      rotate_left
      · intro w hSw
        try dsimp only at hSw
        go_simp
        try (with_reducible rfl)
      try simp only [Act.put, List.setIfInBounds_toArray, List.set_cons_zero, List.set_cons_succ]
      refine wpAnyH_ready (rs := [2]) (by kernel_rfl) (by simp) (AllReadyH.cons rfl (fun K hK => ?_) AllReadyH.nil)
      go_simp
      have hlB : wb.heap.size ≠ w.heap.size + 1 := by have := hc.lt; omega
      have hl := HL0.out wb
      have hbl := grow_alloc wb (.cells #[.int .i64 0, .int .i64 1, .int .i64 33, .int .i64 500, .int .i64 10000, .int .i64 ( -1), .int .i64 10001] 3)
      replace hT := hT.below hbl
      replace hR := hR.below hbl
      replace hc := hc.below hbl
      replace hg := grownBy_trans hg (grownBy_of_below (r := some (w.heap.size + 1)) hbl)
      generalize wb.alloc (.cells #[.int .i64 0, .int .i64 1, .int .i64 33, .int .i64 500, .int .i64 10000, .int .i64 ( -1), .int .i64 10001] 3) = Wl at *
      generalize wb.heap.size = bl at *
      clear hbl
      refine hK.out _ _ (fu_cells hT).1 (fun hHeld => ?_)
      clear hK K
      refine wpAnyH_take (i := 7) (v := ?_) rfl (by kernel_rfl) (by kernel_rfl) (by kernel_rfl) (fun _ _ _ h => h) (Or.inl ⟨by rfl, ?_⟩) (by assumption) ?_
      rotate_left
      · intro w hSw
        try dsimp only at hSw
        go_simp
        try (with_reducible rfl)
      try simp only [Act.put, List.setIfInBounds_toArray, List.set_cons_zero, List.set_cons_succ]
      refine wpAnyH_ready (rs := [8]) (by kernel_rfl) (by simp) (AllReadyH.cons rfl (fun K hK => ?_) AllReadyH.nil)
      go_simp
      go_at_call 93
      refine (among_cut _ _ _ 7 7 [0, 1, 33, 500, 10000, -1, 10001] _ rfl hc (by omega) hl hlB (by omega) (by omega)).mono ?_
      rintro e wz ⟨m, hs, rfl, hc', hg'⟩
      have hs1 := small_of (a := -1) (b := 10001) (by decide) hs
      clear hs
      replace hT := hT.kept hg' (by simpa using hTC)
      replace hR := hR.kept hg' (by simp)
      replace hg := grownBy_trans hg hg'
      replace hc := hc'
      clear hc' hg'
      refine hK.out _ _ (fu_cells hT).1 (fun hHeld => ?_)
      clear hK K
      obtain ⟨⟨r0, r1, r2, r3, r4⟩, s0, s1, s2, s3, s4⟩ := fu_cells hR
      have hE := Lib.hid (five_set (i' := i) (n' := n) (r' := r) (l' := l) (o' := o) hR)
      have hZ := Lib.hid (five_below (i := i) (n := n) (r := r) (l := l) (o := o) (fin_below2 hg) (Nat.le_refl w.heap.size))
      have hT5 := (fu_cells (((((hT.other hTR 0 (.int .i64 i)).other hTR 1 (.string n)).other hTR 2 (.int .i64 r)).other hTR 3 (.int .i64 l)).other hTR 4 (.int .i64 o))).1
      refine wpAnyH_ready (rs := [9]) (by kernel_rfl) (by simp) (AllReadyH.cons rfl (fun K hK => ?_) AllReadyH.nil)
      go_simp
      refine hK.out _ _ hT5 (fun hHeld => ?_)
      clear hK K
      clear r0 r1 r2 r3 r4 s0 s1 s2 s3 s4
      refine wpAnyH_ready (rs := [10]) (by kernel_rfl) (by simp) (AllReadyH.cons rfl (fun K hK => ?_) AllReadyH.nil)
      go_simp
      refine hK.out _ _ hT5 (fun hHeld => ?_)
      clear hK K
      refine wpAnyH_done (by kernel_rfl) ?_ _
      go_wp2
      generalize hWz : World.setCell _ ⟨w.heap.size, 4, none⟩ _ = Wz at *
      obtain ⟨⟨e0, e1, e2, e3, e4⟩, _⟩ := fu_cells hE.out
      exact bodyPost_ret (v := .tuple #[fuV i n r l o, .int .i64 m]) (by simp [results, Try.results33, go_sem, e0, e1, e2, e3, e4]) rfl ⟨_, _, _, _, _, _, rfl, hFS, hs1, hZ.out⟩
end Go.Proofs.Ytnacofmjipilhaa
