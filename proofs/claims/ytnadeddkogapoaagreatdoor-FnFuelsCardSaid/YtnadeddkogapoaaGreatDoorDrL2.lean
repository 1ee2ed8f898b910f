/- The arguments that FnFuels draws. Conditions: as each states. -/
import Derived.Test.YtnadeddkogapoaaGreatDoorDrL
import Derived.Test.YtnadeddkogapoaaGreatDoorDrSp
import Derived.Test.YtnadeddkogapoaaGreatDoorPFuQ
namespace Go.Proofs.YtnadeddkogapoaaGreatDoor
open Go.ChangeShapes Go.WideShapes Go.ChangeAt Go.RowKit Go.Deep
set_option linter.unusedVariables false
set_option linter.unusedSimpArgs false
set_option maxRecDepth 100000

/-- Five stores into a box. -/
def five (W : World) (B : Nat) (i : Int) (n : ByteArray) (r l o : Int) : World := ((((W.setCell ⟨B, 0, none⟩ (.int .i64 i)).setCell ⟨B, 1, none⟩ (.string n)).setCell ⟨B, 2, none⟩ (.int .i64 r)).setCell ⟨B, 3, none⟩ (.int .i64 l)).setCell ⟨B, 4, none⟩ (.int .i64 o)
theorem five_bel {a W : World} {b B : Nat} {i r l o : Int} {n : ByteArray} (h : Below b a W) (hB : b ≤ B) : Below b a (five W B i n r l o) :=
  ((((h.setCell (p := ⟨B, 0, none⟩) hB _).setCell (p := ⟨B, 1, none⟩) hB _).setCell (p := ⟨B, 2, none⟩) hB _).setCell (p := ⟨B, 3, none⟩) hB _).setCell (p := ⟨B, 4, none⟩) hB _
theorem five_grown (W : World) (B : Nat) (i : Int) (n : ByteArray) (r l o : Int) (hB : Bx W 25 B (fuC 0 ⟨#[]⟩ 0 0 0)) : W.grownBy (five W B i n r l o) (some B) := by
  have h0 : W.ownsRow 0 25 5 (.slice (some ⟨B, 0, none⟩) 1 1) 1 (fuC 0 ⟨#[]⟩ 0 0 0) := hB
  obtain ⟨o1, g1⟩ := h0.stored 0 (.int .i64 i)
  obtain ⟨o2, g2⟩ := o1.stored 1 (.string n)
  obtain ⟨o3, g3⟩ := o2.stored 2 (.int .i64 r)
  obtain ⟨o4, g4⟩ := o3.stored 3 (.int .i64 l)
  obtain ⟨o5, g5⟩ := o4.stored 4 (.int .i64 o)
  exact grownBy_trans g1 (grownBy_trans g2 (grownBy_trans g3 (grownBy_trans g4 g5)))
theorem fin_belL2 {w w' : World} {o p : Obj} (h : ((w.alloc o).alloc p).grownBy w' (some (w.heap.size + 1))) : Below w.heap.size w w' :=
  Below.grown (grow_trans (grow_alloc w o) (grow_alloc _ p)) h (by simp; omega) (fun k hk => by cases hk; omega)
theorem fin_belL {w w' : World} {o : Obj} (h : (w.alloc o).grownBy w' (some w.heap.size)) : Below w.heap.size w w' :=
  Below.grown (grow_alloc w o) h (by simp) (fun k hk => by cases hk; exact Nat.le_refl _)
set_option maxHeartbeats 8000000 in
theorem DrawIsFuel_any (V : Value) (zs : List Int) (w : World) (h1 : Sl w 1 V zs.length (octs zs)) (h2 : ∀ z ∈ zs, 0 ≤ z ∧ z ≤ 255) :
    Calls Tryz.prog 26 #[V] w fun e w' => ∃ i n r l o, e = .returned (fuV i n r l o) ∧ FuS i n r l o ∧ Below w.heap.size w w' := by
  obtain ⟨A, cc, rfl⟩ := h1.val
  have hC0 : Cur ((w.alloc (.cells #[.int .i64 0, .string (⟨#[]⟩ : ByteArray), .int .i64 0, .int .i64 0, .int .i64 0] 25)).alloc (.cells #[.slice A zs.length cc, .int .i64 0, .int .u64 0] 62)) (w.heap.size + 1) 0 := by
    have := Cur.new (h1.below (grow_alloc w (.cells #[.int .i64 0, .string (⟨#[]⟩ : ByteArray), .int .i64 0, .int .i64 0, .int .i64 0] 25))) h2
    rwa [World.size_alloc] at this
  have hR0 := Lib.hid ((Bx.new w (fuC 0 ⟨#[]⟩ 0 0 0) 25).below (grow_alloc _ (.cells #[.slice A zs.length cc, .int .i64 0, .int .u64 0] 62)))
  have hF := Lib.hid (fuel_any _ _ _ hC0 (by omega))
  clear hC0
  go_enter Tryz.func26, Tryz.ntmps26
  go_wp2_with fail
  refine hF.out.mono ?_
  rintro e w1 ⟨i, n, r, l, o, rfl, hFS, hc, hg⟩
  have hR := Lib.hid (hR0.out.kept hg (by simp))
  replace hg := Lib.hid hg
  clear hF hR0 hc
  obtain ⟨⟨r0, r1, r2, r3, r4⟩, s0, s1, s2, s3, s4⟩ := fu_cells hR.out
  have hE := Lib.hid (five_set (i' := i) (n' := n) (r' := r) (l' := l) (o' := o) hR.out)
  have hZ := Lib.hid (five_bel (i := i) (n := n) (r := r) (l := l) (o := o) (fin_belL2 hg.out) (Nat.le_refl w.heap.size))
  unfold five at hZ
  go_wp2
  generalize hWz : World.setCell _ ⟨w.heap.size, 4, none⟩ _ = Wz at *
  obtain ⟨⟨e0, e1, e2, e3, e4⟩, _⟩ := fu_cells hE.out
  exact bodyPost_ret (v := fuV i n r l o) (by simp [results, Tryz.results26, go_sem, e0, e1, e2, e3, e4]) rfl ⟨_, _, _, _, _, rfl, hFS, hZ.out⟩
set_option maxHeartbeats 8000000 in
theorem DrawFuelText_any (V : Value) (zs : List Int) (w : World) (h1 : Sl w 1 V zs.length (octs zs)) (h2 : ∀ z ∈ zs, 0 ≤ z ∧ z ≤ 255) :
    Calls Tryz.prog 5 #[V] w fun e w' => ∃ i n r l o, e = .returned (fuV i n r l o) ∧ FuS i n r l o ∧ Below w.heap.size w w' := by
  have hb0 := grow_alloc w (.cells #[.int .i64 0, .string (⟨#[]⟩ : ByteArray), .int .i64 0, .int .i64 0, .int .i64 0] 25)
  have hF := Lib.hid (DrawIsFuel_any V zs _ (h1.below hb0) h2)
  have hR0 := Lib.hid (Bx.new w (fuC 0 ⟨#[]⟩ 0 0 0) 25)
  replace hb0 := Lib.hid hb0
  obtain ⟨A, cc, rfl⟩ := h1.val
  clear h1
  go_enter Tryz.func5, Tryz.ntmps5
  go_wp2_with fail
  refine hF.out.mono ?_
  rintro e w1 ⟨i, n, r, l, o, rfl, hFS, hb1⟩
  have hR := Lib.hid (hR0.out.below hb1)
  replace hb0 := Lib.hid (grow_trans hb0.out hb1)
  clear hF hR0 hb1
  obtain ⟨⟨r0, r1, r2, r3, r4⟩, s0, s1, s2, s3, s4⟩ := fu_cells hR.out
  have hE := Lib.hid (five_set (i' := i) (n' := n) (r' := r) (l' := l) (o' := o) hR.out)
  have hZ := Lib.hid (five_bel (i := i) (n := n) (r := r) (l := l) (o := o) hb0.out (Nat.le_refl w.heap.size))
  unfold five at hZ
  go_wp2
  generalize hWz : World.setCell _ ⟨w.heap.size, 4, none⟩ _ = Wz at *
  obtain ⟨⟨e0, e1, e2, e3, e4⟩, _⟩ := fu_cells hE.out
  exact bodyPost_ret (v := fuV i n r l o) (by simp [results, Tryz.results5, go_sem, e0, e1, e2, e3, e4]) rfl ⟨_, _, _, _, _, rfl, hFS, hZ.out⟩
set_option maxHeartbeats 8000000 in
theorem DrawParseFuel_any (V : Value) (zs : List Int) (w : World) (h1 : Sl w 1 V zs.length (octs zs)) (h2 : ∀ z ∈ zs, 0 ≤ z ∧ z ≤ 255) :
    Calls Tryz.prog 10 #[V] w fun e w' => ∃ s : ByteArray, e = .returned (.string s) ∧ s.size ≤ 80 ∧ Below w.heap.size w w' := by
  obtain ⟨A, cc, rfl⟩ := h1.val
  have hC0 := Cur.new h1 h2
  have hF := Lib.hid (fuel_any _ _ _ hC0 (by omega))
  clear hC0
  go_enter Tryz.func10, Tryz.ntmps10
  go_wp2_with fail
  refine hF.out.mono ?_
  rintro e w1 ⟨i, n, r, l, o, rfl, hFS, hc, hg⟩
  obtain ⟨m, b, hm, hms⟩ := fu_strV i n r l o
  have hT := sFuelText_any i n r l o w1 (by have := hFS.2.1; unfold maxLen; omega)
  rw [hm] at hT
  replace hT := Lib.hid hT
  replace hc := Lib.hid hc
  replace hg := Lib.hid hg
  clear hF hm hFS
  go_wp2_with fail
  refine hT.out.mono ?_
  rintro e w2 ⟨rfl, hb⟩
  replace hc := Lib.hid (hc.out.below hb)
  replace hg := Lib.hid (grownBy_trans hg.out (grownBy_of_below hb))
  clear hb hT
  have hO := Lib.hid (one_any _ _ 4 _ hc.out (by omega) (by omega))
  go_wp2_with fail
  refine hO.out.mono ?_
  rintro e w3 ⟨v, rfl, ⟨q, rfl⟩, hc', hg'⟩
  replace hc := Lib.hid hc'
  replace hg := Lib.hid (grownBy_trans hg.out hg')
  clear hO hc' hg'
  cases q with
  | false =>
    have hZ := Lib.hid (fin_belL hg.out)
    go_wp2
    exact bodyPost_ret (v := .string m) (by simp [results, Tryz.results10, go_sem]) rfl ⟨_, rfl, by omega, hZ.out⟩
  | true =>
    have hS := Lib.hid (spoilt_any _ _ m ⟨#[48, 32, 114, 97, 49, 108]⟩ _ hc.out (by omega) (by omega) (by decide) (by decide))
    go_wp2_with fail
    refine hS.out.mono ?_
    rintro e w4 ⟨s, rfl, hs, hc', hg'⟩
    have hZ := Lib.hid (fin_belL (grownBy_trans hg.out hg'))
    clear hc' hg' hS
    go_wp2
    exact bodyPost_ret (v := .string s) (by simp [results, Tryz.results10, go_sem]) rfl ⟨_, rfl, by omega, hZ.out⟩
set_option maxHeartbeats 8000000 in
theorem DrawAddFuel_any (V : Value) (zs : List Int) (w : World) (h1 : Sl w 1 V zs.length (octs zs)) (h2 : ∀ z ∈ zs, 0 ≤ z ∧ z ≤ 255) :
    Calls Tryz.prog 12 #[V] w fun e w' => ∃ u ps i n r l o, e = .returned (.tuple #[u, fuV i n r l o]) ∧ Sl w' 5 u ps.length (fus ps) ∧ ps.length ≤ 10 ∧ (∀ p ∈ ps, p.n.size ≤ 20) ∧ FuS i n r l o ∧ Below w.heap.size w w' := by
  obtain ⟨A, cc, rfl⟩ := h1.val
  have hC0 : Cur ((w.alloc (.cells #[.int .i64 0, .string (⟨#[]⟩ : ByteArray), .int .i64 0, .int .i64 0, .int .i64 0] 25)).alloc (.cells #[.slice A zs.length cc, .int .i64 0, .int .u64 0] 62)) (w.heap.size + 1) 0 := by
    have := Cur.new (h1.below (grow_alloc w (.cells #[.int .i64 0, .string (⟨#[]⟩ : ByteArray), .int .i64 0, .int .i64 0, .int .i64 0] 25))) h2
    rwa [World.size_alloc] at this
  have hR0 := Lib.hid ((Bx.new w (fuC 0 ⟨#[]⟩ 0 0 0) 25).below (grow_alloc _ (.cells #[.slice A zs.length cc, .int .i64 0, .int .u64 0] 62)))
  have hF := Lib.hid (fuels_any _ _ _ hC0 (by omega))
  have hsz0 : Hid (w.heap.size + 2 ≤ ((w.alloc (.cells #[.int .i64 0, .string (⟨#[]⟩ : ByteArray), .int .i64 0, .int .i64 0, .int .i64 0] 25)).alloc (.cells #[.slice A zs.length cc, .int .i64 0, .int .u64 0] 62)).heap.size) := by show _ ≤ _; simp
  clear hC0
  go_enter Tryz.func12, Tryz.ntmps12
  go_wp2_with fail
  refine hF.out.mono ?_
  rintro e w1 ⟨u, ps, rfl, hs, hl, hps, ho, hc, hg⟩
  obtain ⟨AA, ca, rfl⟩ := hs.val
  have hR := Lib.hid (hR0.out.kept hg (by simp))
  have hG := Lib.hid (fuel_any _ _ _ hc (by omega))
  replace hs := Lib.hid hs
  replace hps := Lib.hid hps
  have ho2 : Hid (∀ q, Value.ownBlock (.slice AA ps.length ca) = some q → w.heap.size + 2 ≤ q) := fun q hq => Nat.le_trans hsz0.out (ho q hq)
  replace hg := Lib.hid hg
  clear hF hR0 hc ho hsz0
  generalize hN : ps.length = N at *
  have HN := Lib.hid hN
  clear hN
  go_wp2_with fail
  refine hG.out.mono ?_
  rintro e w2 ⟨i, n, r, l, o, rfl, hFS, hc, hg'⟩
  replace hR := Lib.hid (hR.out.kept hg' (by simp))
  replace hs := Lib.hid (hs.out.kept hg' (.inr (fun e => by have := ho2.out _ e; omega)))
  replace hg := Lib.hid (grownBy_trans hg.out hg')
  clear hG hc hg'
  obtain ⟨⟨r0, r1, r2, r3, r4⟩, s0, s1, s2, s3, s4⟩ := fu_cells hR.out
  have hE := Lib.hid (five_set (i' := i) (n' := n) (r' := r) (l' := l) (o' := o) hR.out)
  have hZ := Lib.hid (five_bel (i := i) (n := n) (r := r) (l := l) (o := o) (fin_belL2 hg.out) (Nat.le_refl w.heap.size))
  have hs5 := Lib.hid (hs.out.kept (five_grown w2 w.heap.size i n r l o hR.out) (.inr (fun e => by have := ho2.out _ e; omega)))
  unfold five at hZ hs5
  clear hs
  go_wp2
  generalize hWz : World.setCell _ ⟨w.heap.size, 4, none⟩ _ = Wz at *
  obtain ⟨⟨e0, e1, e2, e3, e4⟩, _⟩ := fu_cells hE.out
  exact bodyPost_ret (v := .tuple #[.slice AA N ca, fuV i n r l o]) (by simp [results, Tryz.results12, go_sem, e0, e1, e2, e3, e4]) rfl ⟨_, ps, _, _, _, _, _, rfl, by rw [HN.out]; exact hs5.out, by rw [HN.out]; exact hl, hps.out, hFS, hZ.out⟩
set_option maxHeartbeats 8000000 in
theorem DrawFastestFuel_any (V : Value) (zs : List Int) (w : World) (h1 : Sl w 1 V zs.length (octs zs)) (h2 : ∀ z ∈ zs, 0 ≤ z ∧ z ≤ 255) :
    Calls Tryz.prog 23 #[V] w fun e w' => ∃ A n c ps m, e = .returned (.tuple #[.slice A n c, .int .i64 m]) ∧ Sl w' 5 (.slice A n c) ps.length (fus ps) ∧ ps.length ≤ 10 ∧ (∀ p ∈ ps, p.n.size ≤ 20) ∧ Below w.heap.size w w' := by
  obtain ⟨A, cc, rfl⟩ := h1.val
  have hC0 := Cur.new h1 h2
  have hF := Lib.hid (fuels_any _ _ _ hC0 (by omega))
  have hsz0 : Hid (w.heap.size + 1 ≤ (w.alloc (.cells #[.slice A zs.length cc, .int .i64 0, .int .u64 0] 62)).heap.size) := by show _ ≤ _; simp
  clear hC0
  go_enter Tryz.func23, Tryz.ntmps23
  go_wp2_with fail
  refine hF.out.mono ?_
  rintro e w1 ⟨u, ps, rfl, hs, hl, hps, ho, hc, hg⟩
  obtain ⟨AA, ca, rfl⟩ := hs.val
  have hG := Lib.hid (moist_any _ _ _ hc (by omega))
  replace hs := Lib.hid hs
  replace hps := Lib.hid hps
  have ho2 : Hid (∀ q, Value.ownBlock (.slice AA ps.length ca) = some q → w.heap.size + 1 ≤ q) := fun q hq => Nat.le_trans hsz0.out (ho q hq)
  replace hg := Lib.hid hg
  clear hF hc ho hsz0
  generalize hN : ps.length = N at *
  have HN := Lib.hid hN
  clear hN
  go_wp2_with fail
  refine hG.out.mono ?_
  rintro e w2 ⟨m, hm, rfl, hc, hg'⟩
  replace hs := Lib.hid (hs.out.kept hg' (.inr (fun e => by have := ho2.out _ e; omega)))
  have hZ := Lib.hid (fin_belL (grownBy_trans hg.out hg'))
  clear hG hc hg' hm hg
  go_wp2
  exact bodyPost_ret (v := .tuple #[.slice AA N ca, .int .i64 m]) (by simp [results, Tryz.results23, go_sem]) rfl ⟨_, _, _, ps, _, rfl, by rw [HN.out]; exact hs.out, by rw [HN.out]; exact hl, hps.out, hZ.out⟩
set_option maxHeartbeats 8000000 in
theorem DrawBurningFuels_any (V : Value) (zs : List Int) (w : World) (h1 : Sl w 1 V zs.length (octs zs)) (h2 : ∀ z ∈ zs, 0 ≤ z ∧ z ≤ 255) :
    Calls Tryz.prog 17 #[V] w fun e w' => ∃ A n c ps m, e = .returned (.tuple #[.slice A n c, .int .i64 m]) ∧ Sl w' 5 (.slice A n c) ps.length (fus ps) ∧ ps.length ≤ 10 ∧ (∀ p ∈ ps, p.n.size ≤ 20) ∧ Below w.heap.size w w' := by
  have hF := Lib.hid (DrawFastestFuel_any V zs w h1 h2)
  obtain ⟨A, cc, rfl⟩ := h1.val
  clear h1
  go_enter Tryz.func17, Tryz.ntmps17
  go_wp2_with fail
  refine hF.out.mono ?_
  rintro e w1 ⟨AA, N, ca, ps, m, rfl, hs, hl, hps, hb⟩
  replace hs := Lib.hid hs
  replace hps := Lib.hid hps
  replace hb := Lib.hid hb
  clear hF
  go_wp2
  exact bodyPost_ret (v := .tuple #[.slice AA N ca, .int .i64 m]) (by simp [results, Tryz.results17, go_sem]) rfl ⟨_, _, _, ps, _, rfl, hs.out, hl, hps.out, hb.out⟩
end Go.Proofs.YtnadeddkogapoaaGreatDoor
