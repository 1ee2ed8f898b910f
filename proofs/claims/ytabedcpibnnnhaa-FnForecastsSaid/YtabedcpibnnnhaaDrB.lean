/- Breezes that are drawn. Conditions: as each states. -/
import Derived.Test.YtabedcpibnnnhaaCurW
import Derived.Test.YtabedcpibnnnhaaWind
namespace Go.Proofs.Ytabedcpibnnnhaa
open Go.ChangeShapes Go.WideShapes Go.ChangeAt Go.RowKit Go.Deep
set_option linter.unusedVariables false
set_option linter.unusedSimpArgs false
set_option maxRecDepth 100000

/-- A breeze as drawn: its numbers are small. -/
def BzS (f s : Int) : Prop := (-1 ≤ f ∧ f ≤ 8) ∧ (-1 ≤ s ∧ s ≤ 121)
abbrev bzC (f s : Int) : List Value := [.int .i64 f, .int .i64 s]
theorem fin_belowB {w w' : World} {o : Obj} (h : (w.alloc o).grownBy w' (some w.heap.size)) : Below w.heap.size w w' :=
  Below.grown (grow_alloc w o) h (by simp) (fun k hk => by cases hk; exact Nat.le_refl _)
theorem fin_belowB2 {w w' : World} {o p : Obj} (h : ((w.alloc o).alloc p).grownBy w' (some (w.heap.size + 1))) : Below w.heap.size w w' :=
  Below.grown (grow_trans (grow_alloc w o) (grow_alloc _ p)) h (by simp; omega) (fun k hk => by cases hk; omega)
theorem small_ofB {l : List Int} {a b x : Int} (h : ∀ y ∈ l, a ≤ y ∧ y ≤ b) (hx : x ∈ l) : a ≤ x ∧ x ≤ b := h x hx
theorem bz_cells {W : World} {B : Nat} {f s : Int} (h : Bx W 51 B (bzC f s)) :
    (W.cell? ⟨B, 0, none⟩ = some (.int .i64 f) ∧ W.cell? ⟨B, 1, none⟩ = some (.int .i64 s)) ∧ W.frozen? ⟨B, 0, none⟩ = false ∧ W.frozen? ⟨B, 1, none⟩ = false :=
  ⟨⟨h.cell 0 rfl, h.cell 1 rfl⟩, h.fz 0, h.fz 1⟩
theorem bz_set {W : World} {B : Nat} {f s f' s' : Int} (h : Bx W 51 B (bzC f s)) : Bx ((W.setCell ⟨B, 0, none⟩ (.int .i64 f')).setCell ⟨B, 1, none⟩ (.int .i64 s')) 51 B (bzC f' s') :=
  (h.set 0 _).set 1 _
theorem bz_below {a W : World} {b B : Nat} {f s : Int} (h : Below b a W) (hB : b ≤ B) : Below b a ((W.setCell ⟨B, 0, none⟩ (.int .i64 f)).setCell ⟨B, 1, none⟩ (.int .i64 s)) :=
  (h.setCell (p := ⟨B, 0, none⟩) hB _).setCell (p := ⟨B, 1, none⟩) hB _
theorem breeze_end {w W Wz : World} {C m m' B : Nat} {f s f' s' : Int} (hB : Bx W 51 B (bzC f' s')) (hc : Cur W C m) (hg : w.grownBy W (some C)) (hw : w.heap.size ≤ B) (hC : C < B) (hm : m ≤ m')
    (hW : Wz = (W.setCell ⟨B, 0, none⟩ (.int .i64 f)).setCell ⟨B, 1, none⟩ (.int .i64 s)) :
    (Wz.cell? ⟨B, 0, none⟩ = some (.int .i64 f) ∧ Wz.cell? ⟨B, 1, none⟩ = some (.int .i64 s)) ∧ Cur Wz C m' ∧ w.grownBy Wz (some C) := by
  have h5 := bz_set (f' := f) (s' := s) hB
  subst hW
  exact ⟨⟨h5.cell 0 rfl, h5.cell 1 rfl⟩, ((hc.other hC 0 _).other hC 1 _).up hm, grow_set (grow_set hg hw 0 _) hw 1 _⟩
set_option maxHeartbeats 16000000 in
theorem breeze_any (C m : Nat) (w : World) (h : Cur w C m) (hm : m ≤ 1099511627000) :
    Calls Try.prog 87 #[.pointer (some ⟨C, 0, none⟩)] w fun e w' => ∃ f s, e = .returned (.agg #[.int .i64 f, .int .i64 s]) ∧ BzS f s ∧ Cur w' C (m + 8) ∧ w.grownBy w' (some C) := by
  have hlt := h.lt
  have hb0 := grow_alloc w (.cells #[.int .i64 0, .int .i64 0] 51)
  have hR0 : Bx (w.alloc (.cells #[.int .i64 0, .int .i64 0] 51)) 51 w.heap.size (bzC 0 0) := Bx.new w (bzC 0 0) _
  have hP := Lib.hid (pick_any C m 8 _ (h.below hb0) (by omega) (by omega))
  have hb0 := Lib.hid (grownBy_of_below (r := some C) hb0)
  have hR0 := Lib.hid hR0
  clear h
  go_enter Try.func87, Try.ntmps87
  go_wp2_with fail
  refine hP.out.mono ?_
  rintro e w1 ⟨v, rfl, ⟨x, rfl, x0, x1⟩, hc, hg⟩
  have hR := Lib.hid (hR0.out.kept hg (by simp; omega))
  replace hc := Lib.hid hc
  replace hg := Lib.hid (grownBy_trans hb0.out hg)
  clear hP hR0 hb0
  have hA := among_lit C _ 7 ([0, 1, 10, 25, 25, 60, 120] : List Int) _ rfl hc.out (by omega) (by omega) (by omega)
  simp only [List.map_cons, List.map_nil] at hA
  replace hA := Lib.hid hA
  go_wp2_with fail
  refine hA.out.mono ?_
  rintro e w2 ⟨y2, hy2, rfl, hc', hg'⟩
  replace hR := Lib.hid (hR.out.kept hg' (by simp; omega))
  replace hc := Lib.hid hc'
  replace hg := Lib.hid (grownBy_trans hg.out hg')
  clear hA hc' hg'
  have n2 : 0 ≤ y2 ∧ y2 ≤ 120 := small_ofB (l := [0, 1, 10, 25, 25, 60, 120]) (by decide) hy2
  clear hy2
  have hlt5 := hc.out.lt
  have hsz5 := hg.out.size
  have hRl := Lib.hid hR.out.lt
  by_cases hy0 : y2 = 0
  case pos =>
    obtain rfl : y2 = 0 := hy0
    have hT := Lib.hid (Bx.new w2 (bzC 0 0) 51)
    have hb5 := grow_alloc w2 (.cells (bzC 0 0).toArray 51)
    have hP := Lib.hid (pick_any C _ 80 _ (hc.out.below hb5) (by omega) (by omega))
    replace hR := Lib.hid (hR.out.below hb5)
    replace hg := Lib.hid (grownBy_trans hg.out (grownBy_of_below (r := some C) hb5))
    clear hb5 hc
    go_wp2_with fail
    refine hP.out.mono ?_
    rintro e w6 ⟨v, rfl, ⟨z, rfl, z0, z1⟩, hc', hg'⟩
    have hTC : w2.heap.size ≠ C := by omega
    have hRT : w.heap.size ≠ w2.heap.size := by have := hRl.out; omega
    replace hR := Lib.hid (hR.out.kept hg' (by simp; omega))
    replace hT := Lib.hid (hT.out.kept hg' (by simpa using hTC))
    have hc := Lib.hid hc'
    replace hg := Lib.hid (grownBy_trans hg.out hg')
    clear hP hc' hg' hRl
    generalize hB5 : w2.heap.size = T at *
    clear hB5
    rcases (show z = 0 ∨ z = 1 ∨ 2 ≤ z by omega) with hz | hz | hz
    · obtain rfl : z = 0 := by omega
      have hA := among_lit C _ 2 ([-1, 8] : List Int) _ rfl hc.out (by omega) (by omega) (by omega)
      simp only [List.map_cons, List.map_nil] at hA
      replace hA := Lib.hid hA
      go_wp2_with fail
      refine hA.out.mono ?_
      rintro e w7 ⟨y7, hy7, rfl, hc', hg'⟩
      replace hR := Lib.hid (hR.out.kept hg' (by simp; omega))
      replace hT := hT.out.kept hg' (by simpa using hTC)
      obtain ⟨⟨t0, t1⟩, u0, u1⟩ := bz_cells hT
      replace hT : Hid (Bx (w7.setCell ⟨T, 0, none⟩ (.int .i64 y7)) 51 T (bzC y7 0)) := hT.set 0 _
      replace hR := Lib.hid (hR.out.other hRT 0 (.int .i64 y7))
      replace hc := Lib.hid (hc'.other (B := T) (by omega) 0 (.int .i64 y7))
      replace hg := Lib.hid (grow_set (grownBy_trans hg.out hg') (B := T) (by omega) 0 (.int .i64 y7))
      clear hA hc' hg'
      have n7 : -1 ≤ y7 ∧ y7 ≤ 8 := small_ofB (l := [-1, 8]) (by decide) hy7
      clear hy7
      obtain ⟨⟨p0, p1⟩, _⟩ := bz_cells hT.out
      obtain ⟨⟨r0, r1⟩, s0, s1⟩ := bz_cells hR.out
      have hFS : BzS y7 0 := ⟨by omega, by omega⟩
      have hE := Lib.hid fun Wz hz => breeze_end (Wz := Wz) (f := y7) (s := 0) hR.out hc.out hg.out (Nat.le_refl w.heap.size) hlt (m' := m + 8) (by omega) hz
      go_wp2
      generalize hWz : World.setCell _ ⟨w.heap.size, 1, none⟩ _ = Wz
      obtain ⟨⟨e0, e1⟩, hcz, hgz⟩ := hE.out Wz hWz.symm
      clear hWz
      change bodyPost _ _ _ _ _ Wz
      exact bodyPost_ret (v := .agg #[.int .i64 y7, .int .i64 0]) (by simp [results, Try.results87, go_sem, e0, e1]) rfl ⟨_, _, rfl, hFS, hcz, hgz⟩
    · obtain rfl : z = 1 := by omega
      have hA := among_lit C _ 3 ([-1, 0, 121] : List Int) _ rfl hc.out (by omega) (by omega) (by omega)
      simp only [List.map_cons, List.map_nil] at hA
      replace hA := Lib.hid hA
      go_wp2_with fail
      refine hA.out.mono ?_
      rintro e w7 ⟨y7, hy7, rfl, hc', hg'⟩
      replace hR := Lib.hid (hR.out.kept hg' (by simp; omega))
      replace hT := hT.out.kept hg' (by simpa using hTC)
      obtain ⟨⟨t0, t1⟩, u0, u1⟩ := bz_cells hT
      replace hT : Hid (Bx (w7.setCell ⟨T, 1, none⟩ (.int .i64 y7)) 51 T (bzC 0 y7)) := hT.set 1 _
      replace hR := Lib.hid (hR.out.other hRT 1 (.int .i64 y7))
      replace hc := Lib.hid (hc'.other (B := T) (by omega) 1 (.int .i64 y7))
      replace hg := Lib.hid (grow_set (grownBy_trans hg.out hg') (B := T) (by omega) 1 (.int .i64 y7))
      clear hA hc' hg'
      have n7 : -1 ≤ y7 ∧ y7 ≤ 121 := small_ofB (l := [-1, 0, 121]) (by decide) hy7
      clear hy7
      obtain ⟨⟨p0, p1⟩, _⟩ := bz_cells hT.out
      obtain ⟨⟨r0, r1⟩, s0, s1⟩ := bz_cells hR.out
      have hFS : BzS 0 y7 := ⟨by omega, by omega⟩
      have hE := Lib.hid fun Wz hz => breeze_end (Wz := Wz) (f := 0) (s := y7) hR.out hc.out hg.out (Nat.le_refl w.heap.size) hlt (m' := m + 8) (by omega) hz
      go_wp2
      generalize hWz : World.setCell _ ⟨w.heap.size, 1, none⟩ _ = Wz
      obtain ⟨⟨e0, e1⟩, hcz, hgz⟩ := hE.out Wz hWz.symm
      clear hWz
      change bodyPost _ _ _ _ _ Wz
      exact bodyPost_ret (v := .agg #[.int .i64 0, .int .i64 y7]) (by simp [results, Try.results87, go_sem, e0, e1]) rfl ⟨_, _, rfl, hFS, hcz, hgz⟩
    · obtain ⟨⟨p0, p1⟩, _⟩ := bz_cells hT.out
      obtain ⟨⟨r0, r1⟩, s0, s1⟩ := bz_cells hR.out
      have hFS : BzS 0 0 := ⟨by omega, by omega⟩
      have hE := Lib.hid fun Wz hz => breeze_end (Wz := Wz) (f := 0) (s := 0) hR.out hc.out hg.out (Nat.le_refl w.heap.size) hlt (m' := m + 8) (by omega) hz
      go_wp2
      generalize hWz : World.setCell _ ⟨w.heap.size, 1, none⟩ _ = Wz
      obtain ⟨⟨e0, e1⟩, hcz, hgz⟩ := hE.out Wz hWz.symm
      clear hWz
      change bodyPost _ _ _ _ _ Wz
      exact bodyPost_ret (v := .agg #[.int .i64 0, .int .i64 0]) (by simp [results, Try.results87, go_sem, e0, e1]) rfl ⟨_, _, rfl, hFS, hcz, hgz⟩
  case neg =>
    have hq0 : (y2 == 0) = false := by simpa using hy0
    have hT := Lib.hid (Bx.new w2 (bzC x y2) 51)
    have hb5 := grow_alloc w2 (.cells (bzC x y2).toArray 51)
    have hP := Lib.hid (pick_any C _ 80 _ (hc.out.below hb5) (by omega) (by omega))
    replace hR := Lib.hid (hR.out.below hb5)
    replace hg := Lib.hid (grownBy_trans hg.out (grownBy_of_below (r := some C) hb5))
    clear hb5 hc
    go_wp2_with fail
    refine hP.out.mono ?_
    rintro e w6 ⟨v, rfl, ⟨z, rfl, z0, z1⟩, hc', hg'⟩
    have hTC : w2.heap.size ≠ C := by omega
    have hRT : w.heap.size ≠ w2.heap.size := by have := hRl.out; omega
    replace hR := Lib.hid (hR.out.kept hg' (by simp; omega))
    replace hT := Lib.hid (hT.out.kept hg' (by simpa using hTC))
    have hc := Lib.hid hc'
    replace hg := Lib.hid (grownBy_trans hg.out hg')
    clear hP hc' hg' hRl
    generalize hB5 : w2.heap.size = T at *
    clear hB5
    rcases (show z = 0 ∨ z = 1 ∨ 2 ≤ z by omega) with hz | hz | hz
    · obtain rfl : z = 0 := by omega
      have hA := among_lit C _ 2 ([-1, 8] : List Int) _ rfl hc.out (by omega) (by omega) (by omega)
      simp only [List.map_cons, List.map_nil] at hA
      replace hA := Lib.hid hA
      go_wp2_with fail
      refine hA.out.mono ?_
      rintro e w7 ⟨y7, hy7, rfl, hc', hg'⟩
      replace hR := Lib.hid (hR.out.kept hg' (by simp; omega))
      replace hT := hT.out.kept hg' (by simpa using hTC)
      obtain ⟨⟨t0, t1⟩, u0, u1⟩ := bz_cells hT
      replace hT : Hid (Bx (w7.setCell ⟨T, 0, none⟩ (.int .i64 y7)) 51 T (bzC y7 y2)) := hT.set 0 _
      replace hR := Lib.hid (hR.out.other hRT 0 (.int .i64 y7))
      replace hc := Lib.hid (hc'.other (B := T) (by omega) 0 (.int .i64 y7))
      replace hg := Lib.hid (grow_set (grownBy_trans hg.out hg') (B := T) (by omega) 0 (.int .i64 y7))
      clear hA hc' hg'
      have n7 : -1 ≤ y7 ∧ y7 ≤ 8 := small_ofB (l := [-1, 8]) (by decide) hy7
      clear hy7
      obtain ⟨⟨p0, p1⟩, _⟩ := bz_cells hT.out
      obtain ⟨⟨r0, r1⟩, s0, s1⟩ := bz_cells hR.out
      have hFS : BzS y7 y2 := ⟨by omega, by omega⟩
      have hE := Lib.hid fun Wz hz => breeze_end (Wz := Wz) (f := y7) (s := y2) hR.out hc.out hg.out (Nat.le_refl w.heap.size) hlt (m' := m + 8) (by omega) hz
      go_wp2
      generalize hWz : World.setCell _ ⟨w.heap.size, 1, none⟩ _ = Wz
      obtain ⟨⟨e0, e1⟩, hcz, hgz⟩ := hE.out Wz hWz.symm
      clear hWz
      change bodyPost _ _ _ _ _ Wz
      exact bodyPost_ret (v := .agg #[.int .i64 y7, .int .i64 y2]) (by simp [results, Try.results87, go_sem, e0, e1]) rfl ⟨_, _, rfl, hFS, hcz, hgz⟩
    · obtain rfl : z = 1 := by omega
      have hA := among_lit C _ 3 ([-1, 0, 121] : List Int) _ rfl hc.out (by omega) (by omega) (by omega)
      simp only [List.map_cons, List.map_nil] at hA
      replace hA := Lib.hid hA
      go_wp2_with fail
      refine hA.out.mono ?_
      rintro e w7 ⟨y7, hy7, rfl, hc', hg'⟩
      replace hR := Lib.hid (hR.out.kept hg' (by simp; omega))
      replace hT := hT.out.kept hg' (by simpa using hTC)
      obtain ⟨⟨t0, t1⟩, u0, u1⟩ := bz_cells hT
      replace hT : Hid (Bx (w7.setCell ⟨T, 1, none⟩ (.int .i64 y7)) 51 T (bzC x y7)) := hT.set 1 _
      replace hR := Lib.hid (hR.out.other hRT 1 (.int .i64 y7))
      replace hc := Lib.hid (hc'.other (B := T) (by omega) 1 (.int .i64 y7))
      replace hg := Lib.hid (grow_set (grownBy_trans hg.out hg') (B := T) (by omega) 1 (.int .i64 y7))
      clear hA hc' hg'
      have n7 : -1 ≤ y7 ∧ y7 ≤ 121 := small_ofB (l := [-1, 0, 121]) (by decide) hy7
      clear hy7
      obtain ⟨⟨p0, p1⟩, _⟩ := bz_cells hT.out
      obtain ⟨⟨r0, r1⟩, s0, s1⟩ := bz_cells hR.out
      have hFS : BzS x y7 := ⟨by omega, by omega⟩
      have hE := Lib.hid fun Wz hz => breeze_end (Wz := Wz) (f := x) (s := y7) hR.out hc.out hg.out (Nat.le_refl w.heap.size) hlt (m' := m + 8) (by omega) hz
      go_wp2
      generalize hWz : World.setCell _ ⟨w.heap.size, 1, none⟩ _ = Wz
      obtain ⟨⟨e0, e1⟩, hcz, hgz⟩ := hE.out Wz hWz.symm
      clear hWz
      change bodyPost _ _ _ _ _ Wz
      exact bodyPost_ret (v := .agg #[.int .i64 x, .int .i64 y7]) (by simp [results, Try.results87, go_sem, e0, e1]) rfl ⟨_, _, rfl, hFS, hcz, hgz⟩
    · obtain ⟨⟨p0, p1⟩, _⟩ := bz_cells hT.out
      obtain ⟨⟨r0, r1⟩, s0, s1⟩ := bz_cells hR.out
      have hFS : BzS x y2 := ⟨by omega, by omega⟩
      have hE := Lib.hid fun Wz hz => breeze_end (Wz := Wz) (f := x) (s := y2) hR.out hc.out hg.out (Nat.le_refl w.heap.size) hlt (m' := m + 8) (by omega) hz
      go_wp2
      generalize hWz : World.setCell _ ⟨w.heap.size, 1, none⟩ _ = Wz
      obtain ⟨⟨e0, e1⟩, hcz, hgz⟩ := hE.out Wz hWz.symm
      clear hWz
      change bodyPost _ _ _ _ _ Wz
      exact bodyPost_ret (v := .agg #[.int .i64 x, .int .i64 y2]) (by simp [results, Try.results87, go_sem, e0, e1]) rfl ⟨_, _, rfl, hFS, hcz, hgz⟩
end Go.Proofs.Ytabedcpibnnnhaa
