/- Fuels that are drawn. Conditions: as each states. -/
import Derived.Test.YtnadeddkogapoaaGreatDoorCurW
import Derived.Test.YtnadeddkogapoaaGreatDoorFus
namespace Go.Proofs.YtnadeddkogapoaaGreatDoor
open Go.ChangeShapes Go.WideShapes Go.ChangeAt Go.RowKit Go.Deep
set_option linter.unusedVariables false
set_option linter.unusedSimpArgs false
set_option maxRecDepth 100000

/-- A fuel as drawn: its numbers are small, its name short. -/
def FuS (i : Int) (n : ByteArray) (r l o : Int) : Prop := (-100000 ≤ i ∧ i ≤ 100000) ∧ n.size ≤ 20 ∧ (-100000 ≤ r ∧ r ≤ 100000) ∧ (-100000 ≤ l ∧ l ≤ 100000) ∧ (-100000 ≤ o ∧ o ≤ 100000)
theorem fin_below {w w' : World} {o : Obj} (h : (w.alloc o).grownBy w' (some w.heap.size)) : Below w.heap.size w w' :=
  Below.grown (grow_alloc w o) h (by simp) (fun k hk => by cases hk; exact Nat.le_refl _)
abbrev fuC (i : Int) (n : ByteArray) (r l o : Int) : List Value := [.int .i64 i, .string n, .int .i64 r, .int .i64 l, .int .i64 o]
theorem fu_cells {W : World} {B : Nat} {i r l o : Int} {n : ByteArray} (h : Bx W 25 B (fuC i n r l o)) :
    (W.cell? ⟨B, 0, none⟩ = some (.int .i64 i) ∧ W.cell? ⟨B, 1, none⟩ = some (.string n) ∧ W.cell? ⟨B, 2, none⟩ = some (.int .i64 r) ∧ W.cell? ⟨B, 3, none⟩ = some (.int .i64 l) ∧ W.cell? ⟨B, 4, none⟩ = some (.int .i64 o)) ∧
    W.frozen? ⟨B, 0, none⟩ = false ∧ W.frozen? ⟨B, 1, none⟩ = false ∧ W.frozen? ⟨B, 2, none⟩ = false ∧ W.frozen? ⟨B, 3, none⟩ = false ∧ W.frozen? ⟨B, 4, none⟩ = false :=
  ⟨⟨h.cell 0 rfl, h.cell 1 rfl, h.cell 2 rfl, h.cell 3 rfl, h.cell 4 rfl⟩, h.fz 0, h.fz 1, h.fz 2, h.fz 3, h.fz 4⟩
/-- The five cells of a box are stored into another. -/
theorem five_set {W : World} {B : Nat} {i r l o i' r' l' o' : Int} {n n' : ByteArray} (h : Bx W 25 B (fuC i n r l o)) :
    Bx (((((W.setCell ⟨B, 0, none⟩ (.int .i64 i')).setCell ⟨B, 1, none⟩ (.string n')).setCell ⟨B, 2, none⟩ (.int .i64 r')).setCell ⟨B, 3, none⟩ (.int .i64 l')).setCell ⟨B, 4, none⟩ (.int .i64 o')) 25 B (fuC i' n' r' l' o') :=
  ((((h.set 0 _).set 1 _).set 2 _).set 3 _).set 4 _
theorem fuel_end {w W Wz : World} {C m m' B T : Nat} {i r l o i' r' l' o' : Int} {n n' : ByteArray} (hT : Bx W 25 T (fuC i n r l o)) (hB : Bx W 25 B (fuC i' n' r' l' o')) (hc : Cur W C m) (hg : w.grownBy W (some C)) (hw : w.heap.size ≤ B) (hC : C < B) (hs : FuS i n r l o) (hm : m ≤ m')
    (hW : Wz = ((((W.setCell ⟨B, 0, none⟩ (.int .i64 i)).setCell ⟨B, 1, none⟩ (.string n)).setCell ⟨B, 2, none⟩ (.int .i64 r)).setCell ⟨B, 3, none⟩ (.int .i64 l)).setCell ⟨B, 4, none⟩ (.int .i64 o)) :
    (Wz.cell? ⟨B, 0, none⟩ = some (.int .i64 i) ∧ Wz.cell? ⟨B, 1, none⟩ = some (.string n) ∧ Wz.cell? ⟨B, 2, none⟩ = some (.int .i64 r) ∧ Wz.cell? ⟨B, 3, none⟩ = some (.int .i64 l) ∧ Wz.cell? ⟨B, 4, none⟩ = some (.int .i64 o)) ∧
    (∃ i n r l o, Ending.returned (fuV i n r l o) = .returned (fuV i n r l o) ∧ True) ∧ Cur Wz C m' ∧ w.grownBy Wz (some C) := by
  have h5 := five_set (i' := i) (n' := n) (r' := r) (l' := l) (o' := o) hB
  subst hW
  exact ⟨⟨h5.cell 0 rfl, h5.cell 1 rfl, h5.cell 2 rfl, h5.cell 3 rfl, h5.cell 4 rfl⟩, ⟨i, n, r, l, o, rfl, trivial⟩,
    (((((hc.other hC 0 _).other hC 1 _).other hC 2 _).other hC 3 _).other hC 4 _).up hm, grow_set (grow_set (grow_set (grow_set (grow_set hg hw 0 _) hw 1 _) hw 2 _) hw 3 _) hw 4 _⟩
set_option maxHeartbeats 16000000 in
theorem fuel_any (C m : Nat) (w : World) (h : Cur w C m) (hm : m ≤ 1099511627000) :
    Calls Tryz.prog 35 #[.pointer (some ⟨C, 0, none⟩)] w fun e w' => ∃ i n r l o, e = .returned (fuV i n r l o) ∧ FuS i n r l o ∧ Cur w' C (m + 20) ∧ w.grownBy w' (some C) := by
  have hlt := h.lt
  have hb0 := grow_alloc w (.cells #[.int .i64 0, .string (⟨#[]⟩ : ByteArray), .int .i64 0, .int .i64 0, .int .i64 0] 25)
  have hR0 : Bx (w.alloc (.cells #[.int .i64 0, .string (⟨#[]⟩ : ByteArray), .int .i64 0, .int .i64 0, .int .i64 0] 25)) 25 w.heap.size (fuC 0 ⟨#[]⟩ 0 0 0) := Bx.new w (fuC 0 ⟨#[]⟩ 0 0 0) _
  have hP := Lib.hid (pick_any C m 12 _ (h.below hb0) (by omega) (by omega))
  have hb0 := Lib.hid (grownBy_of_below (r := some C) hb0)
  have hR0 := Lib.hid hR0
  clear h
  go_enter Tryz.func35, Tryz.ntmps35
  go_wp2_with fail
  refine hP.out.mono ?_
  rintro e w1 ⟨v, rfl, ⟨x, rfl, x0, x1⟩, hc, hg⟩
  have hR := Lib.hid (hR0.out.kept hg (by simp; omega))
  replace hc := Lib.hid hc
  replace hg := Lib.hid (grownBy_trans hb0.out hg)
  clear hP hR0 hb0
  have hA := of_lit C _ 8 ([⟨#[103, 114, 97, 115, 115]⟩, ⟨#[115, 104, 114, 117, 98]⟩, ⟨#[108, 105, 116, 116, 101, 114]⟩, ⟨#[115, 108, 97, 115, 104]⟩, ⟨#[116, 105, 109, 98, 101, 114]⟩, ⟨#[112, 101, 97, 116]⟩, ⟨#[104, 101, 97, 116, 104]⟩, ⟨#[97]⟩] : List ByteArray) _ rfl hc.out (by omega) (by omega) (by omega)
  simp only [List.map_cons, List.map_nil] at hA
  replace hA := Lib.hid hA
  go_wp2_with fail
  refine hA.out.mono ?_
  rintro e w2 ⟨y2, hy2, rfl, hc', hg'⟩
  replace hR := Lib.hid (hR.out.kept hg' (by simp; omega))
  replace hc := Lib.hid hc'
  replace hg := Lib.hid (grownBy_trans hg.out hg')
  clear hA hc' hg'
  have n2 : y2.size ≤ 20 := (show ∀ y ∈ ([⟨#[103, 114, 97, 115, 115]⟩, ⟨#[115, 104, 114, 117, 98]⟩, ⟨#[108, 105, 116, 116, 101, 114]⟩, ⟨#[115, 108, 97, 115, 104]⟩, ⟨#[116, 105, 109, 98, 101, 114]⟩, ⟨#[112, 101, 97, 116]⟩, ⟨#[104, 101, 97, 116, 104]⟩, ⟨#[97]⟩] : List ByteArray), y.size ≤ 20 by decide) y2 hy2
  clear hy2
  have hA := among_lit C _ 5 ([1, 30, 200, 300, 1000] : List Int) _ rfl hc.out (by omega) (by omega) (by omega)
  simp only [List.map_cons, List.map_nil] at hA
  replace hA := Lib.hid hA
  go_wp2_with fail
  refine hA.out.mono ?_
  rintro e w3 ⟨y3, hy3, rfl, hc', hg'⟩
  replace hR := Lib.hid (hR.out.kept hg' (by simp; omega))
  replace hc := Lib.hid hc'
  replace hg := Lib.hid (grownBy_trans hg.out hg')
  clear hA hc' hg'
  have n3 : -100000 ≤ y3 ∧ y3 ≤ 100000 := (show ∀ y ∈ ([1, 30, 200, 300, 1000] : List Int), -100000 ≤ y ∧ y ≤ 100000 by decide) y3 hy3
  clear hy3
  have hA := among_lit C _ 5 ([10, 150, 250, 300, 400] : List Int) _ rfl hc.out (by omega) (by omega) (by omega)
  simp only [List.map_cons, List.map_nil] at hA
  replace hA := Lib.hid hA
  go_wp2_with fail
  refine hA.out.mono ?_
  rintro e w4 ⟨y4, hy4, rfl, hc', hg'⟩
  replace hR := Lib.hid (hR.out.kept hg' (by simp; omega))
  replace hc := Lib.hid hc'
  replace hg := Lib.hid (grownBy_trans hg.out hg')
  clear hA hc' hg'
  have n4 : -100000 ≤ y4 ∧ y4 ≤ 100000 := (show ∀ y ∈ ([10, 150, 250, 300, 400] : List Int), -100000 ≤ y ∧ y ≤ 100000 by decide) y4 hy4
  clear hy4
  have hA := among_lit C _ 4 ([1, 5, 40, 500] : List Int) _ rfl hc.out (by omega) (by omega) (by omega)
  simp only [List.map_cons, List.map_nil] at hA
  replace hA := Lib.hid hA
  go_wp2_with fail
  refine hA.out.mono ?_
  rintro e w5 ⟨y5, hy5, rfl, hc', hg'⟩
  replace hR := Lib.hid (hR.out.kept hg' (by simp; omega))
  replace hc := Lib.hid hc'
  replace hg := Lib.hid (grownBy_trans hg.out hg')
  clear hA hc' hg'
  have n5 : -100000 ≤ y5 ∧ y5 ≤ 100000 := (show ∀ y ∈ ([1, 5, 40, 500] : List Int), -100000 ≤ y ∧ y ≤ 100000 by decide) y5 hy5
  clear hy5
  have hlt5 := hc.out.lt
  have hsz5 := hg.out.size
  have hRl := Lib.hid hR.out.lt
  have hT := Lib.hid (Bx.new w5 (fuC (1 + x) y2 y3 y4 y5) 25)
  have hb5 := grow_alloc w5 (.cells (fuC (1 + x) y2 y3 y4 y5).toArray 25)
  have hP := Lib.hid (pick_any C _ 60 _ (hc.out.below hb5) (by omega) (by omega))
  replace hR := Lib.hid (hR.out.below hb5)
  replace hg := Lib.hid (grownBy_trans hg.out (grownBy_of_below (r := some C) hb5))
  clear hb5 hc
  go_wp2_with fail
  refine hP.out.mono ?_
  rintro e w6 ⟨v, rfl, ⟨z, rfl, z0, z1⟩, hc', hg'⟩
  have hTC : w5.heap.size ≠ C := by omega
  have hRT : w.heap.size ≠ w5.heap.size := by have := hRl.out; omega
  replace hR := Lib.hid (hR.out.kept hg' (by simp; omega))
  replace hT := Lib.hid (hT.out.kept hg' (by simpa using hTC))
  have hc := Lib.hid hc'
  replace hg := Lib.hid (grownBy_trans hg.out hg')
  clear hP hc' hg' hRl
  generalize hB5 : w5.heap.size = T at *
  clear hB5
  rcases (show z = 0 ∨ z = 1 ∨ z = 2 ∨ z = 3 ∨ z = 4 ∨ 5 ≤ z by omega) with hz | hz | hz | hz | hz | hz
  · obtain rfl : z = 0 := by omega
    have hA := among_lit C _ 3 ([0, 99, 100] : List Int) _ rfl hc.out (by omega) (by omega) (by omega)
    simp only [List.map_cons, List.map_nil] at hA
    replace hA := Lib.hid hA
    go_wp2_with fail
    refine hA.out.mono ?_
    rintro e w7 ⟨y7, hy7, rfl, hc', hg'⟩
    replace hR := Lib.hid (hR.out.kept hg' (by simp; omega))
    replace hT := hT.out.kept hg' (by simpa using hTC)
    obtain ⟨⟨t0, t1, t2, t3, t4⟩, u0, u1, u2, u3, u4⟩ := fu_cells hT
    replace hT : Hid (Bx (w7.setCell ⟨T, 0, none⟩ (.int .i64 y7)) 25 T (fuC y7 y2 y3 y4 y5)) := hT.set 0 _
    replace hR := Lib.hid (hR.out.other hRT 0 (.int .i64 y7))
    replace hc := Lib.hid (hc'.other (B := T) (by omega) 0 (.int .i64 y7))
    replace hg := Lib.hid (grow_set (grownBy_trans hg.out hg') (B := T) (by omega) 0 (.int .i64 y7))
    clear hA hc' hg'
    have n7 : -100000 ≤ y7 ∧ y7 ≤ 100000 := (show ∀ y ∈ ([0, 99, 100] : List Int), -100000 ≤ y ∧ y ≤ 100000 by decide) y7 hy7
    obtain ⟨⟨p0, p1, p2, p3, p4⟩, _⟩ := fu_cells hT.out
    obtain ⟨⟨r0, r1, r2, r3, r4⟩, s0, s1, s2, s3, s4⟩ := fu_cells hR.out
    have hFS : FuS y7 y2 y3 y4 y5 := ⟨by omega, by omega, by omega, by omega, by omega⟩
    have hE := Lib.hid fun Wz hz => fuel_end (Wz := Wz) hT.out hR.out hc.out hg.out (Nat.le_refl w.heap.size) hlt hFS (m' := m + 20) (by omega) hz
    go_wp2
    generalize hWz : World.setCell _ ⟨w.heap.size, 4, none⟩ _ = Wz
    obtain ⟨⟨e0, e1, e2, e3, e4⟩, _, hcz, hgz⟩ := hE.out Wz hWz.symm
    clear hWz
    change bodyPost _ _ _ _ _ Wz
    exact bodyPost_ret (v := fuV y7 y2 y3 y4 y5) (by simp [results, Tryz.results35, go_sem, e0, e1, e2, e3, e4]) rfl ⟨_, _, _, _, _, rfl, hFS, hcz, hgz⟩
  · obtain rfl : z = 1 := by omega
    have hA := of_lit C _ 3 ([⟨#[]⟩, ⟨#[65]⟩, ⟨#[97, 98, 99, 100, 101, 102, 103, 104, 105, 106, 107]⟩] : List ByteArray) _ rfl hc.out (by omega) (by omega) (by omega)
    simp only [List.map_cons, List.map_nil] at hA
    replace hA := Lib.hid hA
    go_wp2_with fail
    refine hA.out.mono ?_
    rintro e w7 ⟨y7, hy7, rfl, hc', hg'⟩
    replace hR := Lib.hid (hR.out.kept hg' (by simp; omega))
    replace hT := hT.out.kept hg' (by simpa using hTC)
    obtain ⟨⟨t0, t1, t2, t3, t4⟩, u0, u1, u2, u3, u4⟩ := fu_cells hT
    replace hT : Hid (Bx (w7.setCell ⟨T, 1, none⟩ (.string y7)) 25 T (fuC (1 + x) y7 y3 y4 y5)) := hT.set 1 _
    replace hR := Lib.hid (hR.out.other hRT 1 (.string y7))
    replace hc := Lib.hid (hc'.other (B := T) (by omega) 1 (.string y7))
    replace hg := Lib.hid (grow_set (grownBy_trans hg.out hg') (B := T) (by omega) 1 (.string y7))
    clear hA hc' hg'
    have n7 : y7.size ≤ 20 := (show ∀ y ∈ ([⟨#[]⟩, ⟨#[65]⟩, ⟨#[97, 98, 99, 100, 101, 102, 103, 104, 105, 106, 107]⟩] : List ByteArray), y.size ≤ 20 by decide) y7 hy7
    obtain ⟨⟨p0, p1, p2, p3, p4⟩, _⟩ := fu_cells hT.out
    obtain ⟨⟨r0, r1, r2, r3, r4⟩, s0, s1, s2, s3, s4⟩ := fu_cells hR.out
    have hFS : FuS (1 + x) y7 y3 y4 y5 := ⟨by omega, by omega, by omega, by omega, by omega⟩
    have hE := Lib.hid fun Wz hz => fuel_end (Wz := Wz) hT.out hR.out hc.out hg.out (Nat.le_refl w.heap.size) hlt hFS (m' := m + 20) (by omega) hz
    go_wp2
    generalize hWz : World.setCell _ ⟨w.heap.size, 4, none⟩ _ = Wz
    obtain ⟨⟨e0, e1, e2, e3, e4⟩, _, hcz, hgz⟩ := hE.out Wz hWz.symm
    clear hWz
    change bodyPost _ _ _ _ _ Wz
    exact bodyPost_ret (v := fuV (1 + x) y7 y3 y4 y5) (by simp [results, Tryz.results35, go_sem, e0, e1, e2, e3, e4]) rfl ⟨_, _, _, _, _, rfl, hFS, hcz, hgz⟩
  · obtain rfl : z = 2 := by omega
    have hA := among_lit C _ 2 ([0, 1001] : List Int) _ rfl hc.out (by omega) (by omega) (by omega)
    simp only [List.map_cons, List.map_nil] at hA
    replace hA := Lib.hid hA
    go_wp2_with fail
    refine hA.out.mono ?_
    rintro e w7 ⟨y7, hy7, rfl, hc', hg'⟩
    replace hR := Lib.hid (hR.out.kept hg' (by simp; omega))
    replace hT := hT.out.kept hg' (by simpa using hTC)
    obtain ⟨⟨t0, t1, t2, t3, t4⟩, u0, u1, u2, u3, u4⟩ := fu_cells hT
    replace hT : Hid (Bx (w7.setCell ⟨T, 2, none⟩ (.int .i64 y7)) 25 T (fuC (1 + x) y2 y7 y4 y5)) := hT.set 2 _
    replace hR := Lib.hid (hR.out.other hRT 2 (.int .i64 y7))
    replace hc := Lib.hid (hc'.other (B := T) (by omega) 2 (.int .i64 y7))
    replace hg := Lib.hid (grow_set (grownBy_trans hg.out hg') (B := T) (by omega) 2 (.int .i64 y7))
    clear hA hc' hg'
    have n7 : -100000 ≤ y7 ∧ y7 ≤ 100000 := (show ∀ y ∈ ([0, 1001] : List Int), -100000 ≤ y ∧ y ≤ 100000 by decide) y7 hy7
    obtain ⟨⟨p0, p1, p2, p3, p4⟩, _⟩ := fu_cells hT.out
    obtain ⟨⟨r0, r1, r2, r3, r4⟩, s0, s1, s2, s3, s4⟩ := fu_cells hR.out
    have hFS : FuS (1 + x) y2 y7 y4 y5 := ⟨by omega, by omega, by omega, by omega, by omega⟩
    have hE := Lib.hid fun Wz hz => fuel_end (Wz := Wz) hT.out hR.out hc.out hg.out (Nat.le_refl w.heap.size) hlt hFS (m' := m + 20) (by omega) hz
    go_wp2
    generalize hWz : World.setCell _ ⟨w.heap.size, 4, none⟩ _ = Wz
    obtain ⟨⟨e0, e1, e2, e3, e4⟩, _, hcz, hgz⟩ := hE.out Wz hWz.symm
    clear hWz
    change bodyPost _ _ _ _ _ Wz
    exact bodyPost_ret (v := fuV (1 + x) y2 y7 y4 y5) (by simp [results, Tryz.results35, go_sem, e0, e1, e2, e3, e4]) rfl ⟨_, _, _, _, _, rfl, hFS, hcz, hgz⟩
  · obtain rfl : z = 3 := by omega
    have hA := among_lit C _ 2 ([9, 401] : List Int) _ rfl hc.out (by omega) (by omega) (by omega)
    simp only [List.map_cons, List.map_nil] at hA
    replace hA := Lib.hid hA
    go_wp2_with fail
    refine hA.out.mono ?_
    rintro e w7 ⟨y7, hy7, rfl, hc', hg'⟩
    replace hR := Lib.hid (hR.out.kept hg' (by simp; omega))
    replace hT := hT.out.kept hg' (by simpa using hTC)
    obtain ⟨⟨t0, t1, t2, t3, t4⟩, u0, u1, u2, u3, u4⟩ := fu_cells hT
    replace hT : Hid (Bx (w7.setCell ⟨T, 3, none⟩ (.int .i64 y7)) 25 T (fuC (1 + x) y2 y3 y7 y5)) := hT.set 3 _
    replace hR := Lib.hid (hR.out.other hRT 3 (.int .i64 y7))
    replace hc := Lib.hid (hc'.other (B := T) (by omega) 3 (.int .i64 y7))
    replace hg := Lib.hid (grow_set (grownBy_trans hg.out hg') (B := T) (by omega) 3 (.int .i64 y7))
    clear hA hc' hg'
    have n7 : -100000 ≤ y7 ∧ y7 ≤ 100000 := (show ∀ y ∈ ([9, 401] : List Int), -100000 ≤ y ∧ y ≤ 100000 by decide) y7 hy7
    obtain ⟨⟨p0, p1, p2, p3, p4⟩, _⟩ := fu_cells hT.out
    obtain ⟨⟨r0, r1, r2, r3, r4⟩, s0, s1, s2, s3, s4⟩ := fu_cells hR.out
    have hFS : FuS (1 + x) y2 y3 y7 y5 := ⟨by omega, by omega, by omega, by omega, by omega⟩
    have hE := Lib.hid fun Wz hz => fuel_end (Wz := Wz) hT.out hR.out hc.out hg.out (Nat.le_refl w.heap.size) hlt hFS (m' := m + 20) (by omega) hz
    go_wp2
    generalize hWz : World.setCell _ ⟨w.heap.size, 4, none⟩ _ = Wz
    obtain ⟨⟨e0, e1, e2, e3, e4⟩, _, hcz, hgz⟩ := hE.out Wz hWz.symm
    clear hWz
    change bodyPost _ _ _ _ _ Wz
    exact bodyPost_ret (v := fuV (1 + x) y2 y3 y7 y5) (by simp [results, Tryz.results35, go_sem, e0, e1, e2, e3, e4]) rfl ⟨_, _, _, _, _, rfl, hFS, hcz, hgz⟩
  · obtain rfl : z = 4 := by omega
    have hA := among_lit C _ 2 ([0, 501] : List Int) _ rfl hc.out (by omega) (by omega) (by omega)
    simp only [List.map_cons, List.map_nil] at hA
    replace hA := Lib.hid hA
    go_wp2_with fail
    refine hA.out.mono ?_
    rintro e w7 ⟨y7, hy7, rfl, hc', hg'⟩
    replace hR := Lib.hid (hR.out.kept hg' (by simp; omega))
    replace hT := hT.out.kept hg' (by simpa using hTC)
    obtain ⟨⟨t0, t1, t2, t3, t4⟩, u0, u1, u2, u3, u4⟩ := fu_cells hT
    replace hT : Hid (Bx (w7.setCell ⟨T, 4, none⟩ (.int .i64 y7)) 25 T (fuC (1 + x) y2 y3 y4 y7)) := hT.set 4 _
    replace hR := Lib.hid (hR.out.other hRT 4 (.int .i64 y7))
    replace hc := Lib.hid (hc'.other (B := T) (by omega) 4 (.int .i64 y7))
    replace hg := Lib.hid (grow_set (grownBy_trans hg.out hg') (B := T) (by omega) 4 (.int .i64 y7))
    clear hA hc' hg'
    have n7 : -100000 ≤ y7 ∧ y7 ≤ 100000 := (show ∀ y ∈ ([0, 501] : List Int), -100000 ≤ y ∧ y ≤ 100000 by decide) y7 hy7
    obtain ⟨⟨p0, p1, p2, p3, p4⟩, _⟩ := fu_cells hT.out
    obtain ⟨⟨r0, r1, r2, r3, r4⟩, s0, s1, s2, s3, s4⟩ := fu_cells hR.out
    have hFS : FuS (1 + x) y2 y3 y4 y7 := ⟨by omega, by omega, by omega, by omega, by omega⟩
    have hE := Lib.hid fun Wz hz => fuel_end (Wz := Wz) hT.out hR.out hc.out hg.out (Nat.le_refl w.heap.size) hlt hFS (m' := m + 20) (by omega) hz
    go_wp2
    generalize hWz : World.setCell _ ⟨w.heap.size, 4, none⟩ _ = Wz
    obtain ⟨⟨e0, e1, e2, e3, e4⟩, _, hcz, hgz⟩ := hE.out Wz hWz.symm
    clear hWz
    change bodyPost _ _ _ _ _ Wz
    exact bodyPost_ret (v := fuV (1 + x) y2 y3 y4 y7) (by simp [results, Tryz.results35, go_sem, e0, e1, e2, e3, e4]) rfl ⟨_, _, _, _, _, rfl, hFS, hcz, hgz⟩
  · obtain ⟨⟨p0, p1, p2, p3, p4⟩, _⟩ := fu_cells hT.out
    obtain ⟨⟨r0, r1, r2, r3, r4⟩, s0, s1, s2, s3, s4⟩ := fu_cells hR.out
    have hFS : FuS (1 + x) y2 y3 y4 y5 := ⟨by omega, by omega, by omega, by omega, by omega⟩
    have hE := Lib.hid fun Wz hz => fuel_end (Wz := Wz) hT.out hR.out hc.out hg.out (Nat.le_refl w.heap.size) hlt hFS (m' := m + 20) (by omega) hz
    go_wp2
    generalize hWz : World.setCell _ ⟨w.heap.size, 4, none⟩ _ = Wz
    obtain ⟨⟨e0, e1, e2, e3, e4⟩, _, hcz, hgz⟩ := hE.out Wz hWz.symm
    clear hWz
    change bodyPost _ _ _ _ _ Wz
    exact bodyPost_ret (v := fuV (1 + x) y2 y3 y4 y5) (by simp [results, Tryz.results35, go_sem, e0, e1, e2, e3, e4]) rfl ⟨_, _, _, _, _, rfl, hFS, hcz, hgz⟩
end Go.Proofs.YtnadeddkogapoaaGreatDoor
