/- The fuel with the greatest speed, in the program. Conditions: as each states. -/
import Derived.Test.YtnadeddkogapoaaGreatDoorFast
import Derived.Test.YtnadeddkogapoaaGreatDoorLow
namespace Go.Proofs.YtnadeddkogapoaaGreatDoor
open Go.ChangeShapes Go.WideShapes Go.ChangeAt Go.RowKit Go.Deep
set_option linter.unusedVariables false
set_option linter.unusedSimpArgs false
set_option maxRecDepth 100000

/-- How two numbers compare. -/
def cmpN (a b : Int) : Int := if a < b then -1 else if b < a then 1 else 0
theorem cmp_any (a b : Int) (w : World) :
    Calls Tryz.prog 57 #[.int .i64 a, .int .i64 b] w fun e w' => e = .returned (.int .i64 (cmpN a b)) ∧ w = w' := by
  go_enter Tryz.func57, Tryz.ntmps57
  by_cases h1 : a < b
  · have e : cmpN a b = -1 := by simp [cmpN, h1]
    rw [e]
    go_wp2
    go_ret
    exact ⟨rfl, rfl⟩
  · by_cases h2 : b < a
    · have e : cmpN a b = 1 := by simp [cmpN, h1, h2]
      rw [e]
      go_wp2
      go_ret
      exact ⟨rfl, rfl⟩
    · have e : cmpN a b = 0 := by simp [cmpN, h1, h2]
      rw [e]
      go_wp2
      go_ret
      exact ⟨rfl, rfl⟩
theorem cmpN_pos {a b : Int} : 0 < cmpN a b ↔ b < a := by unfold cmpN; split <;> (try split) <;> omega
theorem callFunc_fst1 : ∀ args w, (callFunc 56 args).run Tryz.prog w = .ok (.enter 56 args) w := fun _ _ => by rfl
set_option maxHeartbeats 2000000 in
theorem fst1_any (i : Int) (n : ByteArray) (r l o i' : Int) (n' : ByteArray) (r' l' o' m : Int) (C : Nat) (w : World) (hc : w.cell? ⟨C, 0, none⟩ = some (.int .i64 m)) (hr : 1 ≤ r ∧ r ≤ 1000) (hl : 10 ≤ l ∧ l ≤ 400) (hr' : 1 ≤ r' ∧ r' ≤ 1000) (hl' : 10 ≤ l' ∧ l' ≤ 400) (m1 : 0 ≤ m) (m2 : m ≤ 400) :
    Calls Tryz.prog 56 #[fuV i n r l o, fuV i' n' r' l' o', .pointer (some ⟨C, 0, none⟩)] w fun e w' => e = .returned (.int .i64 (cmpN (speedN r l m 0) (speedN r' l' m 0))) ∧ Below w.heap.size w w' := by
  have hC := World.block_lt_of_cell? w _ hc
  simp at hC
  have hC2 : C < w.heap.size + 1 + 1 := by omega
  have hC3 : ¬ C = w.heap.size := by omega
  have hC4 : ¬ C = w.heap.size + 1 := by omega
  obtain ⟨r1, r2⟩ := hr
  obtain ⟨l1, l2⟩ := hl
  obtain ⟨r1', r2'⟩ := hr'
  obtain ⟨l1', l2'⟩ := hl'
  have z1 : (-45 : Int) ≤ 0 := by omega
  have z2 : (0 : Int) ≤ 45 := by omega
  have h3 : Hid (∀ W, Calls Tryz.prog 57 #[.int .i64 (speedN r l m 0), .int .i64 (speedN r' l' m 0)] W fun e w' => e = .returned (.int .i64 (cmpN (speedN r l m 0) (speedN r' l' m 0))) ∧ Below W.heap.size W w') := by
    show ∀ W, _
    intro W
    refine (cmp_any _ _ W).mono ?_
    rintro e w' ⟨rfl, rfl⟩
    exact ⟨rfl, Below.refl _ _⟩
  have hq := fun n1 : Later ((w.alloc (.cells #[.int .i64 i, .string n, .int .i64 r, .int .i64 l, .int .i64 o] 25)).alloc (.cells #[.int .i64 i', .string n', .int .i64 r', .int .i64 l', .int .i64 o'] 25)) => n1.cell
  go_enter Tryz.func56, Tryz.ntmps56
  go_wp2_with fail
  refine wp_region_later (by kernel_rfl) (by kernel_rfl) ?_
  repeat (go_big_quiet_step ((first | (go_at_call 49; exact later_of (speed_any _ _ _ _ _ _ _ _ (by assumption) (by assumption) (by assumption) (by assumption) m1 m2 z1 z2)) | (go_at_call 57; exact later_of (h3.out _)))))
  refine wpQuiet_nil ?_
  rintro _ ⟨wq, rfl⟩
  go_wp2
  go_ret
  exact ⟨rfl, grow_trans (grow_trans (grow_alloc _ _) (grow_alloc _ _)) wq.h⟩
/-- The memory of a search for the greatest: two boxes for fuels. -/
structure Mx (w wr : World) (p q : Fu) : Prop where
  hb : Below w.heap.size w wr
  h4 : wr.ownsRow w.heap.size 25 5 (.slice (some ⟨w.heap.size, 0, none⟩) 1 1) 1 (encU p)
  h5 : wr.ownsRow w.heap.size 25 5 (.slice (some ⟨w.heap.size + 1, 0, none⟩) 1 1) 1 (encU q)
theorem Mx.below {w wr w' : World} {p q : Fu} (h : Mx w wr p q) (hb : Below wr.heap.size wr w') : Mx w w' p q := ⟨grow_trans h.hb hb, own_below h.h4 hb, own_below h.h5 hb⟩
/-- A world with five cells stored. -/
def put5 (w : World) (B : Nat) (i : Int) (n : ByteArray) (r l o : Int) : World := ((((w.setCell ⟨B, 0, none⟩ (.int .i64 i)).setCell ⟨B, 1, none⟩ (.string n)).setCell ⟨B, 2, none⟩ (.int .i64 r)).setCell ⟨B, 3, none⟩ (.int .i64 l)).setCell ⟨B, 4, none⟩ (.int .i64 o)
theorem own_put5 {w : World} {base B : Nat} {p : Fu} {i : Int} {n : ByteArray} {r l o : Int} (h : w.ownsRow base 25 5 (.slice (some ⟨B, 0, none⟩) 1 1) 1 (encU p)) :
    (put5 w B i n r l o).ownsRow base 25 5 (.slice (some ⟨B, 0, none⟩) 1 1) 1 (encU ⟨i, n, r, l, o⟩) ∧ w.grownBy (put5 w B i n r l o) (some B) := by
  have s1 := h.stored 0 (.int .i64 i)
  have s2 := s1.1.stored 1 (.string n)
  have s3 := s2.1.stored 2 (.int .i64 r)
  have s4 := s3.1.stored 3 (.int .i64 l)
  have s5 := s4.1.stored 4 (.int .i64 o)
  exact ⟨s5.1, grownBy_trans (grownBy_trans (grownBy_trans (grownBy_trans s1.2 s2.2) s3.2) s4.2) s5.2⟩
theorem own_cells5 {w : World} {base B : Nat} {i : Int} {n : ByteArray} {r l o : Int} (h : w.ownsRow base 25 5 (.slice (some ⟨B, 0, none⟩) 1 1) 1 (encU ⟨i, n, r, l, o⟩)) :
    (w.cell? ⟨B, 0, none⟩ = some (.int .i64 i) ∧ w.cell? ⟨B, 1, none⟩ = some (.string n) ∧ w.cell? ⟨B, 2, none⟩ = some (.int .i64 r) ∧ w.cell? ⟨B, 3, none⟩ = some (.int .i64 l) ∧ w.cell? ⟨B, 4, none⟩ = some (.int .i64 o)) ∧ ∀ j, w.frozen? ⟨B, j, none⟩ = false :=
  ⟨⟨h.cellAt 0 (by omega), h.cellAt 1 (by omega), h.cellAt 2 (by omega), h.cellAt 3 (by omega), h.cellAt 4 (by omega)⟩, h.frozenAt⟩
theorem Mx.put5 {w wr : World} {p q : Fu} {i : Int} {n : ByteArray} {r l o : Int} (h : Mx w wr p q) : Mx w (put5 wr (w.heap.size + 1) i n r l o) p ⟨i, n, r, l, o⟩ := by
  obtain ⟨h1, h2⟩ := own_put5 (i := i) (n := n) (r := r) (l := l) (o := o) h.h5
  exact ⟨h.hb.grown h2 h.hb.size (fun j hj => by cases hj; omega), own_kept h.h4 h2 (fun j hj e => by simp [Value.ownBlock] at hj; have := Option.some.inj e; omega), h1⟩
set_option maxHeartbeats 8000000 in
theorem MaxFunc_any (v : Value) (ps : List Fu) (g : Nat) (lb : Array Value) (f : Nat → Int) (w : World) (hs : Sl w 5 v ps.length (fus ps)) (hN0 : 0 < ps.length)
    (eg : ∀ args w, (callFunc g args).run Tryz.prog w = .ok (.enter g args) w)
    (hp : ∀ (W : World) (j k : Nat) (i : Int) (n : ByteArray) (r l o i' : Int) (n' : ByteArray) (r' l' o' : Int), ps[j]? = some ⟨i, n, r, l, o⟩ → ps[k]? = some ⟨i', n', r', l', o'⟩ → Below w.heap.size w W → Calls Tryz.prog g (#[fuV i n r l o, fuV i' n' r' l' o'] ++ lb) W fun e w' => e = .returned (.int .i64 (cmpN (f j) (f k))) ∧ Below W.heap.size W w') :
    Calls Tryz.prog 55 #[v, .func (.func g) #[] lb] w fun e w' => (∃ i n r l o, ps[bst f ps.length]? = some ⟨i, n, r, l, o⟩ ∧ e = .returned (fuV i n r l o)) ∧ Below w.heap.size w w' := by
  have hmx := hs.len
  unfold maxLen at hmx
  have Hp := Lib.hid hp
  obtain ⟨A, c, rfl⟩ := hs.val
  generalize hN : ps.length = N at *
  have HN := Lib.hid hN
  have Hs := Lib.hid hs
  clear hN hs hp
  have hb4 : Hid (Below w.heap.size w (w.alloc (.cells #[.int .i64 0, .string (⟨#[]⟩ : ByteArray), .int .i64 0, .int .i64 0, .int .i64 0] 25))) := grow_alloc _ _
  obtain ⟨b, off, i, n, r, l, o, rfl, hx, c0, c1, c2, c3, c4⟩ := (Hs.out.below hb4.out).fu HN.out hN0
  simp only [Nat.zero_mul, Nat.add_zero] at c0 c1 c2 c3 c4
  have hM0 : Hid (Mx w ((w.alloc (.cells #[.int .i64 0, .string (⟨#[]⟩ : ByteArray), .int .i64 0, .int .i64 0, .int .i64 0] 25)).alloc (.cells #[.int .i64 i, .string n, .int .i64 r, .int .i64 l, .int .i64 o] 25)) ⟨0, (⟨#[]⟩ : ByteArray), 0, 0, 0⟩ ⟨i, n, r, l, o⟩) :=
    ⟨grow_trans (grow_alloc _ _) (grow_alloc _ _), own_below (World.ownsRow_lit (base := w.heap.size) (e := 25) (size := 5) w #[.int .i64 0, .string (⟨#[]⟩ : ByteArray), .int .i64 0, .int .i64 0, .int .i64 0] 1 (Nat.le_refl _) (by unfold maxLen; omega) (by rfl)) (grow_alloc _ _), by
      have := World.ownsRow_lit (base := w.heap.size) (e := 25) (size := 5) (w.alloc (.cells #[.int .i64 0, .string (⟨#[]⟩ : ByteArray), .int .i64 0, .int .i64 0, .int .i64 0] 25)) #[.int .i64 i, .string n, .int .i64 r, .int .i64 l, .int .i64 o] 1 (by simp) (by unfold maxLen; omega) (by rfl)
      simpa [encU] using this⟩
  have hx1 : Hid (ps[bst f 1]? = some ⟨i, n, r, l, o⟩) := by show _ = _; rw [bst_one]; exact hx
  clear hx
  have hN1 : ¬ (N : Int) < 1 := by omega
  have hN2 : (0 : Int) < (N : Int) := by omega
  go_enter Tryz.func55, Tryz.ntmps55
  go_wp2
  go_loopw [6] (fun q wr => ∃ k : Nat, k ≤ N ∧ 1 ≤ k ∧ q = .int .i64 k ∧ ∃ i n r l o, Hid (ps[bst f k]? = some ⟨i, n, r, l, o⟩) ∧ Hid (Mx w wr ⟨0, (⟨#[]⟩ : ByteArray), 0, 0, 0⟩ ⟨i, n, r, l, o⟩)) (fun q _ => N - (intOf q).toNat)
  case atStart => exact ⟨1, hN0, Nat.le_refl _, rfl, i, n, r, l, o, hx1.out, hM0.out⟩
  case round =>
    clear c0 c1 c2 c3 c4 hM0 hx1
    obtain ⟨k, hk, hk1, rfl, i, n, r, l, o, hx, hM⟩ := hrel
    by_cases hlt : k < N
    · obtain ⟨b', off', i', n', r', l', o', hA', hx', c0, c1, c2, c3, c4⟩ := (Hs.out.below hM.out.hb).fu HN.out hlt
      obtain ⟨rfl, rfl⟩ : b = b' ∧ off = off' := by simpa using hA'
      obtain ⟨⟨d0, d1, d2, d3, d4⟩, fz⟩ := own_cells5 hM.out.h5
      have hMd := Lib.hid (hM.out.below (grow_drew wr))
      have HC := Lib.hid (Hp.out wr.drew k (bst f k) i' n' r' l' o' i n r l o hx' hx.out hMd.out.hb)
      have Hx' := Lib.hid hx'
      have hkz : (k : Int) < (N : Int) := by omega
      clear hA' hx' fz
      go_wp2_with fail
      go_still_tail 6, (by kernel_rfl)
      change wpList _ _ _ _ _ wr.drew
      generalize wr.drew = wd at *
      clear d0 d1 d2 d3 d4
      go_wp2_with fail
      refine HC.out.mono ?_
      rintro e w2 ⟨rfl, hb2⟩
      have hM2 := Lib.hid (hMd.out.below hb2)
      obtain ⟨b3, off3, i3, n3, r3, l3, o3, hA3, hx3, c0, c1, c2, c3, c4⟩ := (Hs.out.below hM2.out.hb).fu HN.out hlt
      obtain ⟨rfl, rfl⟩ : b = b3 ∧ off = off3 := by simpa using hA3
      obtain ⟨rfl, rfl, rfl, rfl, rfl⟩ : i' = i3 ∧ n' = n3 ∧ r' = r3 ∧ l' = l3 ∧ o' = o3 := by have := Hx'.out; rw [hx3] at this; simpa [eq_comm] using this
      obtain ⟨⟨d0, d1, d2, d3, d4⟩, fz⟩ := own_cells5 hM2.out.h5
      have f0 := fz 0
      have f1 := fz 1
      have f2 := fz 2
      have f3 := fz 3
      have f4 := fz 4
      have hcp := Lib.hid (cmpN_pos (a := f k) (b := f (bst f k)))
      have hby := Lib.hid (bst_yes (f := f) (k := k))
      have hbn := Lib.hid (bst_no (f := f) (k := k))
      clear hA3 hx3 fz hMd HC
      generalize cmpN (f k) (f (bst f k)) = cc at *
      by_cases hq : 0 < cc
      · have e1 := Lib.hid (hby.out (hcp.out.1 hq))
        have hM3 := Lib.hid (Mx.put5 (i := i') (n := n') (r := r') (l := l') (o := o') hM2.out)
        clear hcp hby hbn hM2
        go_wp2
        go_roundw
        case rel => exact ⟨k + 1, by omega, by omega, by go_num, i', n', r', l', o', by show _ = _; rw [e1.out]; exact Hx'.out, hM3.out⟩
        case measure => simp [intOf]; omega
      · have e1 := Lib.hid (hbn.out (fun h => hq (hcp.out.2 h)))
        clear hcp hby hbn
        go_wp2
        go_roundw
        case rel => exact ⟨k + 1, by omega, by omega, by go_num, i, n, r, l, o, by show _ = _; rw [e1.out]; exact hx.out, hM2.out⟩
        case measure => simp [intOf]; omega
    · obtain rfl : k = N := by omega
      obtain ⟨⟨d0, d1, d2, d3, d4⟩, fz⟩ := own_cells5 hM.out.h5
      obtain ⟨⟨e0, e1, e2, e3, e4⟩, fy⟩ := own_cells5 hM.out.h4
      have f0 := fy 0
      have f1 := fy 1
      have f2 := fy 2
      have f3 := fy 3
      have f4 := fy 4
      have ho := own_put5 (i := i) (n := n) (r := r) (l := l) (o := o) hM.out.h4
      have hb9 := Lib.hid (hM.out.hb.grown ho.2 hM.out.hb.size (fun j hj => by cases hj; exact Nat.le_refl _))
      obtain ⟨⟨g0, g1, g2, g3, g4⟩, _⟩ := own_cells5 ho.1
      unfold put5 at g0 g1 g2 g3 g4 hb9
      clear ho fz fy hM
      go_wp2
      exact bodyPost_ret (v := fuV i n r l o) (by simp [results, Tryz.results55, go_sem, g0, g1, g2, g3, g4]) rfl ⟨⟨i, n, r, l, o, hx.out, rfl⟩, hb9.out⟩
end Go.Proofs.YtnadeddkogapoaaGreatDoor
