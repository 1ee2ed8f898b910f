/- Boxes beside the reader; a choice among numbers or texts that are written out. Conditions: as each states. -/
import Derived.Test.YtnadeddkogapoaaGreatDoorCur
namespace Go.Proofs.YtnadeddkogapoaaGreatDoor
open Go.ChangeShapes Go.WideShapes Go.ChangeAt Go.RowKit Go.Deep
set_option linter.unusedVariables false
set_option linter.unusedSimpArgs false
set_option maxRecDepth 100000

/-- A box of cells. -/
def Bx (w : World) (t : TypeId) (B : Nat) (vs : List Value) : Prop := w.ownsRow 0 t vs.length (.slice (some ⟨B, 0, none⟩) 1 1) 1 vs
section
variable {w w' : World} {t : TypeId} {B : Nat} {vs : List Value}
theorem Bx.cell (h : Bx w t B vs) (j : Nat) {u : Value} (hu : vs[j]? = some u) : w.cell? ⟨B, j, none⟩ = some u := by
  have hj := (List.getElem?_eq_some_iff.1 hu).1
  rw [World.ownsRow.cellAt h j (by simpa using hj), hu]
theorem Bx.fz (h : Bx w t B vs) (j : Nat) : w.frozen? ⟨B, j, none⟩ = false := World.ownsRow.frozenAt h j
theorem Bx.set (h : Bx w t B vs) (j : Nat) (u : Value) : Bx (w.setCell ⟨B, j, none⟩ u) t B (vs.set j u) := by
  have := (World.ownsRow.stored h j u).1
  unfold Bx
  rw [List.length_set]
  exact this
theorem Bx.new (w : World) (vs : List Value) (t : TypeId) : Bx (w.alloc (.cells vs.toArray t)) t w.heap.size vs := by
  have := World.ownsRow_lit (base := 0) (e := t) (size := vs.length) w vs.toArray 1 (Nat.zero_le _) (by unfold maxLen; omega) (by simp)
  simpa [Bx] using this
theorem Bx.kept {row : Option Nat} (h : Bx w t B vs) (hg : w.grownBy w' row) (hne : some B ≠ row) : Bx w' t B vs := own_kept h hg fun j hj => by
  simp [Value.ownBlock] at hj
  subst hj
  exact hne
theorem Bx.below (h : Bx w t B vs) (hb : Below w.heap.size w w') : Bx w' t B vs := own_below h hb
theorem Bx.lt (h : Bx w t B vs) : B < w.heap.size := (World.ownsRow.lt h B rfl).2
theorem Bx.other (h : Bx w t B vs) {B' : Nat} (hne : B ≠ B') (j : Nat) (u : Value) : Bx (w.setCell ⟨B', j, none⟩ u) t B vs :=
  h.kept (row := some B') ⟨rfl, rfl, rfl, by simp, fun k _ hk => heap_setCell_other w ⟨B', j, none⟩ k u (fun e => hk (by simp [e]))⟩ (by simpa using hne)
end
theorem Cur.other {w : World} {C m B : Nat} (h : Cur w C m) (hB : C < B) (j : Nat) (u : Value) : Cur (w.setCell ⟨B, j, none⟩ u) C m :=
  h.kept (row := some B) ⟨rfl, rfl, rfl, by simp, fun k _ hk => heap_setCell_other w ⟨B, j, none⟩ k u (fun e => hk (by simp [e]))⟩ (fun j hj => by cases hj; exact hB)
theorem grow_set {w W : World} {row : Option Nat} {B : Nat} (h : w.grownBy W row) (hB : w.heap.size ≤ B) (j : Nat) (u : Value) : w.grownBy (W.setCell ⟨B, j, none⟩ u) row :=
  ⟨h.os, h.tape, h.output, by have := h.size; simpa using this, fun k hk hr => by rw [heap_setCell_other W ⟨B, j, none⟩ k u (fun e => by simp at e; omega)]; exact h.block k hk hr⟩
theorem grow_new {w W : World} {row : Option Nat} (h : w.grownBy W row) (o : Obj) : w.grownBy (W.alloc o) row := grownBy_trans h (grownBy_of_below (grow_alloc W o))
theorem lit_sl (w : World) (vs : List Value) (t : TypeId) (hn : vs.length ≤ 1000) : Sl (w.alloc (.cells vs.toArray t)) 1 (.slice (some ⟨w.heap.size, 0, none⟩) vs.length vs.length) vs.length vs :=
  Sl.of_own (base := 0) (by
    have := World.ownsRow_lit (base := 0) (e := t) (size := 1) w vs.toArray vs.length (Nat.zero_le _) (by unfold maxLen; omega) (by simp)
    simpa using this)
theorem among_lit (C m N : Nat) (zs : List Int) (w : World) (hN : zs.length = N) (h : Cur w C m) (hm : m ≤ 1099511627770) (h0 : 0 < N) (h1 : N ≤ 1000) :
    Calls Tryz.prog 69 #[.pointer (some ⟨C, 0, none⟩), .slice (some ⟨w.heap.size, 0, none⟩) N N] (w.alloc (.cells (zs.map (Value.int .i64)).toArray 3))
      fun e w' => ∃ x ∈ zs, e = .returned (Value.int .i64 x) ∧ Cur w' C (m + 2) ∧ w.grownBy w' (some C) := by
  subst hN
  have hb := grow_alloc w (.cells (zs.map (Value.int .i64)).toArray 3)
  have hs := lit_sl w (zs.map (Value.int .i64)) 3 (by simpa using h1)
  simp only [List.length_map] at hs
  have hlt := h.lt
  refine (among_any C m _ zs _ (h.below hb) hm hs h0 (by omega) (by intro e; simp [Value.ownBlock] at e; omega)).mono ?_
  rintro e w' ⟨v, rfl, ⟨x, hx, rfl⟩, hc, hg⟩
  exact ⟨x, hx, rfl, hc, grownBy_trans (grownBy_of_below hb) hg⟩
theorem among_held (w : World) (C N : Nat) (zs : List Int) (hN : zs.length = N) (h1 : N ≤ 1000) (hne : w.heap.size ≠ C) (w1 : World) (hg : (w.alloc (.cells (zs.map (Value.int .i64)).toArray 3)).grownBy w1 (some C)) : Sl w1 1 (.slice (some ⟨w.heap.size, 0, none⟩) N N) N (zs.map (Value.int .i64)) := by
  subst hN
  have hs := lit_sl w (zs.map (Value.int .i64)) 3 (by simpa using h1)
  simp only [List.length_map] at hs
  exact hs.kept hg (.inr (by simp [Value.ownBlock]; omega))
theorem among_cut (C m B k N : Nat) (zs : List Int) (w : World) (hN : zs.length = N) (h : Cur w C m) (hm : m ≤ 1099511627770) (hs : Sl w 1 (.slice (some ⟨B, 0, none⟩) N N) N (zs.map (Value.int .i64))) (hB : B ≠ C) (hk : 0 < k ∧ k ≤ N) (h1 : N ≤ 1000) :
    Calls Tryz.prog 69 #[.pointer (some ⟨C, 0, none⟩), .slice (some ⟨B, 0, none⟩) k N] w
      fun e w' => ∃ x ∈ zs, e = .returned (Value.int .i64 x) ∧ Cur w' C (m + 2) ∧ w.grownBy w' (some C) := by
  subst hN
  have hl : (zs.take k).length = k := by rw [List.length_take]; omega
  have hs' := hs.cut hk.2
  rw [← List.map_take] at hs'
  have := among_any C m (.slice (some ⟨B, 0, none⟩) k zs.length) (zs.take k) w h hm (by rw [hl]; exact hs') (by omega) (by omega) (by intro e; simp [Value.ownBlock] at e; omega)
  refine this.mono ?_
  rintro e w' ⟨v, rfl, ⟨x, hx, rfl⟩, hc, hg⟩
  exact ⟨x, List.mem_of_mem_take hx, rfl, hc, hg⟩
theorem of_lit (C m N : Nat) (zs : List ByteArray) (w : World) (hN : zs.length = N) (h : Cur w C m) (hm : m ≤ 1099511627770) (h0 : 0 < N) (h1 : N ≤ 1000) :
    Calls Tryz.prog 68 #[.pointer (some ⟨C, 0, none⟩), .slice (some ⟨w.heap.size, 0, none⟩) N N] (w.alloc (.cells (zs.map (Value.string)).toArray 9))
      fun e w' => ∃ x ∈ zs, e = .returned (Value.string x) ∧ Cur w' C (m + 2) ∧ w.grownBy w' (some C) := by
  subst hN
  have hb := grow_alloc w (.cells (zs.map (Value.string)).toArray 9)
  have hs := lit_sl w (zs.map (Value.string)) 9 (by simpa using h1)
  simp only [List.length_map] at hs
  have hlt := h.lt
  refine (of_any C m _ zs _ (h.below hb) hm hs h0 (by omega) (by intro e; simp [Value.ownBlock] at e; omega)).mono ?_
  rintro e w' ⟨v, rfl, ⟨x, hx, rfl⟩, hc, hg⟩
  exact ⟨x, hx, rfl, hc, grownBy_trans (grownBy_of_below hb) hg⟩
theorem of_held (w : World) (C N : Nat) (zs : List ByteArray) (hN : zs.length = N) (h1 : N ≤ 1000) (hne : w.heap.size ≠ C) (w1 : World) (hg : (w.alloc (.cells (zs.map (Value.string)).toArray 9)).grownBy w1 (some C)) : Sl w1 1 (.slice (some ⟨w.heap.size, 0, none⟩) N N) N (zs.map (Value.string)) := by
  subst hN
  have hs := lit_sl w (zs.map (Value.string)) 9 (by simpa using h1)
  simp only [List.length_map] at hs
  exact hs.kept hg (.inr (by simp [Value.ownBlock]; omega))
theorem of_cut (C m B k N : Nat) (zs : List ByteArray) (w : World) (hN : zs.length = N) (h : Cur w C m) (hm : m ≤ 1099511627770) (hs : Sl w 1 (.slice (some ⟨B, 0, none⟩) N N) N (zs.map (Value.string))) (hB : B ≠ C) (hk : 0 < k ∧ k ≤ N) (h1 : N ≤ 1000) :
    Calls Tryz.prog 68 #[.pointer (some ⟨C, 0, none⟩), .slice (some ⟨B, 0, none⟩) k N] w
      fun e w' => ∃ x ∈ zs, e = .returned (Value.string x) ∧ Cur w' C (m + 2) ∧ w.grownBy w' (some C) := by
  subst hN
  have hl : (zs.take k).length = k := by rw [List.length_take]; omega
  have hs' := hs.cut hk.2
  rw [← List.map_take] at hs'
  have := of_any C m (.slice (some ⟨B, 0, none⟩) k zs.length) (zs.take k) w h hm (by rw [hl]; exact hs') (by omega) (by omega) (by intro e; simp [Value.ownBlock] at e; omega)
  refine this.mono ?_
  rintro e w' ⟨v, rfl, ⟨x, hx, rfl⟩, hc, hg⟩
  exact ⟨x, List.mem_of_mem_take hx, rfl, hc, hg⟩
end Go.Proofs.YtnadeddkogapoaaGreatDoor
