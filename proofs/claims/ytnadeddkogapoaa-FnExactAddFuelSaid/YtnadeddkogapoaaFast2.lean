/- The fuel with the greatest speed, in the program. Conditions: as each states. -/
import Derived.Test.YtnadeddkogapoaaFast
import Derived.Test.YtnadeddkogapoaaSel
namespace Go.Proofs.Ytnadeddkogapoaa
open Go.ChangeShapes Go.WideShapes Go.ChangeAt Go.RowKit Go.Deep
set_option linter.unusedVariables false
set_option linter.unusedSimpArgs false
set_option maxRecDepth 100000

/-- How two numbers compare. -/
def cmpN (a b : Int) : Int := if a < b then -1 else if b < a then 1 else 0
theorem cmp_any (a b : Int) (w : World) :
    Calls Try.prog 23 #[.int .i64 a, .int .i64 b] w fun e w' => e = .returned (.int .i64 (cmpN a b)) ∧ w = w' := by
  go_enter Try.func23, Try.ntmps23
  by_cases h1 : a < b
  · have e : cmpN a b = -1 := by simp [cmpN, h1]
    rw [e]
    go_wp2
    go_ret
    exact ⟨rfl, rfl⟩
  · by_cases h2 : b < a
    · have e : cmpN a b = 1 := by simp [cmpN, h1, h2]
      rw [e]
      go_wp2
      go_ret
      exact ⟨rfl, rfl⟩
    · have e : cmpN a b = 0 := by simp [cmpN, h1, h2]
      rw [e]
      go_wp2
      go_ret
      exact ⟨rfl, rfl⟩
theorem cmpN_pos {a b : Int} : 0 < cmpN a b ↔ b < a := by unfold cmpN; split <;> (try split) <;> omega
/-- The memory of a search for the greatest: two boxes for fuels. -/
structure Mx (w wr : World) (p q : Fu) : Prop where
  hb : Below w.heap.size w wr
  h4 : wr.ownsRow w.heap.size 31 5 (.slice (some ⟨w.heap.size, 0, none⟩) 1 1) 1 (encU p)
  h5 : wr.ownsRow w.heap.size 31 5 (.slice (some ⟨w.heap.size + 1, 0, none⟩) 1 1) 1 (encU q)
theorem Mx.below {w wr w' : World} {p q : Fu} (h : Mx w wr p q) (hb : Below wr.heap.size wr w') : Mx w w' p q := ⟨grow_trans h.hb hb, own_below h.h4 hb, own_below h.h5 hb⟩
/-- A world with five cells stored. -/
def put5 (w : World) (B : Nat) (i : Int) (n : ByteArray) (r l o : Int) : World := ((((w.setCell ⟨B, 0, none⟩ (.int .i64 i)).setCell ⟨B, 1, none⟩ (.string n)).setCell ⟨B, 2, none⟩ (.int .i64 r)).setCell ⟨B, 3, none⟩ (.int .i64 l)).setCell ⟨B, 4, none⟩ (.int .i64 o)
theorem own_put5 {w : World} {base B : Nat} {p : Fu} {i : Int} {n : ByteArray} {r l o : Int} (h : w.ownsRow base 31 5 (.slice (some ⟨B, 0, none⟩) 1 1) 1 (encU p)) :
    (put5 w B i n r l o).ownsRow base 31 5 (.slice (some ⟨B, 0, none⟩) 1 1) 1 (encU ⟨i, n, r, l, o⟩) ∧ w.grownBy (put5 w B i n r l o) (some B) := by
  have s1 := h.stored 0 (.int .i64 i)
  have s2 := s1.1.stored 1 (.string n)
  have s3 := s2.1.stored 2 (.int .i64 r)
  have s4 := s3.1.stored 3 (.int .i64 l)
  have s5 := s4.1.stored 4 (.int .i64 o)
  exact ⟨s5.1, grownBy_trans (grownBy_trans (grownBy_trans (grownBy_trans s1.2 s2.2) s3.2) s4.2) s5.2⟩
theorem own_cells5 {w : World} {base B : Nat} {i : Int} {n : ByteArray} {r l o : Int} (h : w.ownsRow base 31 5 (.slice (some ⟨B, 0, none⟩) 1 1) 1 (encU ⟨i, n, r, l, o⟩)) :
    (w.cell? ⟨B, 0, none⟩ = some (.int .i64 i) ∧ w.cell? ⟨B, 1, none⟩ = some (.string n) ∧ w.cell? ⟨B, 2, none⟩ = some (.int .i64 r) ∧ w.cell? ⟨B, 3, none⟩ = some (.int .i64 l) ∧ w.cell? ⟨B, 4, none⟩ = some (.int .i64 o)) ∧ ∀ j, w.frozen? ⟨B, j, none⟩ = false :=
  ⟨⟨h.cellAt 0 (by omega), h.cellAt 1 (by omega), h.cellAt 2 (by omega), h.cellAt 3 (by omega), h.cellAt 4 (by omega)⟩, h.frozenAt⟩
theorem Mx.put5 {w wr : World} {p q : Fu} {i : Int} {n : ByteArray} {r l o : Int} (h : Mx w wr p q) : Mx w (put5 wr (w.heap.size + 1) i n r l o) p ⟨i, n, r, l, o⟩ := by
  obtain ⟨h1, h2⟩ := own_put5 (i := i) (n := n) (r := r) (l := l) (o := o) h.h5
  exact ⟨h.hb.grown h2 h.hb.size (fun j hj => by cases hj; omega), own_kept h.h4 h2 (fun j hj e => by simp [Value.ownBlock] at hj; have := Option.some.inj e; omega), h1⟩
end Go.Proofs.Ytnadeddkogapoaa
