/- A terrain's box in memory. Conditions: none. -/
import Derived.Test.YtabedcpibnnnhaaDoorQueue
namespace Go.Proofs.YtabedcpibnnnhaaDoor
open Go.ChangeShapes Go.WideShapes Go.ChangeAt Go.RowKit Go.Deep
set_option linter.unusedVariables false

theorem two_news (w : World) (o p : Obj) : Below w.heap.size w ((w.alloc o).alloc p) := grow_trans (grow_alloc _ _) (grow_alloc _ _)
/-- A terrain's box. -/
def TB (w : World) (B : Nat) (x y : Int) (u : Value) : Prop := w.cell? ⟨B, 0, none⟩ = some (.int .i64 x) ∧ w.cell? ⟨B, 1, none⟩ = some (.int .i64 y) ∧ w.cell? ⟨B, 2, none⟩ = some u
theorem cell_below {w w' : World} {B o : Nat} {v : Value} (h : w.cell? ⟨B, o, none⟩ = some v) (hb : Below w.heap.size w w') : w'.cell? ⟨B, o, none⟩ = some v := by
  rw [hb.cell (World.block_lt_of_cell? w _ h)]; exact h
theorem TB.below {w w' : World} {B : Nat} {x y : Int} {u : Value} (h : TB w B x y u) (hb : Below w.heap.size w w') : TB w' B x y u :=
  ⟨cell_below h.1 hb, cell_below h.2.1 hb, cell_below h.2.2 hb⟩
theorem cell_lt {w : World} {B o : Nat} {v : Value} (h : w.cell? ⟨B, o, none⟩ = some v) : B < w.heap.size := World.block_lt_of_cell? w _ h
theorem TB.kept {w w' : World} {B : Nat} {x y : Int} {u : Value} {row : Option Nat} (h : TB w B x y u) (hg : w.grownBy w' row) (hne : some B ≠ row) : TB w' B x y u :=
  ⟨hg.cell h.1 hne, hg.cell h.2.1 hne, hg.cell h.2.2 hne⟩
end Go.Proofs.YtabedcpibnnnhaaDoor
