/- Contracts of the functions that copy, compare, mark and ask slices of ints. Conditions: lengths up to 1048576 where a counter runs. -/
import Derived.Test.YtnadeddkogapoaaSlice
namespace Go.Proofs.Ytnadeddkogapoaa
open Go.ChangeShapes Go.WideShapes Go.ChangeAt Go.RowKit
set_option linter.unusedVariables false
set_option linter.unusedSimpArgs false
set_option maxRecDepth 100000

/-- A call hands back a row of its own with these cells; nothing that was there has turned. -/
def RetOwn (w : World) (t : TypeId) (k n : Nat) (cs : List Value) (e : Ending) (w' : World) : Prop :=
  ∃ u, e = .returned u ∧ w'.ownsRow w.heap.size t k u n cs ∧ Below w.heap.size w w'
abbrev ints (zs : List Int) : List Value := zs.map (Value.int .i64)

theorem info_int : (Try.prog.info? 3).map (fun i => (i.zero, i.size, i.bytes)) = some (some (.int .i64 0), 1, 8) := by kernel_rfl

/-- The marks from a number on. -/
def marks (k : Int) (n : Nat) : List Int := (List.range n).map fun (i : Nat) => k + (i : Int)
theorem marks_length (k : Int) (n : Nat) : (marks k n).length = n := by simp [marks]
theorem marks_at (k : Int) (n i : Nat) (h : i < n) : (marks k n)[i]? = some (k + i) := by simp [marks, h]
/-- A call hands back a value and fills a row of its caller's with marks. -/
def RetMark (w : World) (r : Value) (base : Nat) (v : Value) (k : Int) (n : Nat) (e : Ending) (w' : World) : Prop :=
  e = .returned r ∧ w'.ownsRow base 3 1 v n (ints (marks k n)) ∧ w.grownBy w' v.ownBlock
end Go.Proofs.Ytnadeddkogapoaa
