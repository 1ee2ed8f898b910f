/- CommonRegion and JoinRegions in the reference. Conditions: as each states. -/
import Derived.Test.YtefampjmbjbhcaaCommon2
import Derived.Test.YtefampjmbjbhcaaPut
import Derived.Test.YtefampjmbjbhcaaRegP
namespace Go.Proofs.Ytefampjmbjbhcaa
open Go.ChangeShapes Go.WideShapes Go.ChangeAt Go.RowKit Go.Deep
set_option linter.unusedVariables false
set_option linter.unusedSimpArgs false
set_option maxRecDepth 100000

theorem filt_q {B : Nat} {e : TypeId} {w1 : World} {v : Value} {zs : List Int} {p : Int → Bool} {k : Nat} {z : Int} (hz : zs[k]? = some z) (hp : p z = true) (h : Qw w1 B e 1 v (((zs.take k).filter p).length + 1) (ints ((zs.take k).filter p) ++ [.int .i64 z])) :
    Qw w1 B e 1 v ((zs.take (k + 1)).filter p).length (ints ((zs.take (k + 1)).filter p)) := by
  rw [filt_yes hz hp]; simpa using h
/-- A call hands back a list in memory of its own, and a Bool. -/
def RetSelQ (w : World) (xs : List Int) (ok : Bool) (e : Ending) (w' : World) : Prop :=
  ∃ u, e = .returned (.tuple #[u, .bool ok]) ∧ Qw w' w.heap.size 3 1 u xs.length (ints xs) ∧ Below w.heap.size w w'
theorem set_in {zs : List Int} {n : Nat} (h : setB zs 0 ((n : Int) - 1) = true) : Rise zs ∧ ∀ z ∈ zs, 0 ≤ z ∧ z ≤ (n : Int) - 1 := setB_rise h
/-- In a world with new blocks, the head ones as they stand. -/
theorem two_news (w : World) (o p : Obj) : Below w.heap.size w ((w.alloc o).alloc p) := grow_trans (grow_alloc _ _) (grow_alloc _ _)
end Go.Proofs.Ytefampjmbjbhcaa
