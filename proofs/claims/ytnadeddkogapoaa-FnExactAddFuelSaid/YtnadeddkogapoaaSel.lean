/- The cells for which a condition holds, gathered by the program's loop over a closure; the reference's loops that append. Conditions: as each states. -/
import Derived.Test.YtnadeddkogapoaaCell
namespace Go.Proofs.Ytnadeddkogapoaa
open Go.ChangeShapes Go.WideShapes Go.ChangeAt Go.RowKit Go.Deep
set_option linter.unusedVariables false
set_option linter.unusedSimpArgs false
set_option maxRecDepth 100000

/-- The numbers below k for which a condition holds. -/
def selN (p : Nat → Bool) (k : Nat) : List Int := ((List.range k).filter p).map fun (i : Nat) => (i : Int)
theorem selN_zero (p : Nat → Bool) : selN p 0 = [] := rfl
theorem selN_yes {p : Nat → Bool} {k : Nat} (h : p k = true) : selN p (k + 1) = selN p k ++ [(k : Int)] := by simp [selN, List.range_succ, List.filter_append, h]
theorem selN_no {p : Nat → Bool} {k : Nat} (h : p k = false) : selN p (k + 1) = selN p k := by simp [selN, List.range_succ, List.filter_append, h]
theorem selN_le (p : Nat → Bool) (k : Nat) : (selN p k).length ≤ k := by
  unfold selN; rw [List.length_map]; exact Nat.le_trans (List.length_filter_le _ _) (by simp)
theorem selN_congr {p q : Nat → Bool} {k : Nat} (h : ∀ j, j < k → p j = q j) : selN p k = selN q k := by
  unfold selN; rw [List.filter_congr (fun j hj => h j (List.mem_range.1 hj))]
theorem grow_put {B n : Nat} {e : TypeId} {W wr w1 : World} {u : Value} {xs : List Value} {o : Obj} (hown : wr.ownsRow B e 1 u n xs) (hb : Below B W wr) (hB : B ≤ wr.heap.size) (hgrow : (wr.alloc o).grownBy w1 u.ownBlock) : Below B W w1 :=
  (hb.alloc hB o).grown hgrow (by simp; omega) (fun j hj => (hown.lt j hj).1)
theorem own_kept {w w' : World} {base k n : Nat} {e : TypeId} {v : Value} {cs : List Value} {row : Option Nat} (h : w.ownsRow base e k v n cs) (hg : w.grownBy w' row) (hne : ∀ j, v.ownBlock = some j → some j ≠ row) : w'.ownsRow base e k v n cs := by
  refine ⟨h.1, ?_⟩
  rcases h.2 with hn | ⟨g, cap, cur, rfl, hb', hg', rest⟩
  · exact .inl hn
  · refine .inr ⟨g, cap, cur, rfl, hb', ?_, rest⟩
    rw [hg.block g (Array.getElem?_eq_some_iff.1 hg').1 (hne g rfl)]
    exact hg'
theorem own_put {B : Nat} {e : TypeId} {w1 : World} {v : Value} {p : Nat → Bool} {k : Nat} (hp : p k = true) (h : w1.ownsRow B e 1 v ((selN p k).length + 1) (ints (selN p k) ++ [.int .i64 (k : Int)])) : w1.ownsRow B e 1 v (selN p (k + 1)).length (ints (selN p (k + 1))) := by
  rw [selN_yes hp]; simpa using h
/-- A call hands back a list in memory of its own, and a Bool. -/
def RetSel (w : World) (xs : List Int) (ok : Bool) (e : Ending) (w' : World) : Prop :=
  ∃ u, e = .returned (.tuple #[u, .bool ok]) ∧ w'.ownsRow w.heap.size 3 1 u xs.length (ints xs) ∧ Below w.heap.size w w'
def burnP (zs : List Int) (k : Nat) : Bool := decide (0 < zs.getD k 0)
/-- What a function that gathers hands back. -/
def selR (b : Bool) (xs : List Int) : List Int := if b then xs else []
end Go.Proofs.Ytnadeddkogapoaa
