/- Plain functions that the program's small functions compute; no program in sight. Conditions: none. -/
import Derived.Below
namespace Go.Proofs.Ytddfapmmpkchkaa
open Go.RowKit

/-- A number lies within bounds. -/
def inB (x a b : Int) : Bool := decide (a ≤ x) && decide (x ≤ b)
theorem inB_iff {x a b : Int} : inB x a b = true ↔ a ≤ x ∧ x ≤ b := by simp [inB]
theorem inB_not {x a b : Int} : inB x a b = false ↔ ¬ (a ≤ x ∧ x ≤ b) := by rw [← inB_iff]; simp
/-- A breeze is valid. -/
def windB (f s : Int) : Bool := inB f 0 7 && inB s 0 120 && (decide (0 < s) || f == 0)
/-- A byte list holds small letters alone. -/
def lowers (l : List UInt8) : Bool := l.all fun c => 97 ≤ c && c ≤ 122
/-- A word. -/
def wordB (l : List UInt8) : Bool := lowers l && inB l.length 1 10
/-- A fuel is valid. -/
def fuelB (i : Int) (n : List UInt8) (r l o : Int) : Bool := inB i 1 99 && wordB n && inB r 1 1000 && inB l 10 400 && inB o 1 500
/-- The turn between two directions. -/
def turnN (a b : Int) : Int := min (max (a - b) (b - a)) (8 - max (a - b) (b - a))
/-- The push towards a turn. -/
def tabN (k : Int) : Int := if k = 0 then 100 else if k = 1 then 71 else if k = 2 then 0 else if k = 3 then -71 else -100
/-- The push of a breeze towards a direction. -/
def pushN (f s to : Int) : Int := (s * tabN (turnN ((f + 4) % 8) to)).tdiv 100
theorem turn_cases {a b : Int} (h1 : 0 ≤ a) (h2 : a ≤ 7) (h3 : 0 ≤ b) (h4 : b ≤ 7) : turnN a b = 0 ∨ turnN a b = 1 ∨ turnN a b = 2 ∨ turnN a b = 3 ∨ turnN a b = 4 := by
  unfold turnN; omega
theorem turn_le {a b : Int} (h1 : 0 ≤ a) (h2 : a ≤ 7) (h3 : 0 ≤ b) (h4 : b ≤ 7) : 0 ≤ turnN a b ∧ turnN a b ≤ 4 := by
  unfold turnN; omega
theorem tab_le (k : Int) : -100 ≤ tabN k ∧ tabN k ≤ 100 := by
  unfold tabN; omega
theorem mul_tab_le (s k : Int) (h0 : 0 ≤ s) (h1 : s ≤ 120) : -12000 ≤ s * tabN k ∧ s * tabN k ≤ 12000 := by
  have := tab_le k
  have a : s * tabN k ≤ s * 100 := Int.mul_le_mul_of_nonneg_left this.2 h0
  have b : s * (-100) ≤ s * tabN k := Int.mul_le_mul_of_nonneg_left this.1 h0
  omega
theorem windB_iff {f s : Int} : windB f s = true ↔ (0 ≤ f ∧ f ≤ 7) ∧ (0 ≤ s ∧ s ≤ 120) ∧ (0 < s ∨ f = 0) := by
  simp [windB, inB_iff, and_assoc]
end Go.Proofs.Ytddfapmmpkchkaa
