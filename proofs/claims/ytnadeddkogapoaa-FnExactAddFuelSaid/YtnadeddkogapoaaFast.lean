/- The fuel with the greatest speed, in the program and in the reference. Conditions: as each states. -/
import Derived.Test.YtnadeddkogapoaaFusC
namespace Go.Proofs.Ytnadeddkogapoaa
open Go.ChangeShapes Go.WideShapes Go.ChangeAt Go.RowKit Go.Deep
set_option linter.unusedVariables false
set_option linter.unusedSimpArgs false
set_option maxRecDepth 100000

/-- The first number below k with the greatest value. -/
def bst (f : Nat → Int) : Nat → Nat
  | 0 => 0
  | k + 1 => if f (bst f k) < f k then k else bst f k
theorem bst_lt (f : Nat → Int) (k : Nat) : bst f (k + 1) < k + 1 := by
  induction k with
  | zero => unfold bst; split <;> simp [bst]
  | succ k ih => show (if f (bst f (k + 1)) < f (k + 1) then k + 1 else bst f (k + 1)) < k + 2; split <;> omega
theorem bst_one (f : Nat → Int) : bst f 1 = 0 := by have : bst f 1 < 1 := bst_lt f 0; omega
theorem bst_yes {f : Nat → Int} {k : Nat} (h : f (bst f k) < f k) : bst f (k + 1) = k := by simp [bst, h]
theorem bst_no {f : Nat → Int} {k : Nat} (h : ¬ f (bst f k) < f k) : bst f (k + 1) = bst f k := by simp [bst, h]
/-- A fuel's speed on flat ground. -/
def spU (ps : List Fu) (m : Int) (k : Nat) : Int := match ps[k]? with | some p => speedN p.r p.l m 0 | none => 0
theorem spU_at {ps : List Fu} {m : Int} {k : Nat} {i r l o : Int} {n : ByteArray} (h : ps[k]? = some ⟨i, n, r, l, o⟩) : spU ps m k = speedN r l m 0 := by simp [spU, h]
theorem speed_nonneg {r l m : Int} (r1 : 1 ≤ r) (l1 : 10 ≤ l) : 0 ≤ speedN r l m 0 := by
  unfold speedN
  split
  · omega
  · rw [if_pos (Int.le_refl 0)]
    exact Int.ediv_nonneg (Int.mul_nonneg (Int.ediv_nonneg (Int.mul_nonneg (by omega) (by omega)) (by omega)) (by omega)) (by omega)
/-- The reference's best number and speed so far. -/
def bI (ps : List Fu) (m : Int) (k : Nat) : Int := if k = 0 then 0 else idF ps (bst (spU ps m) k)
def bM (ps : List Fu) (m : Int) (k : Nat) : Int := if k = 0 then -1 else spU ps m (bst (spU ps m) k)
theorem bIM_yes {ps : List Fu} {m : Int} {k : Nat} (h : bM ps m k < spU ps m k) : bI ps m (k + 1) = idF ps k ∧ bM ps m (k + 1) = spU ps m k := by
  unfold bI bM at *
  rw [if_neg (by omega), if_neg (by omega)]
  rcases Nat.eq_zero_or_pos k with rfl | hk
  · rw [bst_one]; exact ⟨rfl, rfl⟩
  · rw [if_neg (by omega)] at h
    rw [bst_yes h]; exact ⟨rfl, rfl⟩
theorem bIM_no {ps : List Fu} {m : Int} {k : Nat} (h0 : 0 ≤ spU ps m k) (h : ¬ bM ps m k < spU ps m k) : bI ps m (k + 1) = bI ps m k ∧ bM ps m (k + 1) = bM ps m k := by
  unfold bI bM at *
  rcases Nat.eq_zero_or_pos k with rfl | hk
  · rw [if_pos rfl] at h; omega
  · rw [if_neg (show ¬ k = 0 by omega)] at h
    rw [if_neg (by omega), if_neg (by omega), if_neg (by omega), if_neg (by omega), bst_no h]; exact ⟨rfl, rfl⟩
/-- Two numbers and a Bool handed back. -/
def triV (b : Bool) (p q : Int) : Value := if b then .tuple #[.int .i64 p, .int .i64 q, .bool true] else .tuple #[.int .i64 0, .int .i64 0, .bool false]
theorem triV_shape (b : Bool) (p q : Int) : ∃ m m2 c, triV b p q = .tuple #[.int .i64 m, .int .i64 m2, .bool c] := by cases b <;> exact ⟨_, _, _, rfl⟩
def fastR (ps : List Fu) (m : Int) : Value := triV (areB ps && inB m 0 400 && decide (0 < ps.length)) (idF ps (bst (spU ps m) ps.length)) (spU ps m (bst (spU ps m) ps.length))
/-- What a valid fuel's numbers are. -/
theorem are_at {ps : List Fu} {k : Nat} {i r l o : Int} {n : ByteArray} (h : areB ps = true) (hx : ps[k]? = some ⟨i, n, r, l, o⟩) : (1 ≤ r ∧ r ≤ 1000) ∧ (10 ≤ l ∧ l ≤ 400) ∧ 1 ≤ n.size ∧ n.size ≤ 10 := by
  have h1 := (are_facts h).2.1 k _ hx
  obtain ⟨_, hw, hr, hl, _⟩ := fuelB_iff.1 h1
  have hw2 : inB n.size 1 10 = true := by
    have h2 := (Bool.and_eq_true_iff.1 hw).2
    have : n.data.toList.length = n.size := by show n.data.toList.length = n.data.size; simp
    simpa [this] using h2
  have := inB_iff.1 hw2
  exact ⟨hr, hl, by omega, by omega⟩
end Go.Proofs.Ytnadeddkogapoaa
