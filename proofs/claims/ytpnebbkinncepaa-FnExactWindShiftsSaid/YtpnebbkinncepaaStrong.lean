/- The strongest hour of a forecast, in the program and in the reference. Conditions: none; each stands at any forecast. -/
import Derived.Test.YtpnebbkinncepaaWeath3
namespace Go.Proofs.Ytpnebbkinncepaa
open Go.ChangeShapes Go.WideShapes Go.ChangeAt Go.RowKit
set_option linter.unusedVariables false
set_option linter.unusedSimpArgs false
set_option maxRecDepth 100000

/-- Two numbers and a Bool. -/
def twoR (b : Bool) (p q : Int) : Value := if b then .tuple #[.int .i64 p, .int .i64 q, .bool true] else .tuple #[.int .i64 0, .int .i64 0, .bool false]
theorem twoR_shape (b : Bool) (p q : Int) : ∃ m m2 c, twoR b p q = .tuple #[.int .i64 m, .int .i64 m2, .bool c] := by cases b <;> exact ⟨_, _, _, rfl⟩
def gustN (ps : List Wx) (i : Nat) : Int := match ps[i]? with | some x => x.g | none => 0
theorem gustN_at {ps : List Wx} {i : Nat} {f s g r : Int} (h : ps[i]? = some ⟨f, s, g, r⟩) : gustN ps i = g := by simp [gustN, h]
/-- The first hour with the greatest gust among the first k. -/
def bestN (ps : List Wx) : Nat → Nat
  | 0 => 0
  | k + 1 => if gustN ps (bestN ps k) < gustN ps k then k else bestN ps k
theorem bestN_one (ps : List Wx) : bestN ps 1 = 0 := by simp [bestN]
theorem bestN_le (ps : List Wx) (k : Nat) : bestN ps k ≤ k := by
  induction k with
  | zero => simp [bestN]
  | succ k ih => simp only [bestN]; split <;> omega
theorem bestN_lt (ps : List Wx) (k : Nat) (h : 0 < k) : bestN ps k < k := by
  cases k with
  | zero => omega
  | succ k => have := bestN_le ps k; simp only [bestN]; split <;> omega
theorem bestN_yes {ps : List Wx} {k : Nat} (h : gustN ps (bestN ps k) < gustN ps k) : bestN ps (k + 1) = k := by simp [bestN, h]
theorem bestN_no {ps : List Wx} {k : Nat} (h : ¬ gustN ps (bestN ps k) < gustN ps k) : bestN ps (k + 1) = bestN ps k := by simp [bestN, h]
theorem fore_len {ps : List Wx} (h : foreB ps = true) : 1 ≤ ps.length ∧ ps.length ≤ 24 := by
  simp only [foreB, Bool.and_eq_true] at h
  have := inB_iff.1 h.1
  omega
end Go.Proofs.Ytpnebbkinncepaa
