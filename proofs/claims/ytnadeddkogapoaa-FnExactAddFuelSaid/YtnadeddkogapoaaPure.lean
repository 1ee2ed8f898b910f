/- Plain functions that the program's small functions compute; no program in sight. Conditions: none. -/
import Derived.Below
namespace Go.Proofs.Ytnadeddkogapoaa
open Go.RowKit

/-- A number lies within bounds. -/
def inB (x a b : Int) : Bool := decide (a ≤ x) && decide (x ≤ b)
theorem inB_iff {x a b : Int} : inB x a b = true ↔ a ≤ x ∧ x ≤ b := by simp [inB]
theorem inB_not {x a b : Int} : inB x a b = false ↔ ¬ (a ≤ x ∧ x ≤ b) := by rw [← inB_iff]; simp
/-- A breeze is valid. -/
def windB (f s : Int) : Bool := inB f 0 7 && inB s 0 120 && (decide (0 < s) || f == 0)
/-- A byte list holds small letters alone. -/
def lowers (l : List UInt8) : Bool := l.all fun c => 97 ≤ c && c ≤ 122
/-- A word. -/
def wordB (l : List UInt8) : Bool := lowers l && inB l.length 1 10
/-- A fuel is valid. -/
def fuelB (i : Int) (n : List UInt8) (r l o : Int) : Bool := inB i 1 99 && wordB n && inB r 1 1000 && inB l 10 400 && inB o 1 500
/-- The turn between two directions. -/
def turnN (a b : Int) : Int := min (max (a - b) (b - a)) (8 - max (a - b) (b - a))
/-- The push towards a turn. -/
def tabN (k : Int) : Int := if k = 0 then 100 else if k = 1 then 71 else if k = 2 then 0 else if k = 3 then -71 else -100
/-- The push of a breeze towards a direction. -/
def pushN (f s to : Int) : Int := (s * tabN (turnN ((f + 4) % 8) to)).tdiv 100
theorem turn_cases {a b : Int} (h1 : 0 ≤ a) (h2 : a ≤ 7) (h3 : 0 ≤ b) (h4 : b ≤ 7) : turnN a b = 0 ∨ turnN a b = 1 ∨ turnN a b = 2 ∨ turnN a b = 3 ∨ turnN a b = 4 := by
  unfold turnN; omega
theorem turn_le {a b : Int} (h1 : 0 ≤ a) (h2 : a ≤ 7) (h3 : 0 ≤ b) (h4 : b ≤ 7) : 0 ≤ turnN a b ∧ turnN a b ≤ 4 := by
  unfold turnN; omega
theorem tab_le (k : Int) : -100 ≤ tabN k ∧ tabN k ≤ 100 := by
  unfold tabN; omega
theorem mul_tab_le (s k : Int) (h0 : 0 ≤ s) (h1 : s ≤ 120) : -12000 ≤ s * tabN k ∧ s * tabN k ≤ 12000 := by
  have := tab_le k
  have a : s * tabN k ≤ s * 100 := Int.mul_le_mul_of_nonneg_left this.2 h0
  have b : s * (-100) ≤ s * tabN k := Int.mul_le_mul_of_nonneg_left this.1 h0
  omega
theorem windB_iff {f s : Int} : windB f s = true ↔ (0 ≤ f ∧ f ≤ 7) ∧ (0 ≤ s ∧ s ≤ 120) ∧ (0 < s ∨ f = 0) := by
  simp [windB, inB_iff, and_assoc]
theorem lowers_of {s : ByteArray} (h : ∀ j (h : j < s.size), 97 ≤ s[j].toNat ∧ s[j].toNat ≤ 122) : lowers s.data.toList = true := by
  unfold lowers
  rw [List.all_eq_true]
  intro c hc
  obtain ⟨j, hj, rfl⟩ := List.mem_iff_getElem.1 hc
  have := h j (by simpa using hj)
  simp only [UInt8.le_iff_toNat_le, Bool.and_eq_true, decide_eq_true_eq]
  exact this
theorem lowers_not {s : ByteArray} {k : Nat} (hk : k < s.size) (h : ¬ (97 ≤ s[k].toNat ∧ s[k].toNat ≤ 122)) : lowers s.data.toList = false := by
  cases e : lowers s.data.toList with
  | false => rfl
  | true =>
    unfold lowers at e
    rw [List.all_eq_true] at e
    have := e s[k] (List.mem_iff_getElem.2 ⟨k, by simpa using hk, rfl⟩)
    simp only [UInt8.le_iff_toNat_le, Bool.and_eq_true, decide_eq_true_eq] at this
    exact absurd this h
/-- The speed of fire in a fuel of rate r and limit l. -/
def speedN (r l m s : Int) : Int :=
  if l ≤ m then 0 else if 0 ≤ s then (r * (l - m) / l * (100 + 4 * s)) / 100 else (100 * (r * (l - m) / l)) / (100 - 2 * s)
theorem tdiv_bound (a b : Int) : -(a.natAbs : Int) ≤ a.tdiv b ∧ a.tdiv b ≤ a.natAbs := by
  have := Int.natAbs_tdiv_le_natAbs a b
  omega
theorem fuelB_iff {i : Int} {n : List UInt8} {r l o : Int} : fuelB i n r l o = true ↔ inB i 1 99 = true ∧ wordB n = true ∧ (1 ≤ r ∧ r ≤ 1000) ∧ (10 ≤ l ∧ l ≤ 400) ∧ (1 ≤ o ∧ o ≤ 500) := by
  simp [fuelB, inB_iff, and_assoc]
theorem mul_bound {a b x y : Int} (h1 : 0 ≤ a) (h2 : a ≤ x) (h3 : 0 ≤ b) (h4 : b ≤ y) : 0 ≤ a * b ∧ a * b ≤ x * y :=
  ⟨Int.mul_nonneg h1 h3, Int.mul_le_mul h2 h4 h3 (by omega)⟩
theorem flat_bound {r l m : Int} (r1 : 1 ≤ r) (r2 : r ≤ 1000) (l1 : 10 ≤ l) (l2 : l ≤ 400) (m1 : 0 ≤ m) (h : ¬ l ≤ m) : (0 ≤ r * (l - m) ∧ r * (l - m) ≤ 400000) ∧ 0 ≤ r * (l - m) / l ∧ r * (l - m) / l ≤ 400000 := by
  have a := mul_bound (a := r) (b := l - m) (x := 1000) (y := 400) (by omega) r2 (by omega) (by omega)
  have b : 0 ≤ r * (l - m) / l := Int.ediv_nonneg a.1 (by omega)
  have c : r * (l - m) / l ≤ r * (l - m) := Int.ediv_le_self _ a.1
  omega
theorem up_bound {v s : Int} (v1 : 0 ≤ v) (v2 : v ≤ 400000) (s1 : 0 ≤ s) (s2 : s ≤ 45) : 0 ≤ v * (100 + 4 * s) ∧ v * (100 + 4 * s) ≤ 112000000 := by
  have := mul_bound (a := v) (b := 100 + 4 * s) (x := 400000) (y := 280) v1 v2 (by omega) (by omega)
  omega
theorem down_bound {v s : Int} (v1 : 0 ≤ v) (v2 : v ≤ 400000) (s1 : -45 ≤ s) (s2 : s < 0) : 0 ≤ 100 * v / (100 - 2 * s) ∧ 100 * v / (100 - 2 * s) ≤ 40000000 := by
  have b : 0 ≤ 100 * v / (100 - 2 * s) := Int.ediv_nonneg (by omega) (by omega)
  have c : 100 * v / (100 - 2 * s) ≤ 100 * v := Int.ediv_le_self _ (by omega)
  omega
/-- The greatest moisture up to a number at which fire has a speed. -/
def dampF (r l s v : Int) : Nat → Option Int
  | 0 => if v ≤ speedN r l 0 s then some 0 else none
  | k + 1 => if v ≤ speedN r l (k + 1) s then some (k + 1) else dampF r l s v k
/-- The same, from -1 on. -/
def dampAt (r l s v m : Int) : Option Int := if m < 0 then none else dampF r l s v m.toNat
theorem dampAt_hit {r l s v m : Int} (h : 0 ≤ m) (hv : v ≤ speedN r l m s) : dampAt r l s v m = some m := by
  obtain ⟨k, rfl⟩ := Int.eq_ofNat_of_zero_le h
  unfold dampAt
  rw [if_neg (by omega), Int.toNat_natCast]
  cases k with
  | zero => simp only [dampF, Int.natCast_zero] at *; rw [if_pos hv]
  | succ k => simp only [dampF, Int.natCast_succ] at *; rw [if_pos hv]
theorem dampAt_miss {r l s v m : Int} (h : 0 ≤ m) (hv : ¬ v ≤ speedN r l m s) : dampAt r l s v m = dampAt r l s v (m - 1) := by
  obtain ⟨k, rfl⟩ := Int.eq_ofNat_of_zero_le h
  unfold dampAt
  rw [if_neg (by omega), Int.toNat_natCast]
  cases k with
  | zero => simp only [dampF, Int.natCast_zero] at *; rw [if_neg hv, if_pos (by omega)]
  | succ k => simp only [dampF, Int.natCast_succ] at *; rw [if_neg hv, if_neg (by omega), show ((k : Int) + 1 - 1).toNat = k by omega]
/-- Two results of which the second says whether there is a first. -/
def okR (b : Bool) (n : Int) : Go.Value := if b then .tuple #[.int .i64 n, .bool true] else .tuple #[.int .i64 0, .bool false]
theorem okR_cases (b : Bool) (n : Int) : okR b n = .tuple #[.int .i64 0, .bool false] ∨ ∃ m, okR b n = .tuple #[.int .i64 m, .bool true] := by
  cases b <;> simp [okR]
/-- An optional number as two results. -/
def optR : Option Int → Go.Value
  | some n => .tuple #[.int .i64 n, .bool true]
  | none => .tuple #[.int .i64 0, .bool false]
theorem optR_cases (x : Option Int) : optR x = .tuple #[.int .i64 0, .bool false] ∨ ∃ m, optR x = .tuple #[.int .i64 m, .bool true] := by
  cases x <;> simp [optR]
/-- The checksum of bytes. -/
def sumL (l : List UInt8) : Int := l.foldl (fun h c => (41 * h + (c.toNat : Int) + 1) % 999979) 7
theorem sumL_bd (l : List UInt8) : 0 ≤ sumL l ∧ sumL l ≤ 999978 := by
  unfold sumL
  have key : ∀ (l : List UInt8) (h : Int), 0 ≤ h ∧ h ≤ 999978 → 0 ≤ l.foldl (fun h c => (41 * h + (c.toNat : Int) + 1) % 999979) h ∧ l.foldl (fun h c => (41 * h + (c.toNat : Int) + 1) % 999979) h ≤ 999978 := by
    intro l
    induction l with
    | nil => intro h hh; exact hh
    | cons c l ih => intro h hh; exact ih ((41 * h + (c.toNat : Int) + 1) % 999979) (by omega)
  exact key l 7 (by omega)
theorem take_snoc (s : ByteArray) (k : Nat) (h : k < s.size) : s.data.toList.take (k + 1) = s.data.toList.take k ++ [s[k]] := by
  rw [List.take_succ_eq_append_getElem (by simpa using h)]; rfl
theorem sumL_snoc (s : ByteArray) (k : Nat) (h : k < s.size) : sumL (s.data.toList.take (k + 1)) = (41 * sumL (s.data.toList.take k) + (s[k].toNat : Int) + 1) % 999979 := by
  rw [take_snoc s k h]; simp [sumL]
theorem take_all (s : ByteArray) (k : Nat) (h : ¬ k < s.size) : s.data.toList.take k = s.data.toList := List.take_of_length_le (by simp; omega)
theorem okR_shape (b : Bool) (n : Int) : ∃ m c, okR b n = .tuple #[.int .i64 m, .bool c] := by cases b <;> exact ⟨_, _, rfl⟩
theorem optR_shape (x : Option Int) : ∃ m c, optR x = .tuple #[.int .i64 m, .bool c] := by cases x <;> exact ⟨_, _, rfl⟩
end Go.Proofs.Ytnadeddkogapoaa
