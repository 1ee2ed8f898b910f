/- Cells of a terrain: columns, rows, steps apart; the functions that tell of them. Conditions: none; each function's own stand at it. -/
import Derived.Test.YtnacofmjipilhaaTerr
import Derived.Test.YtnacofmjipilhaaWind
namespace Go.Proofs.Ytnacofmjipilhaa
open Go.ChangeShapes Go.WideShapes Go.ChangeAt Go.RowKit Go.Deep
set_option linter.unusedVariables false
set_option linter.unusedSimpArgs false
set_option maxRecDepth 100000

/-- What a valid terrain's sizes are. -/
theorem terr_dims {x y : Int} {zs : List Int} (h : terrB x y zs = true) : (1 ≤ x ∧ x ≤ 5) ∧ (1 ≤ y ∧ y ≤ 5) ∧ (zs.length : Int) = x * y ∧ (zs.length : Int) ≤ 25 := by
  simp only [terrB, Bool.and_eq_true, decide_eq_true_eq] at h
  obtain ⟨⟨⟨h1, h2⟩, h3⟩, _⟩ := h
  have h1 := inB_iff.1 h1
  have h2 := inB_iff.1 h2
  have := mul_bound (a := x) (b := y) (x := 5) (y := 5) (by omega) h1.2 (by omega) h2.2
  exact ⟨h1, h2, h3, by omega⟩
theorem column_any (x y : Int) (u : Value) (c : Int) (w : World) (h1 : 1 ≤ x) (h2 : x ≤ 5) (h3 : 0 ≤ c) (h4 : c ≤ 25) :
    Calls Try.prog 176 #[terrV x y u, .int .i64 c] w fun e w' => e = .returned (.int .i64 (c % x)) ∧ Below w.heap.size w w' := by
  go_enter Try.func176, Try.ntmps176
  go_wp2
  go_ret
  exact ⟨rfl, grow_alloc _ _⟩
theorem row_any (x y : Int) (u : Value) (c : Int) (w : World) (h1 : 1 ≤ x) (h2 : x ≤ 5) (h3 : 0 ≤ c) (h4 : c ≤ 25) :
    Calls Try.prog 177 #[terrV x y u, .int .i64 c] w fun e w' => e = .returned (.int .i64 (c / x)) ∧ Below w.heap.size w w' := by
  go_enter Try.func177, Try.ntmps177
  go_wp2
  go_ret
  exact ⟨rfl, grow_alloc _ _⟩
/-- The steps between two cells, at a width. -/
def apartN (x a b : Int) : Int := max (max (a % x - b % x) (b % x - a % x)) (max (a / x - b / x) (b / x - a / x))
theorem cell_bds {x c : Int} (h1 : 1 ≤ x) (h2 : x ≤ 5) (h3 : 0 ≤ c) (h4 : c ≤ 25) : (0 ≤ c % x ∧ c % x ≤ 4) ∧ 0 ≤ c / x ∧ c / x ≤ 25 :=
  ⟨⟨Int.emod_nonneg _ (by omega), by have := Int.emod_lt_of_pos c (show 0 < x by omega); omega⟩, Int.ediv_nonneg h3 (by omega), by have := Int.ediv_le_self x h3; omega⟩
theorem apartN_bd {x a b : Int} (h1 : 1 ≤ x) (h2 : x ≤ 5) (h3 : 0 ≤ a) (h4 : a ≤ 25) (h5 : 0 ≤ b) (h6 : b ≤ 25) : 0 ≤ apartN x a b ∧ apartN x a b ≤ 25 := by
  have := cell_bds h1 h2 h3 h4
  have := cell_bds h1 h2 h5 h6
  unfold apartN
  generalize a % x = p at *
  generalize b % x = q at *
  generalize a / x = r at *
  generalize b / x = s at *
  omega
theorem isCell_any (x y : Int) (u : Value) (n : Nat) (cs : List Value) (c : Int) (w : World) (h : Sl w 1 u n cs) :
    Calls Try.prog 128 #[terrV x y u, .int .i64 c] w fun e w' => e = .returned (.bool (inB c 0 (n - 1))) ∧ Below w.heap.size w w' := by
  have hmx := h.len
  unfold maxLen at hmx
  obtain ⟨A, k, rfl⟩ := h.val
  clear h
  go_enter Try.func128, Try.ntmps128
  go_wp2_with (go_at_call 95; refine (in_any _ _ _ _).mono ?_; rintro e w' ⟨rfl, rfl⟩)
  go_ret
  exact ⟨rfl, grow_alloc _ _⟩
theorem l2Cell_any (x y : Int) (u : Value) (zs : List Int) (c : Int) (w : World) (h : Sl w 1 u zs.length (ints zs)) :
    Calls Try.prog 126 #[terrV x y u, .int .i64 c] w fun e w' => e = .returned (.bool (terrB x y zs && inB c 0 (zs.length - 1))) ∧ Below w.heap.size w w' := by
  have hmx := h.len
  unfold maxLen at hmx
  have Hs := Lib.hid fun W hW => l2Good_any x y u zs W (h.below (w' := W) hW)
  obtain ⟨A, k, rfl⟩ := h.val
  clear h
  generalize terrB x y zs = R at *
  generalize zs.length = N at *
  cases R
  all_goals
    go_enter Try.func126, Try.ntmps126
    go_wp2_with fail
    with_reducible refine (Hs.out _ (grow_alloc _ _)).mono ?_
    rintro e w1 ⟨rfl, hb1⟩
    have hc := (bcell hb1).1
    go_wp2_with (go_at_call 96; refine (l1In_any _ _ _ _).mono ?_; rintro e w' ⟨rfl, rfl⟩)
    go_ret
    exact ⟨by simp, grow_trans (grow_alloc _ _) hb1⟩
theorem apart_any (x y : Int) (u : Value) (a b : Int) (w : World) (h1 : 1 ≤ x) (h2 : x ≤ 5) (h3 : 0 ≤ a) (h4 : a ≤ 25) (h5 : 0 ≤ b) (h6 : b ≤ 25) :
    Calls Try.prog 174 #[terrV x y u, .int .i64 a, .int .i64 b] w fun e w' => e = .returned (.int .i64 (apartN x a b)) ∧ Below w.heap.size w w' := by
  have hq := fun n : Later (w.alloc (.cells #[.int .i64 x, .int .i64 y, u] 79)) => n.cell
  obtain ⟨⟨p1, p2⟩, p3, p4⟩ := cell_bds h1 h2 h3 h4
  obtain ⟨⟨q1, q2⟩, q3, q4⟩ := cell_bds h1 h2 h5 h6
  go_enter Try.func174, Try.ntmps174
  go_wp2_with fail
  refine wp_region_later (by kernel_rfl) (by kernel_rfl) ?_
  repeat (go_big_quiet_step ((first | (go_at_call 176; first | exact later_of (column_any _ _ _ _ _ h1 h2 h3 h4) | exact later_of (column_any _ _ _ _ _ h1 h2 h5 h6)) | (go_at_call 177; first | exact later_of (row_any _ _ _ _ _ h1 h2 h3 h4) | exact later_of (row_any _ _ _ _ _ h1 h2 h5 h6)) | (go_at_call 157; exact later_same (distance_any _ _ _ (by omega) (by omega) (by omega) (by omega))))))
  refine wpQuiet_nil ?_
  rintro _ ⟨wq, rfl⟩
  go_wp2
  all_goals
    go_ret
    exact ⟨ret_int (by unfold apartN; omega), grow_trans (grow_alloc _ _) wq.h⟩
end Go.Proofs.Ytnacofmjipilhaa
