/- The exported functions on cells: CellAt, PlaceOf, StepsApart, in the program and in the reference. Conditions: none; each stands at any arguments. -/
import Derived.Test.YtnacofmjipilhaaCell
namespace Go.Proofs.Ytnacofmjipilhaa
open Go.ChangeShapes Go.WideShapes Go.ChangeAt Go.RowKit Go.Deep
set_option linter.unusedVariables false
set_option linter.unusedSimpArgs false
set_option maxRecDepth 100000

theorem l1Most_any (a b : Int) (w : World) :
    Calls Try.prog 111 #[.int .i64 a, .int .i64 b] w fun e w' => e = .returned (.int .i64 (max a b)) ∧ w = w' := by
  go_enter Try.func111, Try.ntmps111
  go_wp2
  all_goals (go_ret; exact ⟨ret_int (by omega), rfl⟩)
theorem l2Apart_any (x y : Int) (u : Value) (a b : Int) (w : World) (h1 : 1 ≤ x) (h2 : x ≤ 5) (h3 : 0 ≤ a) (h4 : a ≤ 25) (h5 : 0 ≤ b) (h6 : b ≤ 25) :
    Calls Try.prog 192 #[terrV x y u, .int .i64 a, .int .i64 b] w fun e w' => e = .returned (.int .i64 (apartN x a b)) ∧ Below w.heap.size w w' := by
  have hq := fun n : Later (w.alloc (.cells #[.int .i64 x, .int .i64 y, u] 79)) => n.cell
  obtain ⟨⟨p1, p2⟩, p3, p4⟩ := cell_bds h1 h2 h3 h4
  obtain ⟨⟨q1, q2⟩, q3, q4⟩ := cell_bds h1 h2 h5 h6
  go_enter Try.func192, Try.ntmps192
  go_wp2_with fail
  refine wp_region_later (by kernel_rfl) (by kernel_rfl) ?_
  repeat (go_big_quiet_step (fail))
  refine wpQuiet_nil ?_
  rintro _ ⟨wq, rfl⟩
  go_wp2_with (go_at_call 111; refine (l1Most_any _ _ _).mono ?_; rintro e w' ⟨rfl, rfl⟩)
  go_ret
  exact ⟨ret_int (by unfold apartN; omega), grow_trans (grow_alloc _ _) wq.h⟩
/-- A place's answer. -/
def placeR (b : Bool) (p q : Int) : Value := if b then .tuple #[.int .i64 p, .int .i64 q, .bool true] else .tuple #[.int .i64 0, .int .i64 0, .bool false]
theorem placeR_shape (b : Bool) (p q : Int) : ∃ m m2 c, placeR b p q = .tuple #[.int .i64 m, .int .i64 m2, .bool c] := by cases b <;> exact ⟨_, _, _, rfl⟩
theorem cell_in {x y : Int} {zs : List Int} {c : Int} (h : terrB x y zs = true) (hc : inB c 0 (zs.length - 1) = true) : 1 ≤ x ∧ x ≤ 5 ∧ 0 ≤ c ∧ c ≤ 25 := by
  obtain ⟨⟨x1, x2⟩, _, _, hn⟩ := terr_dims h
  obtain ⟨c1, c2⟩ := inB_iff.1 hc
  omega
end Go.Proofs.Ytnacofmjipilhaa
