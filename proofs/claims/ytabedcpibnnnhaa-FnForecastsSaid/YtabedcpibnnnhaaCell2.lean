/- The exported functions on cells: CellAt, PlaceOf, StepsApart, in the program and in the reference. Conditions: none; each stands at any arguments. -/
import Derived.Test.YtabedcpibnnnhaaCell
namespace Go.Proofs.Ytabedcpibnnnhaa
open Go.ChangeShapes Go.WideShapes Go.ChangeAt Go.RowKit Go.Deep
set_option linter.unusedVariables false
set_option linter.unusedSimpArgs false
set_option maxRecDepth 100000

theorem l1Most_any (a b : Int) (w : World) :
    Calls Try.prog 67 #[.int .i64 a, .int .i64 b] w fun e w' => e = .returned (.int .i64 (max a b)) ∧ w = w' := by
  go_enter Try.func67, Try.ntmps67
  go_wp2
  all_goals (go_ret; exact ⟨ret_int (by omega), rfl⟩)
/-- A place's answer. -/
def placeR (b : Bool) (p q : Int) : Value := if b then .tuple #[.int .i64 p, .int .i64 q, .bool true] else .tuple #[.int .i64 0, .int .i64 0, .bool false]
theorem placeR_shape (b : Bool) (p q : Int) : ∃ m m2 c, placeR b p q = .tuple #[.int .i64 m, .int .i64 m2, .bool c] := by cases b <;> exact ⟨_, _, _, rfl⟩
theorem cell_in {x y : Int} {zs : List Int} {c : Int} (h : terrB x y zs = true) (hc : inB c 0 (zs.length - 1) = true) : 1 ≤ x ∧ x ≤ 5 ∧ 0 ≤ c ∧ c ≤ 25 := by
  obtain ⟨⟨x1, x2⟩, _, _, hn⟩ := terr_dims h
  obtain ⟨c1, c2⟩ := inB_iff.1 hc
  omega
end Go.Proofs.Ytabedcpibnnnhaa
