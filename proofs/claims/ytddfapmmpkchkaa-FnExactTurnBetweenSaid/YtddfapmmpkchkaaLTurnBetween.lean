/- FnExactTurnBetween returns true for all pairs of numbers: the program's turn between two directions is the reference's. Conditions: none. -/
import Derived.Test.YtddfapmmpkchkaaWind
namespace Go.Proofs.Ytddfapmmpkchkaa.lTurnBetween
open Go.ChangeShapes Go.WideShapes Go.ChangeAt Go.RowKit
set_option linter.unusedVariables false
set_option linter.unusedSimpArgs false

set_option profiler true in
theorem walk (a : Int) (_ : I64 a) (b : Int) (_ : I64 b) (w : World) :
    Calls Try.prog 7 #[.int .i64 a, .int .i64 b] w fun e w' => e = .returned (.bool true) ∧ Below w.heap.size w w' := by
  have hR : turnR a b = .tuple #[.int .i64 0, .bool false] ∨ turnR a b = .tuple #[.int .i64 (turnN a b), .bool true] := by unfold turnR; split <;> simp
  have hs := fun w => sTurnBetween_any a b w
  have hi := fun w => TurnBetween_any a b w
  rcases hR with e | e
  all_goals
    rw [e] at hs hi
    have Hs := Lib.hid hs
    have Hi := Lib.hid hi
    clear hs hi e
    go_enter Try.func7, Try.ntmps7
    go_wp2_with (first | (go_at_call 20; refine (Hs.out _).mono ?_; rintro e w' ⟨rfl, rfl⟩) | (go_at_call 21; refine (Hi.out _).mono ?_; rintro e w' ⟨rfl, rfl⟩))
    go_ret
    exact ⟨rfl, Below.refl _ _⟩

/-! the frame: the arguments opened, the row closed -/
set_option profiler true in
set_option maxRecDepth 100000 in
theorem lifted (os : Os) (started : os.Started) (H : Type) (enc : TypeId × Value → H) :
    ReturnsInHanded {} Try.checked os 7 .any (Rows.fnExactTurnBetweenSpec.pre6 enc Try.prog Try.f7 Rows.fnExactTurnBetweenRow.domain false) (Rows.fnExactTurnBetweenSpec.post enc Try.prog Try.f7 false true false false) := by
  refine law_lifted (C := Try.checked) own started (by kernel_rfl) Try.func7
    (ChangeSpec.witness6 (enc := enc) (C := Try.checked) false ⟨#[], #[.int .i64 0, .int .i64 0], []⟩ 8 (by kernel_rfl) (by kernel_rfl) (by kernel_rfl) (by kernel_rfl))
    laidOut (of_decide_eq_true (by kernel_rfl)) rfl Try.underlying4 rfl ?_
  intro W base args ds p hval hA
  rw [Try.params7] at hA hval
  obtain ⟨v0, vs0, d0, ds0, p0, q0, hargs, rfl, rfl, h0, r0⟩ := trodAll_cons hA
  obtain ⟨v1, vs1, d1, ds1, p1, q1, rfl, rfl, rfl, h1, r1⟩ := trodAll_cons r0
  obtain ⟨rfl, rfl, rfl⟩ := trodAll_nil r1
  obtain rfl : args = #[v0, v1] := by cases args; simp_all
  obtain ⟨a0, rfl, b0⟩ := open_i (hval 0 3 v0 rfl rfl) h0
  obtain ⟨a1, rfl, b1⟩ := open_i (hval 1 3 v1 rfl rfl) h1
  exact ⟨rfl, walk a0 b0 a1 b1 W⟩

set_option profiler true in
theorem over : Rows.fnExactTurnBetweenRow.holds Try.pinned (OpenSpec.ofChange Rows.fnExactTurnBetweenSpec) :=
  OpenClaim.holds_of_wide 7 Try.f7 rfl rfl rfl rfl rfl rfl rfl ⟨rfl, rfl, rfl, rfl, rfl⟩ rfl rfl rfl rfl rfl (by kernel_rfl) Try.func7 (by kernel_rfl)
    (of_decide_eq_true (by kernel_rfl)) (by unfold Func.isWrapper; first | (rw [if_pos (by decide +kernel)]; kernel_rfl) | (rw [if_neg (by decide +kernel)]; exact ⟨rfl, rfl⟩))
    (fun os started H enc _ => lifted os started H enc)

theorem proved : Rows.FnExactTurnBetweenSaid := over
#print axioms proved
end Go.Proofs.Ytddfapmmpkchkaa.lTurnBetween
