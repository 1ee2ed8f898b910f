/- FnExactIsBreeze returns true for all breezes: the program's IsBreeze is the reference's. Conditions: none. -/
import Derived.Test.YtddfapmmpkchkaaWind
namespace Go.Proofs.Ytddfapmmpkchkaa.lIsBreeze
open Go.ChangeShapes Go.WideShapes Go.ChangeAt Go.RowKit
set_option linter.unusedVariables false
set_option linter.unusedSimpArgs false

set_option maxHeartbeats 1000000 in
theorem walk (x y : Int) (w : World) :
    Calls Try.prog 5 #[.agg #[.int .i64 x, .int .i64 y]] w fun e w' => e = .returned (.bool true) ∧ Below w.heap.size w w' := by
  have hb : Below (w.alloc (.cells #[.int .i64 x, .int .i64 y] 25)).heap.size (w.alloc (.cells #[.int .i64 x, .int .i64 y] 25)) (w.alloc (.cells #[.int .i64 x, .int .i64 y] 25)) := Below.refl _ _
  have hc := (bcell hb).1
  have hs := fun w => sIsBreeze_any x y w
  have hi := fun w => IsBreeze_any x y w
  generalize windB x y = R at hs hi
  have Hs := Lib.hid hs
  have Hi := Lib.hid hi
  clear hs hi
  cases R
  all_goals
    go_enter Try.func5, Try.ntmps5
    go_wp2_with (first | (go_at_call 16; with_reducible refine (toBreeze_any _ _ _).mono ?_; rintro e w1 ⟨rfl, hb1⟩; replace hb := grow_trans hb hb1; replace hc := (bcell hb).1; clear hb1) | (go_at_call 15; with_reducible refine (Hs.out _).mono ?_; rintro e w1 ⟨rfl, hb1⟩; replace hb := grow_trans hb hb1; replace hc := (bcell hb).1; clear hb1) | (go_at_call 17; with_reducible refine (Hi.out _).mono ?_; rintro e w1 ⟨rfl, hb1⟩; replace hb := grow_trans hb hb1; replace hc := (bcell hb).1; clear hb1))
    go_ret
    exact ⟨rfl, grow_trans (grow_alloc _ _) hb⟩

/-! the frame: the arguments opened, the row closed -/
set_option maxRecDepth 100000 in
theorem lifted (os : Os) (started : os.Started) (H : Type) (enc : TypeId × Value → H) :
    ReturnsInHanded {} Try.checked os 5 .any (Rows.fnExactIsBreezeSpec.pre6 enc Try.prog Try.f5 Rows.fnExactIsBreezeRow.domain false) (Rows.fnExactIsBreezeSpec.post enc Try.prog Try.f5 false true false false) := by
  refine law_lifted (C := Try.checked) own started (by kernel_rfl) Try.func5
    (ChangeSpec.witness6 (enc := enc) (C := Try.checked) false ⟨#[], #[.agg #[.int .i64 0, .int .i64 0]], []⟩ 8 (by kernel_rfl) (by kernel_rfl) (by kernel_rfl) (by kernel_rfl))
    laidOut (of_decide_eq_true (by kernel_rfl)) rfl Try.underlying4 rfl ?_
  intro W base args ds p hval hA
  rw [Try.params5] at hA hval
  obtain ⟨v0, vs0, d0, ds0, p0, q0, hargs, rfl, rfl, h0, r0⟩ := trodAll_cons hA
  obtain ⟨rfl, rfl, rfl⟩ := trodAll_nil r0
  obtain rfl : args = #[v0] := by cases args; simp_all
  obtain ⟨x0, y0, rfl⟩ := open_breeze (hval 0 25 v0 rfl rfl) h0
  exact ⟨rfl, walk x0 y0 W⟩

theorem over : Rows.fnExactIsBreezeRow.holds Try.pinned (OpenSpec.ofChange Rows.fnExactIsBreezeSpec) :=
  OpenClaim.holds_of_wide 5 Try.f5 rfl rfl rfl rfl rfl rfl rfl ⟨rfl, rfl, rfl, rfl, rfl⟩ rfl rfl rfl rfl rfl (by kernel_rfl) Try.func5 (by kernel_rfl)
    (of_decide_eq_true (by kernel_rfl)) (by unfold Func.isWrapper; first | (rw [if_pos (by decide +kernel)]; kernel_rfl) | (rw [if_neg (by decide +kernel)]; exact ⟨rfl, rfl⟩))
    (fun os started H enc _ => lifted os started H enc)

theorem proved : Rows.FnExactIsBreezeSaid := over
#print axioms proved
end Go.Proofs.Ytddfapmmpkchkaa.lIsBreeze
