/- FnExactPushTowards returns true for all arguments: the program's PushTowards is the reference's. Conditions: none. -/
import Derived.Test.YtddfapmmpkchkaaPush
namespace Go.Proofs.Ytddfapmmpkchkaa.lPushTowards
open Go.ChangeShapes Go.WideShapes Go.ChangeAt Go.RowKit
set_option linter.unusedVariables false
set_option linter.unusedSimpArgs false

theorem pushR_cases (x y a : Int) : pushR x y a = .tuple #[.int .i64 0, .bool false] ∨ ∃ m, pushR x y a = .tuple #[.int .i64 m, .bool true] := by
  unfold pushR; split <;> simp
set_option maxHeartbeats 1000000 in
theorem walk (x y a : Int) (_ : I64 a) (w : World) :
    Calls Try.prog 9 #[.agg #[.int .i64 x, .int .i64 y], .int .i64 a] w fun e w' => e = .returned (.bool true) ∧ Below w.heap.size w w' := by
  have hb : Below (w.alloc (.cells #[.int .i64 x, .int .i64 y] 25)).heap.size (w.alloc (.cells #[.int .i64 x, .int .i64 y] 25)) (w.alloc (.cells #[.int .i64 x, .int .i64 y] 25)) := Below.refl _ _
  have hc := (bcell hb).1
  have hs := fun w => sPushTowards_any x y a w
  have hi := fun w => PushTowards_any x y a w
  have hr := pushR_cases x y a
  generalize pushR x y a = R at hs hi hr
  rcases hr with rfl | ⟨m, rfl⟩
  all_goals
    have Hs := Lib.hid hs
    have Hi := Lib.hid hi
    clear hs hi
    go_enter Try.func9, Try.ntmps9
    go_wp2_with (first | (go_at_call 16; with_reducible refine (toBreeze_any _ _ _).mono ?_; rintro e w1 ⟨rfl, hb1⟩; replace hb := grow_trans hb hb1; replace hc := (bcell hb).1; clear hb1) | (go_at_call 26; with_reducible refine (Hs.out _).mono ?_; rintro e w1 ⟨rfl, hb1⟩; replace hb := grow_trans hb hb1; replace hc := (bcell hb).1; clear hb1) | (go_at_call 27; with_reducible refine (Hi.out _).mono ?_; rintro e w1 ⟨rfl, hb1⟩; replace hb := grow_trans hb hb1; replace hc := (bcell hb).1; clear hb1))
    go_ret
    exact ⟨rfl, grow_trans (grow_alloc _ _) hb⟩

/-! the frame: the arguments opened, the row closed -/
set_option maxRecDepth 100000 in
theorem lifted (os : Os) (started : os.Started) (H : Type) (enc : TypeId × Value → H) :
    ReturnsInHanded {} Try.checked os 9 .any (Rows.fnExactPushTowardsSpec.pre6 enc Try.prog Try.f9 Rows.fnExactPushTowardsRow.domain false) (Rows.fnExactPushTowardsSpec.post enc Try.prog Try.f9 false true false false) := by
  refine law_lifted (C := Try.checked) own started (by kernel_rfl) Try.func9
    (ChangeSpec.witness6 (enc := enc) (C := Try.checked) false ⟨#[], #[.agg #[.int .i64 0, .int .i64 0], .int .i64 0], []⟩ 8 (by kernel_rfl) (by kernel_rfl) (by kernel_rfl) (by kernel_rfl))
    laidOut (of_decide_eq_true (by kernel_rfl)) rfl Try.underlying4 rfl ?_
  intro W base args ds p hval hA
  rw [Try.params9] at hA hval
  obtain ⟨v0, vs0, d0, ds0, p0, q0, hargs, rfl, rfl, h0, r0⟩ := trodAll_cons hA
  obtain ⟨v1, vs1, d1, ds1, p1, q1, rfl, rfl, rfl, h1, r1⟩ := trodAll_cons r0
  obtain ⟨rfl, rfl, rfl⟩ := trodAll_nil r1
  obtain rfl : args = #[v0, v1] := by cases args; simp_all
  obtain ⟨x0, y0, rfl⟩ := open_breeze (hval 0 25 v0 rfl rfl) h0
  obtain ⟨a1, rfl, b1⟩ := open_i (hval 1 3 v1 rfl rfl) h1
  exact ⟨rfl, walk x0 y0 a1 b1 W⟩

theorem over : Rows.fnExactPushTowardsRow.holds Try.pinned (OpenSpec.ofChange Rows.fnExactPushTowardsSpec) :=
  OpenClaim.holds_of_wide 9 Try.f9 rfl rfl rfl rfl rfl rfl rfl ⟨rfl, rfl, rfl, rfl, rfl⟩ rfl rfl rfl rfl rfl (by kernel_rfl) Try.func9 (by kernel_rfl)
    (of_decide_eq_true (by kernel_rfl)) (by unfold Func.isWrapper; first | (rw [if_pos (by decide +kernel)]; kernel_rfl) | (rw [if_neg (by decide +kernel)]; exact ⟨rfl, rfl⟩))
    (fun os started H enc _ => lifted os started H enc)

theorem proved : Rows.FnExactPushTowardsSaid := over
#print axioms proved
end Go.Proofs.Ytddfapmmpkchkaa.lPushTowards
