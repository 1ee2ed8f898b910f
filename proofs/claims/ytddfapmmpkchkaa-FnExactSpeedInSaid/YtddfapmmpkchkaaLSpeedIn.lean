/- FnExactSpeedIn returns true for all arguments: the program's SpeedIn is the reference's. Conditions: none. -/
import Derived.Test.YtddfapmmpkchkaaFuel2
namespace Go.Proofs.Ytddfapmmpkchkaa.lSpeedIn
open Go.ChangeShapes Go.WideShapes Go.ChangeAt Go.RowKit
set_option linter.unusedVariables false
set_option linter.unusedSimpArgs false

set_option maxHeartbeats 1000000 in
theorem walk (i : Int) (n : ByteArray) (r l o : Int) (hm : n.size ≤ maxLen) (m : Int) (_ : I64 m) (s : Int) (_ : I64 s) (w : World) :
    Calls Try.prog 11 #[.agg #[.int .i64 i, .string n, .int .i64 r, .int .i64 l, .int .i64 o], .int .i64 m, .int .i64 s] w fun e w' => e = .returned (.bool true) ∧ Below w.heap.size w w' := by
  have hb : Below (w.alloc (.cells #[.int .i64 i, .string n, .int .i64 r, .int .i64 l, .int .i64 o] 36)).heap.size (w.alloc (.cells #[.int .i64 i, .string n, .int .i64 r, .int .i64 l, .int .i64 o] 36)) (w.alloc (.cells #[.int .i64 i, .string n, .int .i64 r, .int .i64 l, .int .i64 o] 36)) := Below.refl _ _
  have hc := (bcell hb).1
  by_cases hn : n.size ≤ 1048576
  · have hs := fun w => sSpeedIn_any i n r l o m s w hm
    have hi := fun w => SpeedIn_any i n r l o m s w hm
    generalize hR0 : okR (fuelB i n.data.toList r l o && inB m 0 400 && inB s (-45) 45) (speedN r l m s) = R at hs hi
    have hR : R = .tuple #[.int .i64 0, .bool false] ∨ ∃ m, R = .tuple #[.int .i64 m, .bool true] := by rw [← hR0]; exact okR_cases _ _
    clear hR0
    rcases hR with rfl | ⟨m, rfl⟩
    all_goals
      have Hs := Lib.hid hs
      have Hi := Lib.hid hi
      clear hs hi
      go_enter Try.func11, Try.ntmps11
      go_wp2_with (first | (go_at_call 22; with_reducible refine (szFuel_ok _ _ _ _ _ _ hn).mono ?_; rintro e w1 ⟨rfl, hb1⟩; replace hb := grow_trans hb hb1; replace hc := (bcell hb).1; clear hb1) | (go_at_call 24; with_reducible refine (toFuel_any _ _ _ _ _ _).mono ?_; rintro e w1 ⟨rfl, hb1⟩; replace hb := grow_trans hb hb1; replace hc := (bcell hb).1; clear hb1) | (go_at_call 30; with_reducible refine (Hs.out _).mono ?_; rintro e w1 ⟨rfl, hb1⟩; replace hb := grow_trans hb hb1; replace hc := (bcell hb).1; clear hb1) | (go_at_call 31; with_reducible refine (Hi.out _).mono ?_; rintro e w1 ⟨rfl, hb1⟩; replace hb := grow_trans hb hb1; replace hc := (bcell hb).1; clear hb1))
      go_ret
      exact ⟨rfl, grow_trans (grow_alloc _ _) hb⟩
  · go_enter Try.func11, Try.ntmps11
    go_wp2_with (first | (go_at_call 22; with_reducible refine (szFuel_no _ _ _ _ _ _ hm hn).mono ?_; rintro e w1 ⟨rfl, hb1⟩; replace hb := grow_trans hb hb1; replace hc := (bcell hb).1; clear hb1))
    go_ret
    exact ⟨rfl, grow_trans (grow_alloc _ _) hb⟩

/-! the frame: the arguments opened, the row closed -/
set_option maxRecDepth 100000 in
theorem lifted (os : Os) (started : os.Started) (H : Type) (enc : TypeId × Value → H) :
    ReturnsInHanded {} Try.checked os 11 .any (Rows.fnExactSpeedInSpec.pre6 enc Try.prog Try.f11 Rows.fnExactSpeedInRow.domain false) (Rows.fnExactSpeedInSpec.post enc Try.prog Try.f11 false true false false) := by
  refine law_lifted (C := Try.checked) own started (by kernel_rfl) Try.func11
    (ChangeSpec.witness6 (enc := enc) (C := Try.checked) false ⟨#[], #[.agg #[.int .i64 0, .string ByteArray.empty, .int .i64 0, .int .i64 0, .int .i64 0], .int .i64 0, .int .i64 0], []⟩ 8 (by kernel_rfl) (by kernel_rfl) (by kernel_rfl) (by kernel_rfl))
    laidOut (of_decide_eq_true (by kernel_rfl)) rfl Try.underlying4 rfl ?_
  intro W base args ds p hval hA
  rw [Try.params11] at hA hval
  obtain ⟨v0, vs0, d0, ds0, p0, q0, hargs, rfl, rfl, h0, r0⟩ := trodAll_cons hA
  obtain ⟨v1, vs1, d1, ds1, p1, q1, rfl, rfl, rfl, h1, r1⟩ := trodAll_cons r0
  obtain ⟨v2, vs2, d2, ds2, p2, q2, rfl, rfl, rfl, h2, r2⟩ := trodAll_cons r1
  obtain ⟨rfl, rfl, rfl⟩ := trodAll_nil r2
  obtain rfl : args = #[v0, v1, v2] := by cases args; simp_all
  obtain ⟨ei0, en0, er0, el0, eo0, rfl, b0⟩ := open_fuel (hval 0 36 v0 rfl rfl) h0
  obtain ⟨a1, rfl, b1⟩ := open_i (hval 1 3 v1 rfl rfl) h1
  obtain ⟨a2, rfl, b2⟩ := open_i (hval 2 3 v2 rfl rfl) h2
  exact ⟨rfl, walk ei0 en0 er0 el0 eo0 b0 a1 b1 a2 b2 W⟩

theorem over : Rows.fnExactSpeedInRow.holds Try.pinned (OpenSpec.ofChange Rows.fnExactSpeedInSpec) :=
  OpenClaim.holds_of_wide 11 Try.f11 rfl rfl rfl rfl rfl rfl rfl ⟨rfl, rfl, rfl, rfl, rfl⟩ rfl rfl rfl rfl rfl (by kernel_rfl) Try.func11 (by kernel_rfl)
    (of_decide_eq_true (by kernel_rfl)) (by unfold Func.isWrapper; first | (rw [if_pos (by decide +kernel)]; kernel_rfl) | (rw [if_neg (by decide +kernel)]; exact ⟨rfl, rfl⟩))
    (fun os started H enc _ => lifted os started H enc)

theorem proved : Rows.FnExactSpeedInSaid := over
#print axioms proved
end Go.Proofs.Ytddfapmmpkchkaa.lSpeedIn
