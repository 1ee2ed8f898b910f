/- FnExactIsFuel returns true for all arguments: the program's IsFuel is the reference's. Conditions: none. -/
import Derived.Test.YtddfapmmpkchkaaFuel2
namespace Go.Proofs.Ytddfapmmpkchkaa.lIsFuel
open Go.ChangeShapes Go.WideShapes Go.ChangeAt Go.RowKit
set_option linter.unusedVariables false
set_option linter.unusedSimpArgs false

set_option maxHeartbeats 1000000 in
theorem walk (i : Int) (n : ByteArray) (r l o : Int) (hm : n.size ≤ maxLen)  (w : World) :
    Calls Try.prog 8 #[.agg #[.int .i64 i, .string n, .int .i64 r, .int .i64 l, .int .i64 o]] w fun e w' => e = .returned (.bool true) ∧ Below w.heap.size w w' := by
  have hb : Below (w.alloc (.cells #[.int .i64 i, .string n, .int .i64 r, .int .i64 l, .int .i64 o] 36)).heap.size (w.alloc (.cells #[.int .i64 i, .string n, .int .i64 r, .int .i64 l, .int .i64 o] 36)) (w.alloc (.cells #[.int .i64 i, .string n, .int .i64 r, .int .i64 l, .int .i64 o] 36)) := Below.refl _ _
  have hc := (bcell hb).1
  by_cases hn : n.size ≤ 1048576
  · have hs := fun w => sIsFuel_any i n r l o  w hm
    have hi := fun w => IsFuel_any i n r l o  w hm
    generalize fuelB i n.data.toList r l o = R at hs hi
    cases R
    all_goals
      have Hs := Lib.hid hs
      have Hi := Lib.hid hi
      clear hs hi
      go_enter Try.func8, Try.ntmps8
      go_wp2_with (first | (go_at_call 22; with_reducible refine (szFuel_ok _ _ _ _ _ _ hn).mono ?_; rintro e w1 ⟨rfl, hb1⟩; replace hb := grow_trans hb hb1; replace hc := (bcell hb).1; clear hb1) | (go_at_call 24; with_reducible refine (toFuel_any _ _ _ _ _ _).mono ?_; rintro e w1 ⟨rfl, hb1⟩; replace hb := grow_trans hb hb1; replace hc := (bcell hb).1; clear hb1) | (go_at_call 23; with_reducible refine (Hs.out _).mono ?_; rintro e w1 ⟨rfl, hb1⟩; replace hb := grow_trans hb hb1; replace hc := (bcell hb).1; clear hb1) | (go_at_call 25; with_reducible refine (Hi.out _).mono ?_; rintro e w1 ⟨rfl, hb1⟩; replace hb := grow_trans hb hb1; replace hc := (bcell hb).1; clear hb1))
      go_ret
      exact ⟨rfl, grow_trans (grow_alloc _ _) hb⟩
  · go_enter Try.func8, Try.ntmps8
    go_wp2_with (first | (go_at_call 22; with_reducible refine (szFuel_no _ _ _ _ _ _ hm hn).mono ?_; rintro e w1 ⟨rfl, hb1⟩; replace hb := grow_trans hb hb1; replace hc := (bcell hb).1; clear hb1))
    go_ret
    exact ⟨rfl, grow_trans (grow_alloc _ _) hb⟩

/-! the frame: the arguments opened, the row closed -/
set_option maxRecDepth 100000 in
theorem lifted (os : Os) (started : os.Started) (H : Type) (enc : TypeId × Value → H) :
    ReturnsInHanded {} Try.checked os 8 .any (Rows.fnExactIsFuelSpec.pre6 enc Try.prog Try.f8 Rows.fnExactIsFuelRow.domain false) (Rows.fnExactIsFuelSpec.post enc Try.prog Try.f8 false true false false) := by
  refine law_lifted (C := Try.checked) own started (by kernel_rfl) Try.func8
    (ChangeSpec.witness6 (enc := enc) (C := Try.checked) false ⟨#[], #[.agg #[.int .i64 0, .string ByteArray.empty, .int .i64 0, .int .i64 0, .int .i64 0]], []⟩ 8 (by kernel_rfl) (by kernel_rfl) (by kernel_rfl) (by kernel_rfl))
    laidOut (of_decide_eq_true (by kernel_rfl)) rfl Try.underlying4 rfl ?_
  intro W base args ds p hval hA
  rw [Try.params8] at hA hval
  obtain ⟨v0, vs0, d0, ds0, p0, q0, hargs, rfl, rfl, h0, r0⟩ := trodAll_cons hA
  obtain ⟨rfl, rfl, rfl⟩ := trodAll_nil r0
  obtain rfl : args = #[v0] := by cases args; simp_all
  obtain ⟨ei0, en0, er0, el0, eo0, rfl, b0⟩ := open_fuel (hval 0 36 v0 rfl rfl) h0
  exact ⟨rfl, walk ei0 en0 er0 el0 eo0 b0 W⟩

theorem over : Rows.fnExactIsFuelRow.holds Try.pinned (OpenSpec.ofChange Rows.fnExactIsFuelSpec) :=
  OpenClaim.holds_of_wide 8 Try.f8 rfl rfl rfl rfl rfl rfl rfl ⟨rfl, rfl, rfl, rfl, rfl⟩ rfl rfl rfl rfl rfl (by kernel_rfl) Try.func8 (by kernel_rfl)
    (of_decide_eq_true (by kernel_rfl)) (by unfold Func.isWrapper; first | (rw [if_pos (by decide +kernel)]; kernel_rfl) | (rw [if_neg (by decide +kernel)]; exact ⟨rfl, rfl⟩))
    (fun os started H enc _ => lifted os started H enc)

theorem proved : Rows.FnExactIsFuelSaid := over
#print axioms proved
end Go.Proofs.Ytddfapmmpkchkaa.lIsFuel
