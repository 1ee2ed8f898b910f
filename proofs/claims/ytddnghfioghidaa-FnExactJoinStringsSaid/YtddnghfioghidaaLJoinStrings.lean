/- FnExactJoinStrings returns true for all arguments: the program's JoinStrings answers as the reference's, leaves its arguments, and its result is new memory. Conditions: none. -/
import Derived.Test.YtddnghfioghidaaJoinS
import Derived.Test.YtddnghfioghidaaOpenS
namespace Go.Proofs.Ytddnghfioghidaa.lJoinStrings
open Go.ChangeShapes Go.WideShapes Go.ChangeAt Go.RowKit
set_option linter.unusedVariables false
set_option linter.unusedSimpArgs false
set_option maxRecDepth 100000


set_option maxHeartbeats 4000000 in
theorem walk (w : World) (v0 : Value) (z0 : List ByteArray) (k0 : Sl w 1 v0 z0.length (z0.map Value.string) ∧ ∀ z ∈ z0, z.size ≤ maxLen) (s1 : ByteArray) (k1 : s1.size ≤ maxLen) :
    Calls Try.prog 3 #[v0, .string s1] w fun e w' => e = .returned (.bool true) ∧ Below w.heap.size w w' := by
  have hw0 : Below w.heap.size w w := Below.refl _ _
  have hb : Below w.heap.size w w := Below.refl _ _
  have hc := (bcell hb).1
  have m0 := k0.1.len
  unfold maxLen at m0
  have m1 := k1
  unfold maxLen at m1
  by_cases q0 : s1.size ≤ 1048576
  case neg =>
    go_enter Try.func3, Try.ntmps3
    go_wp2
    go_ret
    exact ⟨rfl, grow_trans hw0 hb⟩
  by_cases q1 : sszN z0 ≤ 1048576
  case neg =>
    go_enter Try.func3, Try.ntmps3
    go_wp2_with fail
    with_reducible refine (szStringS_no _ (1048576 : Int) z0 _ (k0.1.below (grow_trans hw0 hb)) k0.2 (by omega) (by omega) (by omega)).mono ?_
    rintro e w1 ⟨rfl, hb1⟩
    replace hb := grow_trans hb hb1
    replace hc := (bcell hb).1
    go_wp2
    go_ret
    exact ⟨rfl, grow_trans hw0 hb⟩
  have hs := fun (W : World) (u0 : Value) (e0 : Sl W 1 u0 z0.length (z0.map Value.string)) => sJoinStrings_any u0 z0 s1 W e0 q1 q0
  have hi := fun (W : World) (u0 : Value) (e0 : Sl W 1 u0 z0.length (z0.map Value.string)) => JoinStrings_any u0 z0 s1 W e0 q1 q0
  generalize hR0 : joR z0 s1 = R at hs hi
  have hR : ∃ m b, R = .tuple #[.string m, .bool b] := by rw [← hR0]; exact by unfold joR; exact jnV_shape _ _
  clear hR0
  obtain ⟨m, b, rfl⟩ := hR
  have Hs := Lib.hid hs
  have Hi := Lib.hid hi
  clear hs hi
  go_enter Try.func3, Try.ntmps3
  go_wp2_with fail
  with_reducible refine (szStringS_ok _ (1048576 : Int) z0 _ (k0.1.below (grow_trans hw0 hb)) k0.2 (by omega) (by omega) (by omega)).mono ?_
  rintro e w1 ⟨rfl, hb1⟩
  replace hb := grow_trans hb hb1
  replace hc := (bcell hb).1
  go_wp2_with fail
  with_reducible refine (toStringS_any _ z0 _ (k0.1.below (grow_trans hw0 hb)) k0.2 (by have := sszN_len z0; omega)).mono ?_
  rintro e w2 ⟨cg0, rfl, ocg0, hb2⟩
  replace hb := grow_trans hb hb2
  replace hc := (bcell hb).1
  go_wp2_with fail
  with_reducible refine (Hs.out _ cg0 (Sl.of_own ocg0)).mono ?_
  rintro e w3 ⟨rfl, hb3⟩
  replace ocg0 := own_below ocg0 hb3
  replace hb := grow_trans hb hb3
  replace hc := (bcell hb).1
  go_wp2_with fail
  with_reducible refine (toStringS_any _ z0 _ (k0.1.below (grow_trans hw0 hb)) k0.2 (by have := sszN_len z0; omega)).mono ?_
  rintro e w4 ⟨cx0, rfl, ocx0, hb4⟩
  replace ocg0 := own_below ocg0 hb4
  replace hb := grow_trans hb hb4
  replace hc := (bcell hb).1
  go_wp2_with fail
  with_reducible refine (Hi.out _ cx0 (Sl.of_own ocx0)).mono ?_
  rintro e w5 ⟨rfl, hb5⟩
  replace ocg0 := own_below ocg0 hb5
  replace ocx0 := own_below ocx0 hb5
  replace hb := grow_trans hb hb5
  replace hc := (bcell hb).1
  go_wp2_with fail
  with_reducible refine (toStringS_any _ z0 _ (k0.1.below (grow_trans hw0 hb)) k0.2 (by have := sszN_len z0; omega)).mono ?_
  rintro e w6 ⟨cy0, rfl, ocy0, hb6⟩
  replace ocg0 := own_below ocg0 hb6
  replace ocx0 := own_below ocx0 hb6
  replace hb := grow_trans hb hb6
  replace hc := (bcell hb).1
  go_wp2_with fail
  with_reducible refine (eqStringS_any _ _ z0 _ (Sl.of_own ocx0) (Sl.of_own ocy0)).mono ?_
  rintro e w7 ⟨rfl, hb7⟩
  replace ocg0 := own_below ocg0 hb7
  replace ocx0 := own_below ocx0 hb7
  replace ocy0 := own_below ocy0 hb7
  replace hb := grow_trans hb hb7
  replace hc := (bcell hb).1
  go_wp2
  go_ret
  exact ⟨rfl, grow_trans hw0 hb⟩

/-! the frame: the arguments opened, the row closed -/
set_option maxRecDepth 100000 in
theorem lifted (os : Os) (started : os.Started) (H : Type) (enc : TypeId × Value → H) :
    ReturnsInHanded {} Try.checked os 3 .any (Rows.fnExactJoinStringsSpec.pre6 enc Try.prog Try.f3 Rows.fnExactJoinStringsRow.domain false) (Rows.fnExactJoinStringsSpec.post enc Try.prog Try.f3 false true false false) := by
  refine law_lifted (C := Try.checked) own started (by kernel_rfl) Try.func3
    (ChangeSpec.witness6 (enc := enc) (C := Try.checked) false ⟨#[], #[.slice none 0 0, .string ByteArray.empty], []⟩ 8 (by kernel_rfl) (by kernel_rfl) (by kernel_rfl) (by kernel_rfl))
    laidOut (of_decide_eq_true (by kernel_rfl)) rfl Try.underlying4 rfl ?_
  intro W base args ds p hval hA
  rw [Try.params3] at hA hval
  obtain ⟨v0, vs0, d0, ds0, p0, q0, hargs, rfl, rfl, h0, r0⟩ := trodAll_cons hA
  obtain ⟨v1, vs1, d1, ds1, p1, q1, rfl, rfl, rfl, h1, r1⟩ := trodAll_cons r0
  obtain ⟨rfl, rfl, rfl⟩ := trodAll_nil r1
  obtain rfl : args = #[v0, v1] := by cases args; simp_all
  obtain ⟨z0, b0⟩ := open_ss (hval 0 22 v0 rfl rfl) h0
  obtain ⟨s1, rfl, b1⟩ := open_s (hval 1 9 v1 rfl rfl) h1
  exact ⟨rfl, walk W v0 z0 b0 s1 b1⟩

theorem over : Rows.fnExactJoinStringsRow.holds Try.pinned (OpenSpec.ofChange Rows.fnExactJoinStringsSpec) :=
  OpenClaim.holds_of_wide 3 Try.f3 rfl rfl rfl rfl rfl rfl rfl ⟨rfl, rfl, rfl, rfl, rfl⟩ rfl rfl rfl rfl rfl (by kernel_rfl) Try.func3 (by kernel_rfl)
    (of_decide_eq_true (by kernel_rfl)) (by unfold Func.isWrapper; first | (rw [if_pos (by decide +kernel)]; kernel_rfl) | (rw [if_neg (by decide +kernel)]; exact ⟨rfl, rfl⟩))
    (fun os started H enc _ => lifted os started H enc)

theorem proved : Rows.FnExactJoinStringsSaid := over
#print axioms proved
end Go.Proofs.Ytddnghfioghidaa.lJoinStrings
