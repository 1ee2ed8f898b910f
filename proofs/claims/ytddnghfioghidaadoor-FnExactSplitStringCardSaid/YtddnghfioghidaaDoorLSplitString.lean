/- FnExactSplitString returns true for all arguments: the program's SplitString answers as the reference's, and its result is new memory. Conditions: none beyond the row's. -/
import Derived.Test.YtddnghfioghidaaDoorSplR
namespace Go.Proofs.YtddnghfioghidaaDoor.lSplitString
open Go.ChangeShapes Go.WideShapes Go.ChangeAt Go.RowKit Go.Proofs.YtddnghfioghidaaDoor
set_option linter.unusedVariables false
set_option linter.unusedSimpArgs false
set_option maxRecDepth 100000

set_option maxHeartbeats 4000000 in
theorem walk (W : World) (hL : laidMetH Tryd.prog Rows.fnExactSplitStringRow.laid W) (hsh : W.ShapedOpen Tryd.prog) (s0 : ByteArray) (k0 : s0.size ≤ maxLen) (s1 : ByteArray) (k1 : s1.size ≤ maxLen) :
    Calls Tryd.prog 3 #[.string s0, .string s1] W fun e w' => e = .returned (.bool true) ∧ Below W.heap.size W w' := by
  unfold maxLen at k0 k1
  have hlen := len_of hsh
  have HLn := Lib.hid fun W' (hW : Below W.heap.size W W') => hlen.below hW
  clear hL hlen hsh
  by_cases q0 : s0.size ≤ 1048576
  case neg =>
    clear HLn
    go_enter Tryd.func3, Tryd.ntmps3
    go_wp2
    go_ret
    exact ⟨rfl, Below.refl _ _⟩
  by_cases q1 : s1.size ≤ 1048576
  case neg =>
    clear HLn
    go_enter Tryd.func3, Tryd.ntmps3
    go_wp2
    go_ret
    exact ⟨rfl, Below.refl _ _⟩
  have Hs := Lib.hid fun W => sSplitString_any s0 s1 W q0 q1
  have Hi := Lib.hid fun W hm => SplitString_any s0 s1 W q0 q1 hm
  have hlen := splL_le s0 s1
  generalize splL s0 s1 = rs at *
  generalize splB s0 s1 = ok at *
  have hb : Below W.heap.size W W := Below.refl _ _
  go_enter Tryd.func3, Tryd.ntmps3
  go_wp2_with fail
  with_reducible refine (Hs.out _).mono ?_
  rintro e w1 ⟨rw0, rfl, orw0, hb1⟩
  replace hb := grow_trans hb hb1
  have lrw0 := Lib.hid orw0.lt
  have Hm1 := HLn.out _ hb
  have srw := hb.size
  go_wp2_with fail
  with_reducible refine (Hi.out _ Hm1).mono ?_
  rintro e w2 ⟨rg0, rfl, org0, hb2⟩
  replace orw0 := Qw.below orw0 hb2
  replace hb := grow_trans hb hb2
  have lrg0 := Lib.hid org0.lt
  go_wp2_with fail
  with_reducible refine (eqStringS_any _ _ rs _ (Sl.of_own org0) (Sl.of_q orw0)).mono ?_
  rintro e w3 ⟨rfl, hb3⟩
  replace orw0 := Qw.below orw0 hb3
  replace org0 := own_below org0 hb3
  replace hb := grow_trans hb hb3
  have HM := markStringS_any _ 1 rs.length _ _ _ org0 (by omega) (by omega)
  have HM := Lib.hid HM
  clear hb1 hb2 hb3 Hm1
  go_wp2_with fail
  refine HM.out.mono ?_
  intro e w4 hm
  unfold RetMarkS at hm
  obtain ⟨rfl, om, hg⟩ := hm
  replace orw0 := Qw.kept orw0 hg (fun j hj e => by have h1 := lrw0.out j hj; have h2 := lrg0.out j e.symm; omega)
  replace hb := hb.grown hg hb.size (fun j hj => by have h2 := lrg0.out j hj; omega)
  clear hg HM org0
  have HH := fun W o => heldStringS_any rg0 1 rs.length W o (by omega) (by omega)
  have HH := Lib.hid HH
  go_wp2_with fail
  refine (HH.out _ (Sl.of_own om)).mono ?_
  rintro e w5 ⟨rfl, hb5⟩
  replace om := own_below om hb5
  replace orw0 := Qw.below orw0 hb5
  replace hb := grow_trans hb hb5
  have Hm1 := HLn.out _ hb
  go_wp2_with fail
  with_reducible refine (Hi.out _ Hm1).mono ?_
  rintro e w6 ⟨rh0, rfl, orh0, hb6⟩
  replace om := own_below om hb6
  replace orw0 := Qw.below orw0 hb6
  replace hb := grow_trans hb hb6
  go_wp2_with fail
  with_reducible refine (eqStringS_any _ _ rs _ (Sl.of_own orh0) (Sl.of_q orw0)).mono ?_
  rintro e w7 ⟨rfl, hb7⟩
  replace om := own_below om hb7
  replace hb := grow_trans hb hb7
  clear hb5 hb6 hb7 Hm1 orh0 orw0
  go_wp2_with fail
  refine (HH.out _ (Sl.of_own om)).mono ?_
  rintro e w8 ⟨rfl, hb8⟩
  replace hb := grow_trans hb hb8
  go_wp2
  go_ret
  exact ⟨rfl, hb⟩

/-! the frame: the arguments opened, the row closed -/
set_option maxRecDepth 100000 in
theorem lifted (os : Os) (started : os.Started) (H : Type) (enc : TypeId × Value → H) :
    ReturnsInHanded {} Tryd.checked os 3 .any (fun w args => (Rows.fnExactSplitStringSpec.pre enc Tryd.prog Tryd.f3 [] false w args ∧ laidMetH Tryd.prog Rows.fnExactSplitStringRow.laid w) ∧ sizedMet enc Tryd.prog Tryd.f3 (OpenSpec.ofChange Rows.fnExactSplitStringSpec) false w args) (Rows.fnExactSplitStringSpec.post enc Tryd.prog Tryd.f3 false true false false) := by
  refine law_laidS (C := Tryd.checked) Rows.fnExactSplitStringRow.laid own started (by kernel_rfl) Tryd.func3
    (ChangeSpec.witness_shaped (enc := enc) (C := Tryd.checked) (os := os) (X := fun w _ => laidMetH Tryd.prog Rows.fnExactSplitStringRow.laid w) false (World.laidAll Tryd.prog os Rows.fnExactSplitStringRow.laid) #[.string ByteArray.empty, .string ByteArray.empty] 8 (World.laidAll_os _ _ _) (World.shaped_of_ZipB (by kernel_rfl) (by kernel_rfl)) (by kernel_rfl) (by kernel_rfl) (by kernel_rfl) (by rw [MakeChecks.laidMetH_plain _ _ _ (by kernel_rfl)]; exact laidMet_laidAll _ (by kernel_rfl) (by kernel_rfl)))
    laidOut (of_decide_eq_true (by kernel_rfl)) rfl Tryd.underlying4 rfl ?_
  intro W base args ds p hL hsh hval hA
  rw [Tryd.params3] at hA hval
  obtain ⟨v0, vs0, d0, ds0, p0, q0, hargs, rfl, rfl, h0, r0⟩ := trodAll_cons hA
  obtain ⟨v1, vs1, d1, ds1, p1, q1, rfl, rfl, rfl, h1, r1⟩ := trodAll_cons r0
  obtain ⟨rfl, rfl, rfl⟩ := trodAll_nil r1
  obtain rfl : args = #[v0, v1] := by cases args; simp_all
  obtain ⟨s0, rfl, b0⟩ := open_s (hval 0 9 v0 rfl rfl) h0
  obtain ⟨s1, rfl, b1⟩ := open_s (hval 1 9 v1 rfl rfl) h1
  exact ⟨rfl, walk W hL hsh s0 b0 s1 b1⟩

theorem over : Rows.fnExactSplitStringRow.holds Tryd.pinned (OpenSpec.ofChange Rows.fnExactSplitStringSpec) :=
  OpenClaim.holds_of_wide 3 Tryd.f3 rfl rfl rfl rfl rfl rfl rfl ⟨rfl, rfl, rfl, rfl, rfl⟩ rfl rfl rfl rfl rfl (by kernel_rfl) Tryd.func3 (by kernel_rfl)
    (of_decide_eq_true (by kernel_rfl)) (by unfold Func.isWrapper; first | (rw [if_pos (by decide +kernel)]; kernel_rfl) | (rw [if_neg (by decide +kernel)]; exact ⟨rfl, rfl⟩))
    (fun os started H enc _ => lifted os started H enc)

theorem proved : Rows.FnExactSplitStringCardSaid :=
  Claim7.holds_tied_plain_at .later [] [.data, .pinned] true (true, "a64092c0d91823f8f6b142458e85c942dff3abef76a811f77243bd2608d0bb5f") true
    over (fun _ h => by cases h) (by kernel_rfl) (fun _ h => by cases h) fnExactSplitString_row_tie rfl ⟨rfl, rfl⟩ (by kernel_rfl) rfl
    (fun f fn hf hfn => by
      obtain rfl : f = 3 := Option.some.inj ((show Tryd.prog.funcNamed Rows.fnExactSplitStringRow.func = some 3 by kernel_rfl).symm.trans hf) |>.symm
      obtain rfl : fn = Tryd.f3 := (Option.some.inj (Tryd.func3.symm.trans hfn)).symm
      exact ⟨by kernel_rfl, fun j t ht => by
        rw [Tryd.params3] at ht
        have hm : t ∈ [9, 9] := by simpa using Array.mem_of_getElem? ht
        have hall : ([9, 9].all fun u => !Tryd.prog.wantsStandIn u) = true := by kernel_rfl
        exact (show Tryd.prog.wantsStandIn t = false by simpa using List.all_eq_true.1 hall t hm)⟩)
    (by kernel_rfl)
#print axioms proved
end Go.Proofs.YtddnghfioghidaaDoor.lSplitString
