/- FnExactBurningFuels returns true for all arguments: the program's BurningFuels answers as the reference's, leaves its arguments, and its result is new memory. Conditions: none. -/
import Derived.Test.YtabedcpibnnnhaaBurnF
import Derived.Test.YtabedcpibnnnhaaMarkF
import Derived.Test.YtabedcpibnnnhaaOpenU
namespace Go.Proofs.Ytabedcpibnnnhaa.lBurningFuels
open Go.ChangeShapes Go.WideShapes Go.ChangeAt Go.RowKit
set_option linter.unusedVariables false
set_option linter.unusedSimpArgs false
set_option maxRecDepth 100000

set_option maxHeartbeats 8000000 in
theorem walk (w : World) (v0 : Value) (z0 : List Fu) (k0 : Sl w 5 v0 z0.length (fus z0) ∧ ∀ z ∈ z0, z.n.size ≤ maxLen) (a1 : Int) (k1 : I64 a1) :
    Calls Try.prog 3 #[v0, .int .i64 a1] w fun e w' => e = .returned (.bool true) ∧ Below w.heap.size w w' := by
  have m0 := k0.1.len
  unfold maxLen at m0
  by_cases q0 : fszN z0 ≤ 1048576
  case neg =>
    have HZ := Lib.hid (szFuelS_no _ (1048576 : Int) z0 _ k0.1 k0.2 (by omega) (by omega) (by omega))
    go_enter Try.func3, Try.ntmps3
    go_wp2_with fail
    with_reducible refine HZ.out.mono ?_
    rintro e w1 ⟨rfl, hb1⟩
    have hb := Lib.hid hb1
    clear hb1 HZ
    go_wp2
    go_ret
    exact ⟨rfl, hb.out⟩
  have hz8 : z0.length ≤ 1048576 := by have := fszN_len z0; omega
  have HZ := Lib.hid (szFuelS_ok _ (1048576 : Int) z0 _ k0.1 k0.2 (by omega) (by omega) (by omega))
  have HT := Lib.hid fun (W : World) (hW : Below w.heap.size w W) => toFuelS_any v0 z0 W (k0.1.below hW) k0.2 hz8
  have hs := fun (W : World) (u0 : Value) (e0 : Sl W 5 u0 z0.length (fus z0)) => sBurningFuels_any u0 z0 a1 W e0 k0.2
  have hi := fun (W : World) (u0 : Value) (e0 : Sl W 5 u0 z0.length (fus z0)) => BurningFuels_any u0 z0 a1 W e0 k0.2
  unfold RetNmQ at hs
  unfold RetNm at hi
  have hlen : (bfL z0 a1).length ≤ z0.length := by
    unfold bfL
    split
    · rw [srtL_length]; exact bnL_le z0 a1 z0.length
    · simp
  simp only [nms_strs] at hs hi
  have hlm : ((bfL z0 a1).map bs).length = (bfL z0 a1).length := by simp
  rw [← hlm] at hs hi hlen
  clear hlm
  generalize (bfL z0 a1).map bs = rs at *
  generalize bfB z0 a1 = ok at *
  have Hs := Lib.hid hs
  have Hi := Lib.hid hi
  clear hs hi k1
  have hb : Hid (Below w.heap.size w w) := Below.refl _ _
  go_enter Try.func3, Try.ntmps3
  go_wp2_with fail
  refine (HZ.out).mono ?_
  rintro e w1 ⟨rfl, hb'⟩
  replace hb := Lib.hid (grow_trans hb.out hb')
  clear hb'
  clear HZ
  go_wp2_with fail
  refine (HT.out _ hb.out).mono ?_
  rintro e w2 ⟨cg, rfl, ocg, hb'⟩
  replace hb := Lib.hid (grow_trans hb.out hb')
  replace ocg := Lib.hid ocg
  clear hb'
  have srw0 := Lib.hid hb.out.size
  go_wp2_with fail
  refine (Hs.out _ cg (Sl.of_own ocg.out)).mono ?_
  rintro e w3 ⟨rw0, rfl, orw0, hb'⟩
  have lrw0 := Lib.hid orw0.lt
  have trw0 := Lib.hid hb'.size
  replace ocg := Lib.hid (own_below ocg.out hb')
  replace hb := Lib.hid (grow_trans hb.out hb')
  replace orw0 := Lib.hid orw0
  clear hb'
  clear ocg Hs
  have sW1 := Lib.hid (Nat.le_refl w3.heap.size)
  have scx := Lib.hid hb.out.size
  go_wp2_with fail
  refine (HT.out _ hb.out).mono ?_
  rintro e w4 ⟨cx, rfl, ocx, hb'⟩
  have lcx := Lib.hid ocx.lt
  have tcx := Lib.hid hb'.size
  replace orw0 := Lib.hid (orw0.out.below hb')
  replace hb := Lib.hid (grow_trans hb.out hb')
  replace ocx := Lib.hid ocx
  clear hb'
  have bX := Lib.hid (Below.refl w4.heap.size w4)
  go_wp2_with fail
  refine (Hi.out _ cx (Sl.of_own ocx.out)).mono ?_
  rintro e w5 ⟨rg, rfl, org, hb'⟩
  have srg := Lib.hid hb.out.size
  have lrg := Lib.hid org.lt
  replace orw0 := Lib.hid (orw0.out.below hb')
  replace ocx := Lib.hid (own_below ocx.out hb')
  replace hb := Lib.hid (grow_trans hb.out hb')
  replace org := Lib.hid org
  clear hb' bX
  go_wp2_with fail
  refine (eqStringS_any _ _ rs _ (Sl.of_own org.out) (Sl.of_q orw0.out)).mono ?_
  rintro e w6 ⟨rfl, hb'⟩
  replace orw0 := Lib.hid (orw0.out.below hb')
  replace ocx := Lib.hid (own_below ocx.out hb')
  replace org := Lib.hid (own_below org.out hb')
  replace hb := Lib.hid (grow_trans hb.out hb')
  clear hb'
  go_wp2_with fail
  refine (HT.out _ hb.out).mono ?_
  rintro e w7 ⟨cy, rfl, ocy, hb'⟩
  replace orw0 := Lib.hid (orw0.out.below hb')
  replace ocx := Lib.hid (own_below ocx.out hb')
  replace org := Lib.hid (own_below org.out hb')
  replace hb := Lib.hid (grow_trans hb.out hb')
  clear hb'
  replace ocy := Lib.hid ocy
  go_wp2_with fail
  refine (eqFuelS_any _ _ z0 _ (Sl.of_own ocx.out) (Sl.of_own ocy.out)).mono ?_
  rintro e w8 ⟨rfl, hb'⟩
  replace orw0 := Lib.hid (orw0.out.below hb')
  replace ocx := Lib.hid (own_below ocx.out hb')
  replace org := Lib.hid (own_below org.out hb')
  replace ocy := Lib.hid (own_below ocy.out hb')
  replace hb := Lib.hid (grow_trans hb.out hb')
  clear hb'
  clear ocy
  have HM := Lib.hid (markFuelS_any _ 1 z0.length _ _ _ ocx.out (by omega) hz8)
  go_wp2_with fail
  refine HM.out.mono ?_
  intro e w9 hm
  unfold RetMarkF at hm
  obtain ⟨rfl, om, hg⟩ := hm
  replace orw0 := Lib.hid (orw0.out.kept hg (fun j hj e => by have h1 := lrw0.out j hj; have h2 := lcx.out j e.symm; omega))
  replace org := Lib.hid (own_kept org.out hg (fun j hj e => by have h1 := lrg.out j hj; have h2 := lcx.out j e.symm; omega))
  replace hb := Lib.hid (hb.out.grown hg hb.out.size (fun j hj => by have h1 := scx.out; have h2 := lcx.out j hj; omega))
  clear hg HM om ocx
  go_wp2_with fail
  refine (eqStringS_any _ _ rs _ (Sl.of_own org.out) (Sl.of_q orw0.out)).mono ?_
  rintro e w10 ⟨rfl, hb'⟩
  replace orw0 := Lib.hid (orw0.out.below hb')
  replace org := Lib.hid (own_below org.out hb')
  replace hb := Lib.hid (grow_trans hb.out hb')
  clear hb'
  have HM := Lib.hid (markStringS_any _ 1 rs.length _ _ _ org.out (by omega) (by omega))
  go_wp2_with fail
  refine HM.out.mono ?_
  intro e w11 hm
  unfold RetMarkS at hm
  obtain ⟨rfl, om, hg⟩ := hm
  replace orw0 := Lib.hid (orw0.out.kept hg (fun j hj e => by have h1 := lrw0.out j hj; have h2 := lrg.out j e.symm; have h3 := tcx.out; omega))
  replace hb := Lib.hid (hb.out.grown hg hb.out.size (fun j hj => by have h1 := srg.out; have h2 := lrg.out j hj; omega))
  replace org := Lib.hid om
  clear hg HM om
  have HH := Lib.hid fun W o => heldStringS_any rg 1 rs.length W o (by omega) (by omega)
  go_wp2_with fail
  refine (HH.out _ (Sl.of_own org.out)).mono ?_
  rintro e w12 ⟨rfl, hb'⟩
  replace orw0 := Lib.hid (orw0.out.below hb')
  replace org := Lib.hid (own_below org.out hb')
  replace hb := Lib.hid (grow_trans hb.out hb')
  clear hb'
  go_wp2_with fail
  refine (HT.out _ hb.out).mono ?_
  rintro e w13 ⟨ch, rfl, och, hb'⟩
  replace orw0 := Lib.hid (orw0.out.below hb')
  replace org := Lib.hid (own_below org.out hb')
  replace hb := Lib.hid (grow_trans hb.out hb')
  replace och := Lib.hid och
  clear hb'
  go_wp2_with fail
  refine (Hi.out _ ch (Sl.of_own och.out)).mono ?_
  rintro e w14 ⟨rh, rfl, orh, hb'⟩
  replace orw0 := Lib.hid (orw0.out.below hb')
  replace org := Lib.hid (own_below org.out hb')
  replace och := Lib.hid (own_below och.out hb')
  replace hb := Lib.hid (grow_trans hb.out hb')
  replace orh := Lib.hid orh
  clear hb'
  clear och
  go_wp2_with fail
  refine (eqStringS_any _ _ rs _ (Sl.of_own orh.out) (Sl.of_q orw0.out)).mono ?_
  rintro e w15 ⟨rfl, hb'⟩
  replace orw0 := Lib.hid (orw0.out.below hb')
  replace org := Lib.hid (own_below org.out hb')
  replace orh := Lib.hid (own_below orh.out hb')
  replace hb := Lib.hid (grow_trans hb.out hb')
  clear hb'
  go_wp2_with fail
  refine (HH.out _ (Sl.of_own org.out)).mono ?_
  rintro e w16 ⟨rfl, hb'⟩
  replace orw0 := Lib.hid (orw0.out.below hb')
  replace org := Lib.hid (own_below org.out hb')
  replace orh := Lib.hid (own_below orh.out hb')
  replace hb := Lib.hid (grow_trans hb.out hb')
  clear hb'
  go_wp2
  go_ret
  exact ⟨rfl, hb.out⟩

/-! the frame: the arguments opened, the row closed -/
set_option maxRecDepth 100000 in
theorem lifted (os : Os) (started : os.Started) (H : Type) (enc : TypeId × Value → H) :
    ReturnsInHanded {} Try.checked os 3 .any (Rows.fnExactBurningFuelsSpec.pre6 enc Try.prog Try.f3 Rows.fnExactBurningFuelsRow.domain false) (Rows.fnExactBurningFuelsSpec.post enc Try.prog Try.f3 false true false false) := by
  refine law_lifted (C := Try.checked) own started (by kernel_rfl) Try.func3
    (ChangeSpec.witness6 (enc := enc) (C := Try.checked) false ⟨#[], #[.slice none 0 0, .int .i64 0], []⟩ 8 (by kernel_rfl) (by kernel_rfl) (by kernel_rfl) (by kernel_rfl))
    laidOut (of_decide_eq_true (by kernel_rfl)) rfl Try.underlying4 rfl ?_
  intro W base args ds p hval hA
  rw [Try.params3] at hA hval
  obtain ⟨v0, vs0, d0, ds0, p0, q0, hargs, rfl, rfl, h0, r0⟩ := trodAll_cons hA
  obtain ⟨v1, vs1, d1, ds1, p1, q1, rfl, rfl, rfl, h1, r1⟩ := trodAll_cons r0
  obtain ⟨rfl, rfl, rfl⟩ := trodAll_nil r1
  obtain rfl : args = #[v0, v1] := by cases args; simp_all
  obtain ⟨z0, b0⟩ := open_fuels (hval 0 22 v0 rfl rfl) h0
  obtain ⟨a1, rfl, b1⟩ := open_i (hval 1 3 v1 rfl rfl) h1
  exact ⟨rfl, walk W v0 z0 b0 a1 b1⟩

theorem over : Rows.fnExactBurningFuelsRow.holds Try.pinned (OpenSpec.ofChange Rows.fnExactBurningFuelsSpec) :=
  OpenClaim.holds_of_wide 3 Try.f3 rfl rfl rfl rfl rfl rfl rfl ⟨rfl, rfl, rfl, rfl, rfl⟩ rfl rfl rfl rfl rfl (by kernel_rfl) Try.func3 (by kernel_rfl)
    (of_decide_eq_true (by kernel_rfl)) (by unfold Func.isWrapper; first | (rw [if_pos (by decide +kernel)]; kernel_rfl) | (rw [if_neg (by decide +kernel)]; exact ⟨rfl, rfl⟩))
    (fun os started H enc _ => lifted os started H enc)

theorem proved : Rows.FnExactBurningFuelsSaid := over
#print axioms proved
end Go.Proofs.Ytabedcpibnnnhaa.lBurningFuels
