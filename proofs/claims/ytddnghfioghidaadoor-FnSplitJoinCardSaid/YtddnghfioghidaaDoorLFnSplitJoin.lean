/- FnSplitJoin returns true for all codes: the parts of a text joined give the text back, the program joins as the reference, and no two texts are less than one another. Conditions: none beyond the row's. -/
import Derived.Test.YtddnghfioghidaaDoorDrS
import Derived.Test.YtddnghfioghidaaDoorSJP
namespace Go.Proofs.YtddnghfioghidaaDoor.lFnSplitJoin
open Go.ChangeShapes Go.WideShapes Go.ChangeAt Go.RowKit Go.Proofs.YtddnghfioghidaaDoor
set_option linter.unusedVariables false
set_option linter.unusedSimpArgs false
set_option maxRecDepth 100000

theorem vBig_any (v : Value) (N : Nat) (cs : List Value) (w : World) (h : Sl w 1 v N cs) : Calls Tryd.prog 26 #[v] w fun e w' => e = .returned (.bool (decide ((65536 : Int) < (N : Int)))) ∧ w = w' := by
  have := h.len
  obtain ⟨A, c, rfl⟩ := h.val
  unfold maxLen at this
  clear h
  go_enter Tryd.func26, Tryd.ntmps26
  go_wp2
  go_ret
  exact ⟨rfl, rfl⟩
set_option maxHeartbeats 16000000 in
theorem walk (W : World) (hL : laidMetH Tryd.prog Rows.fnSplitJoinRow.laid W) (hsh : W.ShapedOpen Tryd.prog) (v0 : Value) (z0 : List Int) (k0 : Sl W 1 v0 z0.length (octs z0) ∧ ∀ z ∈ z0, 0 ≤ z ∧ z ≤ 255) :
    Calls Tryd.prog 7 #[v0] W fun e w' => e = .returned (.bool true) ∧ Below W.heap.size W w' := by
  have hlen := len_of hsh
  have HLn := Lib.hid fun W' (hW : Below W.heap.size W W') => hlen.below hW
  clear hL hlen hsh
  have HB := Lib.hid (vBig_any v0 _ _ W k0.1)
  by_cases hbig : (65536 : Int) < (z0.length : Int)
  case pos =>
    rw [decide_eq_true hbig] at HB
    clear HLn
    go_enter Tryd.func7, Tryd.ntmps7
    go_wp2_with fail
    with_reducible refine HB.out.mono ?_
    rintro e w1 ⟨rfl, rfl⟩
    go_wp2
    go_ret
    exact ⟨rfl, Below.refl _ _⟩
  rw [decide_eq_false hbig] at HB
  have D1 := Lib.hid fun w' (hW : Below W.heap.size W w') => DrawSplitString_any v0 z0 w' (k0.1.below hW) k0.2
  have D2 := Lib.hid fun w' (hW : Below W.heap.size W w') => DrawJoinStrings_any v0 z0 w' (k0.1.below hW) k0.2
  have D3 := Lib.hid fun w' (hW : Below W.heap.size W w') => DrawLessString_any v0 z0 w' (k0.1.below hW) k0.2
  have hb : Hid (Below W.heap.size W W) := Below.refl _ _
  clear k0
  go_enter Tryd.func7, Tryd.ntmps7
  go_wp2_with fail
  with_reducible refine HB.out.mono ?_
  rintro e w1 ⟨rfl, rfl⟩
  clear HB
  go_wp2_with fail
  refine (D1.out _ hb.out).mono ?_
  rintro e w2 ⟨s, p, rfl, hs, hp, hb'⟩
  replace hb := Lib.hid (grow_trans hb.out hb')
  have HS := Lib.hid (SplitString_any s p w2 (by omega) (by omega) (HLn.out _ hb.out))
  have hfacts : (¬ p.size = 1 ∧ splB s p = false ∧ splL s p = []) ∨ (∃ c, p = ⟨#[c]⟩ ∧ splB s p = true ∧ splL s p = splitS s c) := by
    by_cases h : p.size = 1
    · obtain ⟨c, rfl⟩ := sep_of h
      obtain ⟨e1, e2⟩ := spl_yes (s := s) (c := c) (by omega)
      exact .inr ⟨c, rfl, e1, e2⟩
    · obtain ⟨e1, e2⟩ := spl_no (s := s) (sep := p) (.inr h)
      exact .inl ⟨h, e1, e2⟩
  clear D1 hb' HLn
  rcases hfacts with ⟨hp1, e1, e2⟩ | ⟨c, rfl, e1, e2⟩
  · rw [e1, e2] at HS
    have hp2 : ((p.size : Int) == 1) = false := by rw [beq_eq_false_iff_ne]; omega
    have hp3 : ((p.size : Int) != 1) = true := by rw [bne, hp2]; rfl
    clear e1 e2
    go_wp2_with fail
    refine HS.out.mono ?_
    intro e w3 hr
    unfold RetStrs at hr
    obtain ⟨v, rfl, ho, hb'⟩ := hr
    obtain ⟨A, cc, rfl⟩ := (Sl.of_own ho).val
    replace hb := Lib.hid (grow_trans hb.out hb')
    clear HS ho hb'
    simp only [List.length_nil]
    go_wp2_with fail
    refine (D2.out _ hb.out).mono ?_
    rintro e w4 ⟨u, ss, q, rfl, hu, hls, hq, hb'⟩
    replace hb := Lib.hid (grow_trans hb.out hb')
    have hz := hls.ssz (by omega)
    have HI := fun W hu => JoinStrings_any u ss q W hu hz (by omega)
    have HJ := fun W hu => sJoinStrings_any u ss q W hu hz (by omega)
    have hjr : ∃ m b, joR ss q = .tuple #[.string m, .bool b] := jnV_shape _ _
    obtain ⟨m, b, hjr⟩ := hjr
    rw [hjr] at HI HJ
    replace HI := Lib.hid HI
    replace HJ := Lib.hid HJ
    replace hu := Lib.hid hu
    clear hb' hls hz hjr D2
    go_wp2_with fail
    refine (HI.out _ hu.out).mono ?_
    rintro e w5 ⟨rfl, hb'⟩
    replace hu := Lib.hid (hu.out.below hb')
    replace hb := Lib.hid (grow_trans hb.out hb')
    clear hb' HI
    go_wp2_with fail
    refine (HJ.out _ hu.out).mono ?_
    rintro e w6 ⟨rfl, hb'⟩
    replace hb := Lib.hid (grow_trans hb.out hb')
    clear hb' HJ hu
    go_wp2_with fail
    refine (D3.out _ hb.out).mono ?_
    rintro e w7 ⟨a, d, rfl, ha, hd, hb'⟩
    replace hb := Lib.hid (grow_trans hb.out hb')
    clear hb' D3
    have han := less_anti a.toList d.toList
    have H1 := fun W => LessString_any a d W
    have H2 := fun W => sLessString_any a d W
    have H3 := fun W => LessString_any d a W
    cases hL1 : Op.bytesLess a.toList d.toList with
    | false =>
      rw [hL1] at H1 H2
      replace H1 := Lib.hid H1
      replace H2 := Lib.hid H2
      clear H3 han hL1
      go_wp2_with (first | (go_at_call 32; refine (H1.out _).mono ?_; rintro e w' ⟨rfl, rfl⟩) | (go_at_call 33; refine (H2.out _).mono ?_; rintro e w' ⟨rfl, rfl⟩))
      go_ret
      exact ⟨rfl, hb.out⟩
    | true =>
      rw [hL1] at H1 H2 han
      have hL2 : Op.bytesLess d.toList a.toList = false := by simpa using han
      rw [hL2] at H3
      replace H1 := Lib.hid H1
      replace H2 := Lib.hid H2
      replace H3 := Lib.hid H3
      clear han hL1 hL2
      go_wp2_with (first | (go_at_call 32; with_reducible refine (H1.out _).mono ?_; rintro e w' ⟨rfl, rfl⟩) | (go_at_call 32; with_reducible refine (H3.out _).mono ?_; rintro e w' ⟨rfl, rfl⟩) | (go_at_call 33; refine (H2.out _).mono ?_; rintro e w' ⟨rfl, rfl⟩))
      go_ret
      exact ⟨rfl, hb.out⟩
  · rw [e1, e2] at HS
    have hk := split_ssz (s := s) (c := c) (by omega)
    have hjs := joR_split (s := s) (c := c) (by omega)
    have HK := fun v W hu => JoinStrings_any v (splitS s c) ⟨#[c]⟩ W hu hk (by rw [one_size]; omega)
    rw [hjs] at HK
    clear e1 e2 hk hjs
    generalize splitS s c = ls at *
    go_wp2_with fail
    refine HS.out.mono ?_
    intro e w3 hr
    unfold RetStrs at hr
    obtain ⟨v, rfl, ho, hb'⟩ := hr
    replace ho := Sl.of_own ho
    obtain ⟨A, cc, rfl⟩ := ho.val
    replace ho := Lib.hid ho
    replace HK := Lib.hid (HK (.slice A ls.length cc))
    replace hb := Lib.hid (grow_trans hb.out hb')
    clear HS hb'
    go_wp2_with fail
    refine (D2.out _ hb.out).mono ?_
    rintro e w4 ⟨u, ss, q, rfl, hu, hls, hq, hb'⟩
    replace hb := Lib.hid (grow_trans hb.out hb')
    replace ho := Lib.hid (ho.out.below hb')
    have hz := hls.ssz (by omega)
    have HI := fun W hu => JoinStrings_any u ss q W hu hz (by omega)
    have HJ := fun W hu => sJoinStrings_any u ss q W hu hz (by omega)
    have hjr : ∃ m b, joR ss q = .tuple #[.string m, .bool b] := jnV_shape _ _
    obtain ⟨m, b, hjr⟩ := hjr
    rw [hjr] at HI HJ
    replace HI := Lib.hid HI
    replace HJ := Lib.hid HJ
    replace hu := Lib.hid hu
    clear hb' hls hz hjr D2
    go_wp2_with fail
    refine (HI.out _ hu.out).mono ?_
    rintro e w5 ⟨rfl, hb'⟩
    replace hu := Lib.hid (hu.out.below hb')
    replace hb := Lib.hid (grow_trans hb.out hb')
    replace ho := Lib.hid (ho.out.below hb')
    clear hb' HI
    go_wp2_with fail
    refine (HJ.out _ hu.out).mono ?_
    rintro e w6 ⟨rfl, hb'⟩
    replace hb := Lib.hid (grow_trans hb.out hb')
    replace ho := Lib.hid (ho.out.below hb')
    clear hb' HJ hu
    go_wp2_with fail
    refine (D3.out _ hb.out).mono ?_
    rintro e w7 ⟨a, d, rfl, ha, hd, hb'⟩
    replace hb := Lib.hid (grow_trans hb.out hb')
    replace ho := Lib.hid (ho.out.below hb')
    clear hb' D3
    have han := less_anti a.toList d.toList
    have H1 := fun W => LessString_any a d W
    have H2 := fun W => sLessString_any a d W
    have H3 := fun W => LessString_any d a W
    cases hL1 : Op.bytesLess a.toList d.toList with
    | false =>
      rw [hL1] at H1 H2
      replace H1 := Lib.hid H1
      replace H2 := Lib.hid H2
      clear H3 han hL1
      go_wp2_with (first | (go_at_call 32; refine (H1.out _).mono ?_; rintro e w' ⟨rfl, rfl⟩) | (go_at_call 33; refine (H2.out _).mono ?_; rintro e w' ⟨rfl, rfl⟩))
      refine (HK.out _ ho.out).mono ?_
      rintro e w8 ⟨rfl, hb'⟩
      replace hb := Lib.hid (grow_trans hb.out hb')
      clear hb' HK ho
      go_wp2
      go_ret
      exact ⟨by simp, hb.out⟩
    | true =>
      rw [hL1] at H1 H2 han
      have hL2 : Op.bytesLess d.toList a.toList = false := by simpa using han
      rw [hL2] at H3
      replace H1 := Lib.hid H1
      replace H2 := Lib.hid H2
      replace H3 := Lib.hid H3
      clear han hL1 hL2
      go_wp2_with (first | (go_at_call 32; with_reducible refine (H1.out _).mono ?_; rintro e w' ⟨rfl, rfl⟩) | (go_at_call 32; with_reducible refine (H3.out _).mono ?_; rintro e w' ⟨rfl, rfl⟩) | (go_at_call 33; refine (H2.out _).mono ?_; rintro e w' ⟨rfl, rfl⟩))
      refine (HK.out _ ho.out).mono ?_
      rintro e w8 ⟨rfl, hb'⟩
      replace hb := Lib.hid (grow_trans hb.out hb')
      clear hb' HK ho
      go_wp2
      go_ret
      exact ⟨by simp, hb.out⟩

/-! the frame: the arguments opened, the row closed -/
set_option maxRecDepth 100000 in
theorem lifted (os : Os) (started : os.Started) (H : Type) (enc : TypeId × Value → H) :
    ReturnsInHanded {} Tryd.checked os 7 .any (fun w args => (Rows.fnSplitJoinSpec.pre enc Tryd.prog Tryd.f7 [] false w args ∧ laidMetH Tryd.prog Rows.fnSplitJoinRow.laid w) ∧ sizedMet enc Tryd.prog Tryd.f7 (OpenSpec.ofChange Rows.fnSplitJoinSpec) false w args) (Rows.fnSplitJoinSpec.post enc Tryd.prog Tryd.f7 false true false false) := by
  refine law_laidS (C := Tryd.checked) Rows.fnSplitJoinRow.laid own started (by kernel_rfl) Tryd.func7
    (ChangeSpec.witness_shaped (enc := enc) (C := Tryd.checked) (os := os) (X := fun w _ => laidMetH Tryd.prog Rows.fnSplitJoinRow.laid w) false (World.laidAll Tryd.prog os Rows.fnSplitJoinRow.laid) #[.slice none 0 0] 8 (World.laidAll_os _ _ _) (World.shaped_of_ZipB (by kernel_rfl) (by kernel_rfl)) (by kernel_rfl) (by kernel_rfl) (by kernel_rfl) (by rw [MakeChecks.laidMetH_plain _ _ _ (by kernel_rfl)]; exact laidMet_laidAll _ (by kernel_rfl) (by kernel_rfl)))
    laidOut (of_decide_eq_true (by kernel_rfl)) rfl Tryd.underlying4 rfl ?_
  intro W base args ds p hL hsh hval hA
  rw [Tryd.params7] at hA hval
  obtain ⟨v0, vs0, d0, ds0, p0, q0, hargs, rfl, rfl, h0, r0⟩ := trodAll_cons hA
  obtain ⟨rfl, rfl, rfl⟩ := trodAll_nil r0
  obtain rfl : args = #[v0] := by cases args; simp_all
  obtain ⟨z0, b0⟩ := open_bs (hval 0 45 v0 rfl rfl) h0
  exact ⟨rfl, walk W hL hsh v0 z0 b0⟩

theorem over : Rows.fnSplitJoinRow.holds Tryd.pinned (OpenSpec.ofChange Rows.fnSplitJoinSpec) :=
  OpenClaim.holds_of_wide 7 Tryd.f7 rfl rfl rfl rfl rfl rfl rfl ⟨rfl, rfl, rfl, rfl, rfl⟩ rfl rfl rfl rfl rfl (by kernel_rfl) Tryd.func7 (by kernel_rfl)
    (of_decide_eq_true (by kernel_rfl)) (by unfold Func.isWrapper; first | (rw [if_pos (by decide +kernel)]; kernel_rfl) | (rw [if_neg (by decide +kernel)]; exact ⟨rfl, rfl⟩))
    (fun os started H enc _ => lifted os started H enc)

theorem proved : Rows.FnSplitJoinCardSaid :=
  Claim7.holds_tied_plain_at .later [] [.data, .pinned] true (true, "a64092c0d91823f8f6b142458e85c942dff3abef76a811f77243bd2608d0bb5f") true
    over (fun _ h => by cases h) (by kernel_rfl) (fun _ h => by cases h) fnSplitJoin_row_tie rfl ⟨rfl, rfl⟩ (by kernel_rfl) rfl
    (fun f fn hf hfn => by
      obtain rfl : f = 7 := Option.some.inj ((show Tryd.prog.funcNamed Rows.fnSplitJoinRow.func = some 7 by kernel_rfl).symm.trans hf) |>.symm
      obtain rfl : fn = Tryd.f7 := (Option.some.inj (Tryd.func7.symm.trans hfn)).symm
      exact ⟨by kernel_rfl, fun j t ht => by
        rw [Tryd.params7] at ht
        have hm : t ∈ [45] := by simpa using Array.mem_of_getElem? ht
        have hall : ([45].all fun u => !Tryd.prog.wantsStandIn u) = true := by kernel_rfl
        exact (show Tryd.prog.wantsStandIn t = false by simpa using List.all_eq_true.1 hall t hm)⟩)
    (by kernel_rfl)
#print axioms proved
end Go.Proofs.YtddnghfioghidaaDoor.lFnSplitJoin
