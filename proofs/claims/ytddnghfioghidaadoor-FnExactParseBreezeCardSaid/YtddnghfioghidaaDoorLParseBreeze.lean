/- FnExactParseBreeze returns true for all arguments: the program's ParseBreeze answers as the reference's, where the library's tables and errors hold what the program's text lays. Conditions: none beyond the row's. -/
import Derived.Test.YtddnghfioghidaaDoorPBrz
namespace Go.Proofs.YtddnghfioghidaaDoor.lParseBreeze
open Go.ChangeShapes Go.WideShapes Go.ChangeAt Go.RowKit Go.Proofs.YtddnghfioghidaaDoor
set_option linter.unusedVariables false
set_option linter.unusedSimpArgs false
set_option maxRecDepth 100000

theorem syn_of6 {W : World} {a b c d f : String × DataW Unit} {rest : List (String × DataW Unit)} (h : laidMet Tryd.prog (a :: b :: c :: d :: f :: ("strconv.ErrSyntax", Rows.laid_strconv_ErrSyntax) :: rest) W) : SynIs W := by
  obtain ⟨a, s, h1, _⟩ := Go.laid_sentinel (laidMet.tail (laidMet.tail (laidMet.tail (laidMet.tail (laidMet.tail h))))) gSyn tSyn Tryd.underlying97 synRow Tryd.underlying159 Tryd.underlying161 rfl rfl Tryd.underlying9 synC1 synC2
  exact ⟨_, _, h1⟩
theorem eqB_any (f s : Int) (w : World) :
    Calls Tryd.prog 18 #[.agg #[.int .i64 f, .int .i64 s], .agg #[.int .i64 f, .int .i64 s]] w fun e w' => e = .returned (.bool true) ∧ Below w.heap.size w w' := by
  go_enter Tryd.func18, Tryd.ntmps18
  go_wp2
  go_ret
  exact ⟨rfl, grow_trans (grow_alloc _ _) (grow_alloc _ _)⟩
set_option maxHeartbeats 4000000 in
theorem walk (W : World) (hL : laidMetH Tryd.prog Rows.fnExactParseBreezeRow.laid W) (hsh : W.ShapedOpen Tryd.prog) (s0 : ByteArray) (k0 : s0.size ≤ maxLen) :
    Calls Tryd.prog 4 #[.string s0] W fun e w' => e = .returned (.bool true) ∧ Below W.heap.size W w' := by
  unfold maxLen at k0
  rw [MakeChecks.laidMetH_plain _ _ _ (by kernel_rfl)] at hL
  have hlen := len_of hsh
  have ht := pow_of hL
  have hy := syn_of6 hL
  have HI := Lib.hid fun W' (hW : Below W.heap.size W W') (h : s0.size ≤ 1048576) => ParseBreeze_any s0 W' h (hlen.below hW) (tab_below gPow ht hW) (syn_below hy hW)
  clear hL hlen hsh ht hy
  by_cases q0 : s0.size ≤ 1048576
  case neg =>
    clear HI
    go_enter Tryd.func4, Tryd.ntmps4
    go_wp2
    go_ret
    exact ⟨rfl, Below.refl _ _⟩
  have Hs := Lib.hid fun W => sParseBreeze_any s0 W q0
  have Hi := Lib.hid fun W' hW => HI.out W' hW q0
  clear HI
  obtain ⟨f, k, b, hsp⟩ := brV_shape s0
  rw [hsp] at Hs Hi
  clear hsp
  have hb : Below W.heap.size W W := Below.refl _ _
  go_enter Tryd.func4, Tryd.ntmps4
  go_wp2_with fail
  refine (Hs.out _).mono ?_
  rintro e w1 ⟨rfl, hb1⟩
  have hB1 : Hid (BoxB (w1.alloc (.cells #[.int .i64 f, .int .i64 k] 29)) w1.heap.size w1.heap.size f k) := BoxB.new w1 _ (Nat.le_refl _) _ _
  have hb1 := Lib.hid (grow_trans hb1 (grow_alloc w1 (.cells #[.int .i64 f, .int .i64 k] 29)))
  clear hb
  go_wp2_with fail
  refine (Hi.out _ hb1.out).mono ?_
  rintro e w2 ⟨rfl, hb2⟩
  have HB2 := hB1.out.below hb2
  have hb2 := Lib.hid (grow_trans hb1.out hb2)
  have HB3 := HB2.below (grow_alloc w2 (.cells #[.int .i64 f, .int .i64 k] 29))
  obtain ⟨⟨c0, c1⟩, _⟩ := HB2.cells
  obtain ⟨⟨d0, d1⟩, _⟩ := HB3.cells
  clear hB1 hb1 HB2 HB3 Hs Hi
  go_wp2_with fail
  refine (eqB_any f k _).mono ?_
  rintro e w3 ⟨rfl, hb3⟩
  have hb3 := Lib.hid (grow_trans hb2.out (grow_trans (grow_alloc w2 (.cells #[.int .i64 f, .int .i64 k] 29)) hb3))
  clear c0 c1 d0 d1 hb2
  go_wp2
  go_ret
  exact ⟨rfl, hb3.out⟩

/-! the frame: the arguments opened, the row closed -/
set_option maxRecDepth 100000 in
theorem lifted (os : Os) (started : os.Started) (H : Type) (enc : TypeId × Value → H) :
    ReturnsInHanded {} Tryd.checked os 4 .any (fun w args => (Rows.fnExactParseBreezeSpec.pre enc Tryd.prog Tryd.f4 [] false w args ∧ laidMetH Tryd.prog Rows.fnExactParseBreezeRow.laid w) ∧ sizedMet enc Tryd.prog Tryd.f4 (OpenSpec.ofChange Rows.fnExactParseBreezeSpec) false w args) (Rows.fnExactParseBreezeSpec.post enc Tryd.prog Tryd.f4 false true false false) := by
  refine law_laidS (C := Tryd.checked) Rows.fnExactParseBreezeRow.laid own started (by kernel_rfl) Tryd.func4
    (ChangeSpec.witness_shaped (enc := enc) (C := Tryd.checked) (os := os) (X := fun w _ => laidMetH Tryd.prog Rows.fnExactParseBreezeRow.laid w) false (World.laidAll Tryd.prog os Rows.fnExactParseBreezeRow.laid) #[.string ByteArray.empty] 8 (World.laidAll_os _ _ _) (World.shaped_of_ZipB (by kernel_rfl) (by kernel_rfl)) (by kernel_rfl) (by kernel_rfl) (by kernel_rfl) (by rw [MakeChecks.laidMetH_plain _ _ _ (by kernel_rfl)]; exact laidMet_laidAll _ (by kernel_rfl) (by kernel_rfl)))
    laidOut (of_decide_eq_true (by kernel_rfl)) rfl Tryd.underlying4 rfl ?_
  intro W base args ds p hL hsh hval hA
  rw [Tryd.params4] at hA hval
  obtain ⟨v0, vs0, d0, ds0, p0, q0, hargs, rfl, rfl, h0, r0⟩ := trodAll_cons hA
  obtain ⟨rfl, rfl, rfl⟩ := trodAll_nil r0
  obtain rfl : args = #[v0] := by cases args; simp_all
  obtain ⟨s0, rfl, b0⟩ := open_s (hval 0 9 v0 rfl rfl) h0
  exact ⟨rfl, walk W hL hsh s0 b0⟩

theorem over : Rows.fnExactParseBreezeRow.holds Tryd.pinned (OpenSpec.ofChange Rows.fnExactParseBreezeSpec) :=
  OpenClaim.holds_of_wide 4 Tryd.f4 rfl rfl rfl rfl rfl rfl rfl ⟨rfl, rfl, rfl, rfl, rfl⟩ rfl rfl rfl rfl rfl (by kernel_rfl) Tryd.func4 (by kernel_rfl)
    (of_decide_eq_true (by kernel_rfl)) (by unfold Func.isWrapper; first | (rw [if_pos (by decide +kernel)]; kernel_rfl) | (rw [if_neg (by decide +kernel)]; exact ⟨rfl, rfl⟩))
    (fun os started H enc _ => lifted os started H enc)

theorem proved : Rows.FnExactParseBreezeCardSaid :=
  Claim7.holds_tied_plain_at .later [] [.data, .data, .data, .data, .sentinel, .sentinel, .pinned] true (true, "a64092c0d91823f8f6b142458e85c942dff3abef76a811f77243bd2608d0bb5f") true
    over (fun _ h => by cases h) (by kernel_rfl) (fun _ h => by cases h) fnExactParseBreeze_row_tie rfl ⟨rfl, rfl⟩ (by kernel_rfl) rfl
    (fun f fn hf hfn => by
      obtain rfl : f = 4 := Option.some.inj ((show Tryd.prog.funcNamed Rows.fnExactParseBreezeRow.func = some 4 by kernel_rfl).symm.trans hf) |>.symm
      obtain rfl : fn = Tryd.f4 := (Option.some.inj (Tryd.func4.symm.trans hfn)).symm
      exact ⟨by kernel_rfl, fun j t ht => by
        rw [Tryd.params4] at ht
        have hm : t ∈ [9] := by simpa using Array.mem_of_getElem? ht
        have hall : ([9].all fun u => !Tryd.prog.wantsStandIn u) = true := by kernel_rfl
        exact (show Tryd.prog.wantsStandIn t = false by simpa using List.all_eq_true.1 hall t hm)⟩)
    (by kernel_rfl)
#print axioms proved
end Go.Proofs.YtddnghfioghidaaDoor.lParseBreeze
