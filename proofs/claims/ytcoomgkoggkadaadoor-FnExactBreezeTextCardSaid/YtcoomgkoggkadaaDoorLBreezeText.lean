/- FnExactBreezeText returns true for all arguments: the program's BreezeText answers as the reference's, where the library's table of powers holds what the program's text lays. Conditions: none beyond the row's. -/
import Derived.Test.YtcoomgkoggkadaaDoorBrz
namespace Go.Proofs.YtcoomgkoggkadaaDoor.lBreezeText
open Go.ChangeShapes Go.WideShapes Go.ChangeAt Go.RowKit Go.Proofs.YtcoomgkoggkadaaDoor
set_option linter.unusedVariables false
set_option linter.unusedSimpArgs false
set_option maxRecDepth 100000

set_option maxHeartbeats 1000000 in
theorem walk (W : World) (hL : laidMetH Tryd.prog Rows.fnExactBreezeTextRow.laid W) (x0 y0 : Int) :
    Calls Tryd.prog 8 #[.agg #[.int .i64 x0, .int .i64 y0]] W fun e w' => e = .returned (.bool true) ∧ Below W.heap.size W w' := by
  rw [MakeChecks.laidMetH_plain _ _ _ (by kernel_rfl)] at hL
  have ht := pow_of hL
  have Ht := Lib.hid fun W' (hW : Below W.heap.size W W') => tab_below gPow ht hW
  have hs := sBreezeText_any x0 y0
  have hi := BreezeText_any x0 y0
  generalize hR : strV (windB x0 y0) (bs (brzL x0 y0)) = R at hs hi
  have hR2 : ∃ m c, R = .tuple #[.string m, .bool c] := by rw [← hR]; exact strV_shape _ _
  clear hR hL ht
  obtain ⟨m, b, rfl⟩ := hR2
  have Hs := Lib.hid hs
  have Hi := Lib.hid hi
  clear hs hi
  have hb0 : Hid (Below W.heap.size W (W.alloc (.cells #[.int .i64 x0, .int .i64 y0] 36))) := grow_alloc _ _
  have k0 : (W.alloc (.cells #[.int .i64 x0, .int .i64 y0] 36)).cell? ⟨W.heap.size, 0, none⟩ = some (.int .i64 x0) := by simp [go_sem]
  have k1 : (W.alloc (.cells #[.int .i64 x0, .int .i64 y0] 36)).cell? ⟨W.heap.size, 1, none⟩ = some (.int .i64 y0) := by simp [go_sem]
  go_enter Tryd.func8, Tryd.ntmps8
  go_wp2_with fail
  with_reducible refine (toBreeze_any _ _ _).mono ?_
  rintro e w1 ⟨rfl, hb1⟩
  replace k0 := cell_grow k0 hb1
  replace k1 := cell_grow k1 hb1
  have hb1 := grow_trans hb0.out hb1
  go_wp2_with fail
  with_reducible refine (Hs.out _).mono ?_
  rintro e w2 ⟨rfl, hb2⟩
  replace k0 := cell_grow k0 hb2
  replace k1 := cell_grow k1 hb2
  have hb2 := grow_trans hb1 hb2
  clear hb1
  go_wp2_with fail
  with_reducible refine (toBreeze_any _ _ _).mono ?_
  rintro e w3 ⟨rfl, hb3⟩
  have hb3 := grow_trans hb2 hb3
  have HI := Lib.hid (Hi.out w3 (Ht.out w3 hb3))
  clear hb2 Hi Ht Hs k0 k1
  go_wp2_with fail
  with_reducible refine HI.out.mono ?_
  rintro e w4 ⟨rfl, hb4⟩
  have hb4 := grow_trans hb3 hb4
  go_wp2
  go_ret
  exact ⟨rfl, hb4⟩

/-- The program's own start meets the row's condition. -/
theorem door_met (os : Os) (args : Array Value) : laidMetH Tryd.prog Rows.fnExactBreezeTextRow.laid ((World.doorLaid Tryd.prog 72 os).forCall (fun _ _ => 0) ⟨#[], args, []⟩).memory :=
  laidMetH_of_parts3 (fuel := 8) (laidMet_of_run' 8 (by kernel_rfl) (by kernel_rfl)) (by kernel_rfl) (by kernel_rfl)
/-! the frame: the arguments opened, the row closed -/
set_option maxRecDepth 100000 in
theorem lifted (os : Os) (started : os.Started) (H : Type) (enc : TypeId × Value → H) :
    ReturnsInHanded {} Tryd.checked os 8 .any (fun w args => (Rows.fnExactBreezeTextSpec.pre enc Tryd.prog Tryd.f8 [] false w args ∧ laidMetH Tryd.prog Rows.fnExactBreezeTextRow.laid w) ∧ sizedMet enc Tryd.prog Tryd.f8 (OpenSpec.ofChange Rows.fnExactBreezeTextSpec) false w args) (Rows.fnExactBreezeTextSpec.post enc Tryd.prog Tryd.f8 false true false false) := by
  refine law_laid (C := Tryd.checked) Rows.fnExactBreezeTextRow.laid own started (by kernel_rfl) Tryd.func8
    (ChangeSpec.witness_shaped (enc := enc) (C := Tryd.checked) (os := os) (X := fun w _ => laidMetH Tryd.prog Rows.fnExactBreezeTextRow.laid w) false (World.doorLaid Tryd.prog 72 os) #[.agg #[.int .i64 0, .int .i64 0]] 8 rfl (World.shaped_of_RefB (by kernel_rfl) (by kernel_rfl)) (by kernel_rfl) (by kernel_rfl) (by kernel_rfl) (door_met os _))
    laidOut (of_decide_eq_true (by kernel_rfl)) rfl Tryd.underlying4 rfl ?_
  intro W base args ds p hL hval hA
  rw [Tryd.params8] at hA hval
  obtain ⟨v0, vs0, d0, ds0, p0, q0, hargs, rfl, rfl, h0, r0⟩ := trodAll_cons hA
  obtain ⟨rfl, rfl, rfl⟩ := trodAll_nil r0
  obtain rfl : args = #[v0] := by cases args; simp_all
  obtain ⟨x0, y0, rfl⟩ := open_breeze (hval 0 36 v0 rfl rfl) h0
  exact ⟨rfl, walk W hL x0 y0⟩

theorem over : Rows.fnExactBreezeTextRow.holds Tryd.pinned (OpenSpec.ofChange Rows.fnExactBreezeTextSpec) :=
  OpenClaim.holds_of_wide 8 Tryd.f8 rfl rfl rfl rfl rfl rfl rfl ⟨rfl, rfl, rfl, rfl, rfl⟩ rfl rfl rfl rfl rfl (by kernel_rfl) Tryd.func8 (by kernel_rfl)
    (of_decide_eq_true (by kernel_rfl)) (by unfold Func.isWrapper; first | (rw [if_pos (by decide +kernel)]; kernel_rfl) | (rw [if_neg (by decide +kernel)]; exact ⟨rfl, rfl⟩))
    (fun os started H enc _ => lifted os started H enc)

theorem proved : Rows.FnExactBreezeTextCardSaid :=
  Claim7.holds_tied_plain_at .later [] [.data, .data, .data] true (true, "11ea932f6f35ed36c90ad975ebdc0e0af588a9ae41c57108bb9906747a9c1d7a") true
    over (fun _ h => by cases h) (by kernel_rfl) (fun _ h => by cases h) fnExactBreezeText_row_tie rfl ⟨rfl, rfl⟩ (by kernel_rfl) rfl
    (fun f fn hf hfn => by
      obtain rfl : f = 8 := Option.some.inj ((show Tryd.prog.funcNamed Rows.fnExactBreezeTextRow.func = some 8 by kernel_rfl).symm.trans hf) |>.symm
      obtain rfl : fn = Tryd.f8 := (Option.some.inj (Tryd.func8.symm.trans hfn)).symm
      exact ⟨by kernel_rfl, fun j t ht => by
        rw [Tryd.params8] at ht
        have hm : t ∈ [36] := by simpa using Array.mem_of_getElem? ht
        have hall : ([36].all fun u => !Tryd.prog.wantsStandIn u) = true := by kernel_rfl
        exact (show Tryd.prog.wantsStandIn t = false by simpa using List.all_eq_true.1 hall t hm)⟩)
    (by kernel_rfl)
#print axioms proved
end Go.Proofs.YtcoomgkoggkadaaDoor.lBreezeText
