/- FnExactFuelText returns true for all arguments: the program's FuelText answers as the reference's, where the library's table of powers holds what the program's text lays. Conditions: none beyond the row's. -/
import Derived.Test.YtddnghfioghidaaDoorFuT
namespace Go.Proofs.YtddnghfioghidaaDoor.lFuelText
open Go.ChangeShapes Go.WideShapes Go.ChangeAt Go.RowKit Go.Proofs.YtddnghfioghidaaDoor
set_option linter.unusedVariables false
set_option linter.unusedSimpArgs false
set_option maxRecDepth 100000

set_option maxHeartbeats 4000000 in
theorem walk (W : World) (hL : laidMetH Tryd.prog Rows.fnExactFuelTextRow.laid W) (i : Int) (n : ByteArray) (r l o : Int) (hm : n.size ≤ maxLen) :
    Calls Tryd.prog 5 #[.agg #[.int .i64 i, .string n, .int .i64 r, .int .i64 l, .int .i64 o]] W fun e w' => e = .returned (.bool true) ∧ Below W.heap.size W w' := by
  rw [MakeChecks.laidMetH_plain _ _ _ (by kernel_rfl)] at hL
  have ht := pow_of hL
  have Ht := Lib.hid fun W' (hW : Below W.heap.size W W') => tab_below gPow ht hW
  clear hL
  have hb0 : Hid (Below W.heap.size W (W.alloc (.cells #[.int .i64 i, .string n, .int .i64 r, .int .i64 l, .int .i64 o] 35))) := grow_alloc _ _
  have hb : Below (W.alloc (.cells #[.int .i64 i, .string n, .int .i64 r, .int .i64 l, .int .i64 o] 35)).heap.size (W.alloc (.cells #[.int .i64 i, .string n, .int .i64 r, .int .i64 l, .int .i64 o] 35)) (W.alloc (.cells #[.int .i64 i, .string n, .int .i64 r, .int .i64 l, .int .i64 o] 35)) := Below.refl _ _
  have hc := (bcell hb).1
  by_cases hn : n.size ≤ 1048576
  case neg =>
    clear Ht ht
    go_enter Tryd.func5, Tryd.ntmps5
    go_wp2_with fail
    with_reducible refine (szFuel_no _ _ _ _ _ _ hm hn).mono ?_
    rintro e w1 ⟨rfl, hb1⟩
    replace hb := grow_trans hb hb1
    replace hc := (bcell hb).1
    go_wp2
    go_ret
    exact ⟨rfl, grow_trans hb0.out hb⟩
  clear ht
  have hs := fun w => sFuelText_any i n r l o w hm
  have hi := fun w => FuelText_any i n r l o w hm
  generalize hR : strV (fuelB i n.data.toList r l o) (fuT i n r l o) = R at hs hi
  have hR2 : ∃ m c, R = .tuple #[.string m, .bool c] := by rw [← hR]; exact strV_shape _ _
  clear hR
  obtain ⟨m, b, rfl⟩ := hR2
  have Hs := Lib.hid hs
  have Hi := Lib.hid hi
  clear hs hi
  go_enter Tryd.func5, Tryd.ntmps5
  go_wp2_with fail
  with_reducible refine (szFuel_ok _ _ _ _ _ _ hn).mono ?_
  rintro e w1 ⟨rfl, hb1⟩
  replace hb := grow_trans hb hb1
  replace hc := (bcell hb).1
  go_wp2_with fail
  with_reducible refine (toFuel_any _ _ _ _ _ _).mono ?_
  rintro e w2 ⟨rfl, hb2⟩
  replace hb := grow_trans hb hb2
  replace hc := (bcell hb).1
  go_wp2_with fail
  with_reducible refine (Hs.out _).mono ?_
  rintro e w3 ⟨rfl, hb3⟩
  replace hb := grow_trans hb hb3
  replace hc := (bcell hb).1
  go_wp2_with fail
  with_reducible refine (toFuel_any _ _ _ _ _ _).mono ?_
  rintro e w4 ⟨rfl, hb4⟩
  replace hb := grow_trans hb hb4
  have HI := Lib.hid (Hi.out w4 (Ht.out w4 (grow_trans hb0.out hb)))
  clear hb1 hb2 hb3 hb4 Hi Ht Hs hc
  go_wp2_with fail
  with_reducible refine HI.out.mono ?_
  rintro e w5 ⟨rfl, hb5⟩
  have hb := Lib.hid (grow_trans hb0.out (grow_trans hb hb5))
  go_wp2
  go_ret
  exact ⟨rfl, hb.out⟩

/-- The program's own start meets the row's condition. -/
theorem door_met (os : Os) (args : Array Value) : laidMetH Tryd.prog Rows.fnExactFuelTextRow.laid ((World.doorLaid Tryd.prog 72 os).forCall (fun _ _ => 0) ⟨#[], args, []⟩).memory :=
  laidMetH_of_parts3 (fuel := 8) (laidMet_of_run' 8 (by kernel_rfl) (by kernel_rfl)) (by kernel_rfl) (by kernel_rfl)
/-! the frame: the arguments opened, the row closed -/
set_option maxRecDepth 100000 in
theorem lifted (os : Os) (started : os.Started) (H : Type) (enc : TypeId × Value → H) :
    ReturnsInHanded {} Tryd.checked os 5 .any (fun w args => (Rows.fnExactFuelTextSpec.pre enc Tryd.prog Tryd.f5 [] false w args ∧ laidMetH Tryd.prog Rows.fnExactFuelTextRow.laid w) ∧ sizedMet enc Tryd.prog Tryd.f5 (OpenSpec.ofChange Rows.fnExactFuelTextSpec) false w args) (Rows.fnExactFuelTextSpec.post enc Tryd.prog Tryd.f5 false true false false) := by
  refine law_laid (C := Tryd.checked) Rows.fnExactFuelTextRow.laid own started (by kernel_rfl) Tryd.func5
    (ChangeSpec.witness_shaped (enc := enc) (C := Tryd.checked) (os := os) (X := fun w _ => laidMetH Tryd.prog Rows.fnExactFuelTextRow.laid w) false (World.doorLaid Tryd.prog 72 os) #[.agg #[.int .i64 0, .string ByteArray.empty, .int .i64 0, .int .i64 0, .int .i64 0]] 8 rfl (World.shaped_of_RefB (by kernel_rfl) (by kernel_rfl)) (by kernel_rfl) (by kernel_rfl) (by kernel_rfl) (door_met os _))
    laidOut (of_decide_eq_true (by kernel_rfl)) rfl Tryd.underlying4 rfl ?_
  intro W base args ds p hL hval hA
  rw [Tryd.params5] at hA hval
  obtain ⟨v0, vs0, d0, ds0, p0, q0, hargs, rfl, rfl, h0, r0⟩ := trodAll_cons hA
  obtain ⟨rfl, rfl, rfl⟩ := trodAll_nil r0
  obtain rfl : args = #[v0] := by cases args; simp_all
  obtain ⟨ei0, en0, er0, el0, eo0, rfl, b0⟩ := open_fuel (hval 0 35 v0 rfl rfl) h0
  exact ⟨rfl, walk W hL ei0 en0 er0 el0 eo0 b0⟩

theorem over : Rows.fnExactFuelTextRow.holds Tryd.pinned (OpenSpec.ofChange Rows.fnExactFuelTextSpec) :=
  OpenClaim.holds_of_wide 5 Tryd.f5 rfl rfl rfl rfl rfl rfl rfl ⟨rfl, rfl, rfl, rfl, rfl⟩ rfl rfl rfl rfl rfl (by kernel_rfl) Tryd.func5 (by kernel_rfl)
    (of_decide_eq_true (by kernel_rfl)) (by unfold Func.isWrapper; first | (rw [if_pos (by decide +kernel)]; kernel_rfl) | (rw [if_neg (by decide +kernel)]; exact ⟨rfl, rfl⟩))
    (fun os started H enc _ => lifted os started H enc)

theorem proved : Rows.FnExactFuelTextCardSaid :=
  Claim7.holds_tied_plain_at .later [] [.data, .data, .data] true (true, "a64092c0d91823f8f6b142458e85c942dff3abef76a811f77243bd2608d0bb5f") true
    over (fun _ h => by cases h) (by kernel_rfl) (fun _ h => by cases h) fnExactFuelText_row_tie rfl ⟨rfl, rfl⟩ (by kernel_rfl) rfl
    (fun f fn hf hfn => by
      obtain rfl : f = 5 := Option.some.inj ((show Tryd.prog.funcNamed Rows.fnExactFuelTextRow.func = some 5 by kernel_rfl).symm.trans hf) |>.symm
      obtain rfl : fn = Tryd.f5 := (Option.some.inj (Tryd.func5.symm.trans hfn)).symm
      exact ⟨by kernel_rfl, fun j t ht => by
        rw [Tryd.params5] at ht
        have hm : t ∈ [35] := by simpa using Array.mem_of_getElem? ht
        have hall : ([35].all fun u => !Tryd.prog.wantsStandIn u) = true := by kernel_rfl
        exact (show Tryd.prog.wantsStandIn t = false by simpa using List.all_eq_true.1 hall t hm)⟩)
    (by kernel_rfl)
#print axioms proved
end Go.Proofs.YtddnghfioghidaaDoor.lFuelText
