/- FnExactParseTerrain returns true for all texts: the program's ParseTerrain answers as the reference's, and its result is new memory. Conditions: none beyond the row's. -/
import Derived.Test.YtabedcpibnnnhaaDoorPTer
namespace Go.Proofs.YtabedcpibnnnhaaDoor.lParseTerrain
open Go.ChangeShapes Go.WideShapes Go.ChangeAt Go.RowKit Go.Proofs.YtabedcpibnnnhaaDoor
set_option linter.unusedVariables false
set_option linter.unusedSimpArgs false
set_option maxRecDepth 100000

set_option maxHeartbeats 1000000 in
theorem heldTerrain_any (x y : Int) (v : Value) (m : Int) (n : Nat) (w : World) (h : Sl w 1 v n (ints (marks m n))) (h1 : 0 ≤ m) (h2 : m ≤ 1099511627776) (hn : n ≤ 1048576) :
    Calls Tryd.prog 22 #[terrV x y v, .int .i64 m] w fun e w' => e = .returned (.int .i64 (m + n)) ∧ Below w.heap.size w w' := by
  have Hs := Lib.hid fun W hW => heldIntS_any v m n W (h.below (w' := W) hW) h1 h2 hn
  clear h
  go_enter Tryd.func22, Tryd.ntmps22
  go_wp2_with (go_at_call 60; refine (Hs.out _ (grow_alloc _ _)).mono ?_; rintro e w' ⟨rfl, rfl⟩)
  go_ret
  exact ⟨rfl, grow_alloc _ _⟩
theorem ptZ_le (s : ByteArray) : (if ptB s then ptZ s else []).length ≤ 40 := by
  cases h : ptB s with
  | false => simp
  | true =>
    simp only [if_true]
    by_cases h30 : s.size ≤ 30
    · have := celL_le s.data.toList
      rw [list_le] at this
      unfold ptZ; omega
    · rw [ptB_long h30] at h; cases h

set_option maxHeartbeats 4000000 in
theorem walk (W : World) (hL : laidMetH Tryd.prog Rows.fnExactParseTerrainRow.laid W) (hsh : W.ShapedOpen Tryd.prog) (s0 : ByteArray) (k0 : s0.size ≤ maxLen) :
    Calls Tryd.prog 4 #[.string s0] W fun e w' => e = .returned (.bool true) ∧ Below W.heap.size W w' := by
  unfold maxLen at k0
  have hlen := len_of hsh
  have HLn := Lib.hid fun W' (hW : Below W.heap.size W W') => hlen.below hW
  clear hL hlen hsh
  by_cases q0 : s0.size ≤ 1048576
  case neg =>
    clear HLn
    go_enter Tryd.func4, Tryd.ntmps4
    go_wp2
    go_ret
    exact ⟨rfl, Below.refl _ _⟩
  have hs := fun W => sParseTerrain_any s0 W q0
  have hi := fun W hm => ParseTerrain_any s0 W q0 hm
  unfold RetPT at hs hi
  have hlen := ptZ_le s0
  generalize (if ptB s0 then ptZ s0 else []) = rs at *
  generalize (if ptB s0 then ptX s0 else 0) = X at *
  generalize (if ptB s0 then ptY s0 else 0) = Y at *
  generalize ptB s0 = ok at *
  have Hs := Lib.hid hs
  have Hi := Lib.hid hi
  clear hs hi
  have hb : Hid (Below W.heap.size W W) := Below.refl _ _
  go_enter Tryd.func4, Tryd.ntmps4
  go_wp2_with fail
  refine (Hs.out _).mono ?_
  rintro e w1 ⟨rw0, rfl, orw0, hb1⟩
  obtain ⟨A1, c1, rfl, _⟩ := own_form orw0
  replace hb := Lib.hid (grow_trans hb.out hb1)
  have lw := Lib.hid (fun j hj => (orw0.lt j hj).2)
  replace orw0 := Lib.hid orw0
  have hbn := grow_alloc w1 (.cells #[.int .i64 X, .int .i64 Y, .slice A1 rs.length c1] 34)
  have bw : Hid (Bx (w1.alloc (.cells #[.int .i64 X, .int .i64 Y, .slice A1 rs.length c1] 34)) 34 w1.heap.size (teC X Y (.slice A1 rs.length c1))) := Bx.new w1 (teC X Y (.slice A1 rs.length c1)) _
  replace orw0 := Lib.hid (own_below orw0.out hbn)
  replace hb := Lib.hid (grow_trans hb.out hbn)
  have lw2 := Lib.hid (show ∀ j, (Value.slice A1 rs.length c1).ownBlock = some j → j < (w1.alloc (.cells #[.int .i64 X, .int .i64 Y, .slice A1 rs.length c1] 34)).heap.size from fun j hj => Nat.lt_of_lt_of_le (lw.out j hj) hbn.size)
  clear hbn hb1 lw
  go_wp2_with fail
  generalize w1.alloc (.cells #[.int .i64 X, .int .i64 Y, .slice A1 rs.length c1] 34) = Wa at *
  generalize w1.heap.size = B1 at *
  have Hm := HLn.out _ hb.out
  refine (Hi.out _ Hm).mono ?_
  rintro e w2 ⟨rg0, rfl, org0, hb2⟩
  obtain ⟨A2, c2, rfl, _⟩ := own_form org0
  have sWa := Lib.hid hb.out.size
  have lg := Lib.hid (fun j hj => (org0.lt j hj).1)
  replace bw := Lib.hid (bw.out.below hb2)
  replace orw0 := Lib.hid (own_below orw0.out hb2)
  replace hb := Lib.hid (grow_trans hb.out hb2)
  replace org0 := Lib.hid org0
  have hbn := grow_alloc w2 (.cells #[.int .i64 X, .int .i64 Y, .slice A2 rs.length c2] 34)
  have bg : Hid (Bx (w2.alloc (.cells #[.int .i64 X, .int .i64 Y, .slice A2 rs.length c2] 34)) 34 w2.heap.size (teC X Y (.slice A2 rs.length c2))) := Bx.new w2 (teC X Y (.slice A2 rs.length c2)) _
  replace bw := Lib.hid (bw.out.below hbn)
  replace orw0 := Lib.hid (own_below orw0.out hbn)
  replace org0 := Lib.hid (own_below org0.out hbn)
  replace hb := Lib.hid (grow_trans hb.out hbn)
  clear hbn hb2 Hm
  obtain ⟨⟨bw0, bw1, bw2⟩, _⟩ := te_cells bw.out
  obtain ⟨⟨bg0, bg1, bg2⟩, _⟩ := te_cells bg.out
  go_wp2_with fail
  clear bw0 bw1 bw2 bg0 bg1 bg2
  generalize w2.alloc (.cells #[.int .i64 X, .int .i64 Y, .slice A2 rs.length c2] 34) = Wb at *
  generalize w2.heap.size = B2 at *
  refine (eqTerrain_any X Y _ _ rs _ (Sl.of_own org0.out) (Sl.of_own orw0.out)).mono ?_
  rintro e w3 ⟨rfl, hb3⟩
  replace bw := Lib.hid (bw.out.below hb3)
  replace bg := Lib.hid (bg.out.below hb3)
  replace orw0 := Lib.hid (own_below orw0.out hb3)
  replace org0 := Lib.hid (own_below org0.out hb3)
  replace hb := Lib.hid (grow_trans hb.out hb3)
  clear hb3
  obtain ⟨⟨bg0, bg1, bg2⟩, _⟩ := te_cells bg.out
  have HM := Lib.hid (markTerrain_any X Y _ 1 rs.length _ _ _ org0.out (by omega) (by omega) (by omega))
  go_wp2_with fail
  clear bg0 bg1 bg2
  refine HM.out.mono ?_
  intro e w4 hm
  unfold RetMark at hm
  obtain ⟨rfl, om, hg⟩ := hm
  replace bw := Lib.hid (bw.out.kept hg (bx_own_ne bw.out org0.out))
  replace bg := Lib.hid (bg.out.kept hg (bx_own_ne bg.out org0.out))
  replace orw0 := Lib.hid (own_kept orw0.out hg (fun j hj e => by have h1 := lw2.out j hj; have h2 := lg.out j e.symm; omega))
  replace hb := Lib.hid (hb.out.grown hg hb.out.size (fun j hj => Nat.le_trans sWa.out (lg.out j hj)))
  replace org0 := Lib.hid om
  clear om hg HM lg lw2 sWa
  obtain ⟨⟨bg0, bg1, bg2⟩, _⟩ := te_cells bg.out
  have HH := Lib.hid (heldTerrain_any X Y _ 1 rs.length _ (Sl.of_own org0.out) (by omega) (by omega) (by omega))
  go_wp2_with fail
  clear bg0 bg1 bg2
  refine HH.out.mono ?_
  rintro e w5 ⟨rfl, hb5⟩
  replace bw := Lib.hid (bw.out.below hb5)
  replace bg := Lib.hid (bg.out.below hb5)
  replace orw0 := Lib.hid (own_below orw0.out hb5)
  replace org0 := Lib.hid (own_below org0.out hb5)
  replace hb := Lib.hid (grow_trans hb.out hb5)
  clear hb5 HH
  go_wp2_with fail
  have Hm := HLn.out _ hb.out
  refine (Hi.out _ Hm).mono ?_
  rintro e w6 ⟨rh0, rfl, orh0, hb2⟩
  obtain ⟨A3, c3, rfl, _⟩ := own_form orh0
  replace bw := Lib.hid (bw.out.below hb2)
  replace bg := Lib.hid (bg.out.below hb2)
  replace orw0 := Lib.hid (own_below orw0.out hb2)
  replace org0 := Lib.hid (own_below org0.out hb2)
  replace hb := Lib.hid (grow_trans hb.out hb2)
  replace orh0 := Lib.hid orh0
  have hbn := grow_alloc w6 (.cells #[.int .i64 X, .int .i64 Y, .slice A3 rs.length c3] 34)
  have bh : Hid (Bx (w6.alloc (.cells #[.int .i64 X, .int .i64 Y, .slice A3 rs.length c3] 34)) 34 w6.heap.size (teC X Y (.slice A3 rs.length c3))) := Bx.new w6 (teC X Y (.slice A3 rs.length c3)) _
  replace bw := Lib.hid (bw.out.below hbn)
  replace bg := Lib.hid (bg.out.below hbn)
  replace orw0 := Lib.hid (own_below orw0.out hbn)
  replace org0 := Lib.hid (own_below org0.out hbn)
  replace orh0 := Lib.hid (own_below orh0.out hbn)
  replace hb := Lib.hid (grow_trans hb.out hbn)
  clear hbn hb2 Hm
  obtain ⟨⟨bw0, bw1, bw2⟩, _⟩ := te_cells bw.out
  obtain ⟨⟨bh0, bh1, bh2⟩, _⟩ := te_cells bh.out
  go_wp2_with fail
  clear bw0 bw1 bw2 bh0 bh1 bh2
  generalize w6.alloc (.cells #[.int .i64 X, .int .i64 Y, .slice A3 rs.length c3] 34) = Wc at *
  generalize w6.heap.size = B3 at *
  refine (eqTerrain_any X Y _ _ rs _ (Sl.of_own orh0.out) (Sl.of_own orw0.out)).mono ?_
  rintro e w7 ⟨rfl, hb3⟩
  replace bw := Lib.hid (bw.out.below hb3)
  replace bg := Lib.hid (bg.out.below hb3)
  replace bh := Lib.hid (bh.out.below hb3)
  replace orw0 := Lib.hid (own_below orw0.out hb3)
  replace org0 := Lib.hid (own_below org0.out hb3)
  replace orh0 := Lib.hid (own_below orh0.out hb3)
  replace hb := Lib.hid (grow_trans hb.out hb3)
  clear hb3
  obtain ⟨⟨bg0, bg1, bg2⟩, _⟩ := te_cells bg.out
  have HH := Lib.hid (heldTerrain_any X Y _ 1 rs.length _ (Sl.of_own org0.out) (by omega) (by omega) (by omega))
  go_wp2_with fail
  clear bg0 bg1 bg2
  refine HH.out.mono ?_
  rintro e w8 ⟨rfl, hb5⟩
  replace bw := Lib.hid (bw.out.below hb5)
  replace bg := Lib.hid (bg.out.below hb5)
  replace bh := Lib.hid (bh.out.below hb5)
  replace orw0 := Lib.hid (own_below orw0.out hb5)
  replace org0 := Lib.hid (own_below org0.out hb5)
  replace orh0 := Lib.hid (own_below orh0.out hb5)
  replace hb := Lib.hid (grow_trans hb.out hb5)
  clear hb5 HH
  go_wp2
  go_ret
  exact ⟨rfl, hb.out⟩
/-! the frame: the arguments opened, the row closed -/
set_option maxRecDepth 100000 in
theorem lifted (os : Os) (started : os.Started) (H : Type) (enc : TypeId × Value → H) :
    ReturnsInHanded {} Tryd.checked os 4 .any (fun w args => (Rows.fnExactParseTerrainSpec.pre enc Tryd.prog Tryd.f4 [] false w args ∧ laidMetH Tryd.prog Rows.fnExactParseTerrainRow.laid w) ∧ sizedMet enc Tryd.prog Tryd.f4 (OpenSpec.ofChange Rows.fnExactParseTerrainSpec) false w args) (Rows.fnExactParseTerrainSpec.post enc Tryd.prog Tryd.f4 false true false false) := by
  refine law_laidS (C := Tryd.checked) Rows.fnExactParseTerrainRow.laid own started (by kernel_rfl) Tryd.func4
    (ChangeSpec.witness_shaped (enc := enc) (C := Tryd.checked) (os := os) (X := fun w _ => laidMetH Tryd.prog Rows.fnExactParseTerrainRow.laid w) false (World.laidAll Tryd.prog os Rows.fnExactParseTerrainRow.laid) #[.string ByteArray.empty] 8 (World.laidAll_os _ _ _) (World.shaped_of_ZipB (by kernel_rfl) (by kernel_rfl)) (by kernel_rfl) (by kernel_rfl) (by kernel_rfl) (by rw [MakeChecks.laidMetH_plain _ _ _ (by kernel_rfl)]; exact laidMet_laidAll _ (by kernel_rfl) (by kernel_rfl)))
    laidOut (of_decide_eq_true (by kernel_rfl)) rfl Tryd.underlying4 rfl ?_
  intro W base args ds p hL hsh hval hA
  rw [Tryd.params4] at hA hval
  obtain ⟨v0, vs0, d0, ds0, p0, q0, hargs, rfl, rfl, h0, r0⟩ := trodAll_cons hA
  obtain ⟨rfl, rfl, rfl⟩ := trodAll_nil r0
  obtain rfl : args = #[v0] := by cases args; simp_all
  obtain ⟨s0, rfl, b0⟩ := open_s (hval 0 9 v0 rfl rfl) h0
  exact ⟨rfl, walk W hL hsh s0 b0⟩

theorem over : Rows.fnExactParseTerrainRow.holds Tryd.pinned (OpenSpec.ofChange Rows.fnExactParseTerrainSpec) :=
  OpenClaim.holds_of_wide 4 Tryd.f4 rfl rfl rfl rfl rfl rfl rfl ⟨rfl, rfl, rfl, rfl, rfl⟩ rfl rfl rfl rfl rfl (by kernel_rfl) Tryd.func4 (by kernel_rfl)
    (of_decide_eq_true (by kernel_rfl)) (by unfold Func.isWrapper; first | (rw [if_pos (by decide +kernel)]; kernel_rfl) | (rw [if_neg (by decide +kernel)]; exact ⟨rfl, rfl⟩))
    (fun os started H enc _ => lifted os started H enc)

theorem proved : Rows.FnExactParseTerrainCardSaid :=
  Claim7.holds_tied_plain_at .later [] [.data, .pinned] true (true, "1bc418486c525293c149fd31809b774809e3d2f13b776d816489c80c7f0b6c47") true
    over (fun _ h => by cases h) (by kernel_rfl) (fun _ h => by cases h) fnExactParseTerrain_row_tie rfl ⟨rfl, rfl⟩ (by kernel_rfl) rfl
    (fun f fn hf hfn => by
      obtain rfl : f = 4 := Option.some.inj ((show Tryd.prog.funcNamed Rows.fnExactParseTerrainRow.func = some 4 by kernel_rfl).symm.trans hf) |>.symm
      obtain rfl : fn = Tryd.f4 := (Option.some.inj (Tryd.func4.symm.trans hfn)).symm
      exact ⟨by kernel_rfl, fun j t ht => by
        rw [Tryd.params4] at ht
        have hm : t ∈ [9] := by simpa using Array.mem_of_getElem? ht
        have hall : ([9].all fun u => !Tryd.prog.wantsStandIn u) = true := by kernel_rfl
        exact (show Tryd.prog.wantsStandIn t = false by simpa using List.all_eq_true.1 hall t hm)⟩)
    (by kernel_rfl)
#print axioms proved
end Go.Proofs.YtabedcpibnnnhaaDoor.lParseTerrain
