/- RedFlagHours in the reference; both at any arguments. Conditions: none. -/
import Derived.Test.YtabedcpibnnnhaaRed2
namespace Go.Proofs.Ytabedcpibnnnhaa
open Go.ChangeShapes Go.WideShapes Go.ChangeAt Go.RowKit Go.Deep
set_option linter.unusedVariables false
set_option linter.unusedSimpArgs false
set_option maxRecDepth 100000

set_option maxHeartbeats 8000000 in
theorem sRedFlagHours_yes (A : Option Addr) (c : Nat) (ps : List Wx) (sp hu : Int) (w : World) (hs : Sl w 4 (.slice A ps.length c) ps.length (wxs ps)) (hF : foreB ps = true) (hT : inB sp 0 120 = true) (hU : inB hu 0 100 = true) :
    Calls Try.prog 30 #[.slice A ps.length c, .int .i64 sp, .int .i64 hu] w (RetRR w (rfS ps sp hu ps.length) true) := by
  have HA := Lib.hid fun W hW => l5Good_any _ ps W (hs.below (w' := W) hW)
  rw [hF] at HA
  obtain ⟨n1, n2⟩ := fore_len hF
  obtain ⟨t0, t1⟩ := inB_iff.1 hT
  obtain ⟨u0, u1⟩ := inB_iff.1 hU
  obtain ⟨i0, hi, hz0, hz1, hz2⟩ := info_parts info_ints
  generalize hN : ps.length = N at *
  have HN := Lib.hid hN
  have Hs := Lib.hid hs
  clear hN hs hF
  have hR0 : Hid (RowsV (w.alloc (.cells #[] 60)) w.heap.size (.slice (some ⟨w.heap.size, 0, none⟩) 0 0) [] (rfS ps sp hu 0)) := by
    show RowsV _ _ _ _ _
    exact RowsV.nil (Qw.emptyAt (hp0 _ _) (Nat.le_refl _))
  go_enter Try.func30, Try.ntmps30
  go_wp2_with fail
  with_reducible refine (HA.out _ (grow_alloc _ _)).mono ?_
  rintro e w1 ⟨rfl, hb1⟩
  have hR1 := Lib.hid (hR0.out.below hb1)
  have hb2 := Lib.hid (grow_trans (grow_alloc w (.cells #[] 60)) hb1)
  clear hb1 HA hR0
  go_wp2_with (go_at_call 61; refine (l1In_any _ _ _ _).mono ?_; rintro e w' ⟨rfl, rfl⟩; first | rw [hT] | rw [hU])
  go_loopw [8, 9] (fun o i wr => ∃ k : Nat, k ≤ N ∧ i = .int .i64 k ∧ ∃ vs : List Value, Hid (Below w.heap.size w wr) ∧ Hid (RowsV wr w.heap.size o vs (rfS ps sp hu k))) (fun _ i _ => N - (intOf i).toNat)
  case atStart => exact ⟨0, Nat.zero_le _, rfl, [], hb2.out, hR1.out⟩
  case round =>
    obtain ⟨k, hk, rfl, vs, hb, hR⟩ := hrel
    by_cases hlt : k < N
    · obtain ⟨b, off, f, s, g, r, rfl, hx, c0, c1, c2, c3⟩ := (Hs.out.below hb.out).wx HN.out hlt
      have hsz := hb.out.size
      have hle := rf_le ps sp hu k
      have Htwo := Lib.hid (rf_two ps sp hu k)
      by_cases hq1 : s < sp
      · have E := Lib.hid (rf_skip (hu := hu) hx (.inl hq1))
        clear hx
        go_wp2
        go_roundw
        case rel => exact ⟨k + 1, by omega, by go_num, vs, hb.out, by show RowsV _ _ _ _ _; rw [E.out]; exact hR.out⟩
        case measure => simp [intOf]; omega
      · by_cases hq2 : hu < r
        · have E := Lib.hid (rf_skip (sp := sp) hx (.inr hq2))
          clear hx
          go_wp2
          go_roundw
          case rel => exact ⟨k + 1, by omega, by go_num, vs, hb.out, by show RowsV _ _ _ _ _; rw [E.out]; exact hR.out⟩
          case measure => simp [intOf]; omega
        · have E := Lib.hid (rf_take hx hq1 hq2)
          clear hx
          generalize rfS ps sp hu k = S at *
          generalize hS' : rfS ps sp hu (k + 1) = S' at *
          have HS' := Lib.hid hS'
          clear hS'
          have hvl := hR.out.len
          obtain ⟨Ao, co, hov⟩ := (Sl.of_q hR.out.outer).val
          rw [hvl] at hov
          subst hov
          have hq3 := Lib.hid (Qw.below (Qw.below hR.out.outer (grow_alloc _ (.cells #[.int .i64 k, .int .i64 k] 3))) (grow_alloc _ (.cells #[.slice (some ⟨wr.heap.size, 0, none⟩) 2 2] 60)))
          rw [hvl] at hq3
          have h2k : IntKind.i64.wrap ((k : Int) - 1) = (k : Int) - 1 := IntWalk.i64_in _ (by omega)
          cases hSl : S.length with
          | zero =>
            obtain rfl := List.eq_nil_of_length_eq_zero hSl
            obtain rfl := List.eq_nil_of_length_eq_zero hvl
            rw [ext_none] at E
            clear Htwo
            go_wp2_with ((at_builtin; refine wpList_append_q _ rfl _ _ 56 rfl w.heap.size 60 i0 (.slice none 0 0) 1 24 Try.underlying56 hi hz0 hz1 hz2 rfl (by decide) _ _ _ rfl hq3.out _ 1 [.slice (some ⟨wr.heap.size, 0, none⟩) 2 2] rfl (Sl.boxAt (hp2 _ _ _)) (by intro u hu; simp at hu; subst hu; rfl) (by unfold maxLen; simp) (by simp) (by simp; omega) ?_))
            intro vA wA hqA hgA hdA
            have hRA := Lib.hid (RowsV.addHH (s := wr.heap.size) hR.out hsz rfl hqA hgA)
            have hbA := Lib.hid (((hb.out.alloc hb.out.size _).alloc (by simp; omega) _).grown hgA (by simp; omega) (fun j hj => (hR.out.outer.lt j hj).1))
            clear hqA hgA hdA
            go_wp2
            go_roundw
            case rel => exact ⟨k + 1, by omega, by go_num, _, hbA.out, by show RowsV _ _ _ _ _; rw [HS'.out, E.out]; exact hRA.out⟩
            case measure => simp [intOf]; omega
          | succ n =>
            have hvn : vs.length = n + 1 := hvl.trans hSl
            rw [hSl] at hR hq3
            obtain ⟨b2, off2, z, rfl, hz, hcO⟩ := (by have := hR.out.sl.outer; rw [hvn] at this; exact this : Sl wr 1 (.slice Ao (n + 1) co) (n + 1) (vs.map id)).at1 hvn (Nat.lt_succ_self n)
            simp only [id] at hcO
            obtain ⟨p, hp⟩ : ∃ p, S[n]? = some p := ⟨_, List.getElem?_eq_getElem (by omega)⟩
            obtain ⟨a, d, rfl⟩ := Htwo.out p (List.mem_of_getElem? hp)
            have hrow := hR.out.row n z [a, d] hz hp
            obtain ⟨Az, cz, hzv, hAz⟩ := own_form hrow
            obtain ⟨gz, rfl, _, hgz⟩ := hAz (by simp)
            subst hzv
            have r0 := hrow.cellAt 0 (by simp)
            have r1 := hrow.cellAt 1 (by simp)
            simp at r0 r1
            have hbO := World.block_lt_of_cell? wr _ hcO
            simp at hbO
            have fO : wr.frozen? ⟨b2, off2 + n, none⟩ = false := by
              have := hR.out.outer
              rw [hvn] at this
              exact (this.stored n (.int .i64 0)).2.2
            have hlb1 : b2 < wr.heap.size + 1 := by omega
            have hlb2 : ¬ b2 = wr.heap.size := by omega
            have hlb3 : gz < wr.heap.size + 1 := by omega
            have hlb4 : ¬ gz = wr.heap.size := by omega
            have hw : IntKind.i64.wrap ((n : Int) + 1 - 1) = (n : Int) := by rw [IntWalk.i64_in _ (by omega)]; omega
            have HP := Lib.hid hp
            clear Htwo hp hz hrow hAz
            by_cases hdk : d = (k : Int) - 1
            · have E2 := Lib.hid (E.out.trans (ext_put hSl HP.out hdk))
              have hbo2 : w.heap.size ≤ b2 := (hR.out.outer.lt b2 rfl).1
              have hR2 := Lib.hid (RowsV.putHH (a := a) (b := (k : Int)) (s := wr.heap.size) (L := 0) (by rw [hvn]; exact hR.out) hsz rfl (n := n) (by omega))
              have hbs : Hid (Below w.heap.size w ((wr.alloc (.cells #[.int .i64 a, .int .i64 k] 3)).setCell ⟨b2, off2 + n, none⟩ (.slice (some ⟨wr.heap.size, 0, none⟩) 2 2))) := (hb.out.alloc hb.out.size _).setCell (by show w.heap.size ≤ b2; omega) _
              rw [hvn] at hR2
              have hcm := World.setCell_alloc_past (w := wr) (.cells #[.int .i64 a, .int .i64 k] 3) b2 (off2 + n) (.slice (some ⟨wr.heap.size, 0, none⟩) 2 2) (by omega)
              rw [hcm] at hR2 hbs
              clear E hcm
              subst hdk
              go_wp2
              go_roundw
              case rel => exact ⟨k + 1, by omega, by go_num, _, hbs.out, by show RowsV _ _ _ _ _; rw [HS'.out, E2.out]; exact hR2.out⟩
              case measure => simp [intOf]; omega
            · have E2 := Lib.hid (E.out.trans (ext_add hSl HP.out hdk))
              clear E
              have hdk' : (d == (k : Int) - 1) = false := by simpa using hdk
              go_wp2_with ((at_builtin; refine wpList_append_q _ rfl _ _ 56 rfl w.heap.size 60 i0 (.slice none 0 0) 1 24 Try.underlying56 hi hz0 hz1 hz2 rfl (by decide) _ _ _ rfl hq3.out _ 1 [.slice (some ⟨wr.heap.size, 0, none⟩) 2 2] rfl (Sl.boxAt (hp2 _ _ _)) (by intro u hu; simp at hu; subst hu; rfl) (by unfold maxLen; omega) (by omega) (by simp; omega) ?_))
              intro vA wA hqA hgA hdA
              have hRA := Lib.hid (RowsV.addHH (s := wr.heap.size) hR.out hsz rfl (by rw [hvn]; exact hqA) hgA)
              have hbA := Lib.hid (((hb.out.alloc hb.out.size _).alloc (by simp; omega) _).grown hgA (by simp; omega) (fun j hj => (hR.out.outer.lt j hj).1))
              clear hqA hgA hdA
              go_wp2
              go_roundw
              case rel => exact ⟨k + 1, by omega, by go_num, _, hbA.out, by show RowsV _ _ _ _ _; rw [HS'.out, E2.out]; exact hRA.out⟩
              case measure => simp [intOf]; omega
    · obtain rfl : k = N := by omega
      go_wp2
      exact bodyPost_ret (v := .tuple #[_, .bool true]) (by simp [results, Try.results30, go_sem]) rfl ⟨_, vs, rfl, hR.out, hb.out⟩
theorem RedFlagHours_any (v : Value) (ps : List Wx) (sp hu : Int) (w : World) (hs : Sl w 4 v ps.length (wxs ps)) :
    Calls Try.prog 29 #[v, .int .i64 sp, .int .i64 hu] w (RetRR w (selRR (foreB ps && inB sp 0 120 && inB hu 0 100) (rfS ps sp hu ps.length)) (foreB ps && inB sp 0 120 && inB hu 0 100)) := by
  have HA := Lib.hid (IsForecast_any v ps w hs)
  obtain ⟨A, c, rfl⟩ := hs.val
  cases hF : foreB ps
  · rw [hF] at HA
    clear hs hF
    go_enter Try.func29, Try.ntmps29
    go_wp2_with (go_at_call 24; refine HA.out.mono ?_; rintro e w1 ⟨rfl, hb1⟩)
    exact bodyPost_ret (v := .tuple #[.slice none 0 0, .bool false]) (by simp [results, Try.results29, go_sem]) rfl ⟨_, [], rfl, RowsV.nil (Qw.nil _ _ _ _), hb1⟩
  · cases hT : inB sp 0 120
    · rw [hF] at HA
      clear hs hF
      go_enter Try.func29, Try.ntmps29
      go_wp2_with fail
      with_reducible refine HA.out.mono ?_
      rintro e w1 ⟨rfl, hb1⟩
      have hb1 := Lib.hid hb1
      go_wp2_with (go_at_call 53; refine (in_any _ _ _ _).mono ?_; rintro e w' ⟨rfl, rfl⟩; rw [hT])
      exact bodyPost_ret (v := .tuple #[.slice none 0 0, .bool false]) (by simp [results, Try.results29, go_sem]) rfl ⟨_, [], rfl, RowsV.nil (Qw.nil _ _ _ _), hb1.out⟩
    · cases hU : inB hu 0 100
      · rw [hF] at HA
        clear hs hF
        go_enter Try.func29, Try.ntmps29
        go_wp2_with fail
        with_reducible refine HA.out.mono ?_
        rintro e w1 ⟨rfl, hb1⟩
        have hb1 := Lib.hid hb1
        go_wp2_with (go_at_call 53; refine (in_any _ _ _ _).mono ?_; rintro e w' ⟨rfl, rfl⟩; first | rw [hT] | rw [hU])
        exact bodyPost_ret (v := .tuple #[.slice none 0 0, .bool false]) (by simp [results, Try.results29, go_sem]) rfl ⟨_, [], rfl, RowsV.nil (Qw.nil _ _ _ _), hb1.out⟩
      · exact RedFlagHours_yes A c ps sp hu w hs hF hT hU
theorem sRedFlagHours_any (v : Value) (ps : List Wx) (sp hu : Int) (w : World) (hs : Sl w 4 v ps.length (wxs ps)) :
    Calls Try.prog 30 #[v, .int .i64 sp, .int .i64 hu] w (RetRW w (selRR (foreB ps && inB sp 0 120 && inB hu 0 100) (rfS ps sp hu ps.length)) (foreB ps && inB sp 0 120 && inB hu 0 100)) := by
  have HA := Lib.hid fun W hW => l5Good_any v ps W (hs.below (w' := W) hW)
  obtain ⟨A, c, rfl⟩ := hs.val
  have ho0 : Hid (RowsV (w.alloc (.cells #[] 60)) w.heap.size (.slice (some ⟨w.heap.size, 0, none⟩) 0 0) [] []) := by
    show RowsV _ _ _ _ _
    exact RowsV.nil (Qw.emptyAt (hp0 _ _) (Nat.le_refl _))
  cases hF : foreB ps
  · rw [hF] at HA
    clear hs hF
    go_enter Try.func30, Try.ntmps30
    go_wp2_with fail
    with_reducible refine (HA.out _ (grow_alloc _ _)).mono ?_
    rintro e w1 ⟨rfl, hb1⟩
    have ho1 := Lib.hid (ho0.out.below hb1)
    have hb1 := Lib.hid (grow_trans (grow_alloc _ _) hb1)
    go_wp2
    exact bodyPost_ret (v := .tuple #[.slice (some ⟨w.heap.size, 0, none⟩) 0 0, .bool false]) (by simp [results, Try.results30, go_sem]) rfl ⟨_, [], rfl, ho1.out.toW, hb1.out⟩
  · cases hT : inB sp 0 120
    · rw [hF] at HA
      clear hs hF
      go_enter Try.func30, Try.ntmps30
      go_wp2_with fail
      with_reducible refine (HA.out _ (grow_alloc _ _)).mono ?_
      rintro e w1 ⟨rfl, hb1⟩
      have ho1 := Lib.hid (ho0.out.below hb1)
      have hb1 := Lib.hid (grow_trans (grow_alloc _ _) hb1)
      go_wp2_with (go_at_call 61; refine (l1In_any _ _ _ _).mono ?_; rintro e w' ⟨rfl, rfl⟩; rw [hT])
      exact bodyPost_ret (v := .tuple #[.slice (some ⟨w.heap.size, 0, none⟩) 0 0, .bool false]) (by simp [results, Try.results30, go_sem]) rfl ⟨_, [], rfl, ho1.out.toW, hb1.out⟩
    · cases hU : inB hu 0 100
      · rw [hF] at HA
        clear hs hF
        go_enter Try.func30, Try.ntmps30
        go_wp2_with fail
        with_reducible refine (HA.out _ (grow_alloc _ _)).mono ?_
        rintro e w1 ⟨rfl, hb1⟩
        have ho1 := Lib.hid (ho0.out.below hb1)
        have hb1 := Lib.hid (grow_trans (grow_alloc _ _) hb1)
        go_wp2_with (go_at_call 61; refine (l1In_any _ _ _ _).mono ?_; rintro e w' ⟨rfl, rfl⟩; first | rw [hT] | rw [hU])
        exact bodyPost_ret (v := .tuple #[.slice (some ⟨w.heap.size, 0, none⟩) 0 0, .bool false]) (by simp [results, Try.results30, go_sem]) rfl ⟨_, [], rfl, ho1.out.toW, hb1.out⟩
      · refine (sRedFlagHours_yes A c ps sp hu w hs hF hT hU).mono ?_
        rintro e w' ⟨u, vs, rfl, h1, h2⟩
        exact ⟨u, vs, rfl, h1.toW, h2⟩
end Go.Proofs.Ytabedcpibnnnhaa
