/- RedFlagHours in the program and in the reference. Conditions: none; each stands at any arguments. -/
import Derived.Test.YtabedcpibnnnhaaRed
namespace Go.Proofs.Ytabedcpibnnnhaa
open Go.ChangeShapes Go.WideShapes Go.ChangeAt Go.RowKit Go.Deep
set_option linter.unusedVariables false
set_option linter.unusedSimpArgs false
set_option maxRecDepth 100000

set_option maxHeartbeats 8000000 in
theorem RedFlagHours_yes (A : Option Addr) (c : Nat) (ps : List Wx) (sp hu : Int) (w : World) (hs : Sl w 4 (.slice A ps.length c) ps.length (wxs ps)) (hF : foreB ps = true) (hT : inB sp 0 120 = true) (hU : inB hu 0 100 = true) :
    Calls Try.prog 29 #[.slice A ps.length c, .int .i64 sp, .int .i64 hu] w (RetRR w (rfS ps sp hu ps.length) true) := by
  have HA := Lib.hid fun W hW => IsForecast_any _ ps W (hs.below (w' := W) hW)
  rw [hF] at HA
  obtain ⟨n1, n2⟩ := fore_len hF
  obtain ⟨t0, t1⟩ := inB_iff.1 hT
  obtain ⟨u0, u1⟩ := inB_iff.1 hU
  obtain ⟨i0, hi, hz0, hz1, hz2⟩ := info_parts info_ints
  generalize hN : ps.length = N at *
  have HN := Lib.hid hN
  have Hs := Lib.hid hs
  clear hN hs hF
  go_enter Try.func29, Try.ntmps29
  go_wp2_with fail
  with_reducible refine (HA.out _ (Below.refl _ _)).mono ?_
  rintro e w1 ⟨rfl, hb1⟩
  have hR1 : Hid (RowsV (w1.alloc (.cells #[] 60)) w.heap.size (.slice (some ⟨w1.heap.size, 0, none⟩) 0 0) [] (rfS ps sp hu 0)) := by
    show RowsV _ _ _ _ _
    exact RowsV.nil (Qw.emptyAt (hp0 _ _) hb1.size)
  have hb2 := Lib.hid (grow_trans hb1 (grow_alloc w1 (.cells #[] 60)))
  clear hb1 HA
  go_wp2_with (go_at_call 53; refine (in_any _ _ _ _).mono ?_; rintro e w' ⟨rfl, rfl⟩; first | rw [hT] | rw [hU])
  go_loopw [8, 28] (fun o i wr => ∃ k : Nat, k ≤ N ∧ i = .int .i64 k ∧ ∃ vs : List Value, Hid (Below w.heap.size w wr) ∧ Hid (RowsV wr w.heap.size o vs (rfS ps sp hu k))) (fun _ i _ => N - (intOf i).toNat)
  case atStart => exact ⟨0, Nat.zero_le _, rfl, [], hb2.out, hR1.out⟩
  case round =>
    obtain ⟨k, hk, rfl, vs, hb, hR⟩ := hrel
    by_cases hlt : k < N
    · obtain ⟨b, off, f, s, g, r, rfl, hx, c0, c1, c2, c3⟩ := (Hs.out.below hb.out).wx HN.out hlt
      have hsz := hb.out.size
      have hba := Lib.hid (hb.out.alloc hb.out.size (.cells #[.int .i64 f, .int .i64 s, .int .i64 g, .int .i64 r] 53))
      have hRa := Lib.hid (hR.out.below (grow_alloc wr (.cells #[.int .i64 f, .int .i64 s, .int .i64 g, .int .i64 r] 53)))
      have hle := rf_le ps sp hu k
      have Htwo := Lib.hid (rf_two ps sp hu k)
      by_cases hq1 : s < sp
      · have E := Lib.hid (rf_skip (hu := hu) hx (.inl hq1))
        clear hx
        go_wp2
        go_roundw
        case rel => exact ⟨k + 1, by omega, by go_num, vs, hba.out, by show RowsV _ _ _ _ _; rw [E.out]; exact hRa.out⟩
        case measure => simp [intOf]; omega
      · by_cases hq2 : hu < r
        · have E := Lib.hid (rf_skip (sp := sp) hx (.inr hq2))
          clear hx
          go_wp2
          go_roundw
          case rel => exact ⟨k + 1, by omega, by go_num, vs, hba.out, by show RowsV _ _ _ _ _; rw [E.out]; exact hRa.out⟩
          case measure => simp [intOf]; omega
        · have E := Lib.hid (rf_take hx hq1 hq2)
          clear hx
          generalize rfS ps sp hu k = S at *
          generalize hS' : rfS ps sp hu (k + 1) = S' at *
          have HS' := Lib.hid hS'
          clear hS'
          have hvl := hR.out.len
          obtain ⟨Ao, co, hov⟩ := (Sl.of_q hR.out.outer).val
          rw [hvl] at hov
          subst hov
          have hq3 := Lib.hid (Qw.below (Qw.below hRa.out.outer (grow_alloc _ (.cells #[.int .i64 k, .int .i64 k] 3))) (grow_alloc _ (.cells #[.slice (some ⟨wr.heap.size + 1, 0, none⟩) 2 2] 60)))
          rw [hvl] at hq3
          have h2k : IntKind.i64.wrap ((k : Int) - 1) = (k : Int) - 1 := IntWalk.i64_in _ (by omega)
          cases hSl : S.length with
          | zero =>
            obtain rfl := List.eq_nil_of_length_eq_zero hSl
            obtain rfl := List.eq_nil_of_length_eq_zero hvl
            rw [ext_none] at E
            clear Htwo
            go_wp2_with ((at_builtin; refine wpList_append_q _ rfl _ _ 56 rfl w.heap.size 60 i0 (.slice none 0 0) 1 24 Try.underlying56 hi hz0 hz1 hz2 rfl (by decide) _ _ _ rfl hq3.out _ 1 [.slice (some ⟨wr.heap.size + 1, 0, none⟩) 2 2] rfl (Sl.boxAt (hp3 _ _ _ _)) (by intro u hu; simp at hu; subst hu; rfl) (by unfold maxLen; simp) (by simp) (by simp; omega) ?_))
            intro vA wA hqA hgA hdA
            have hRA := Lib.hid (RowsV.addHH hRa.out (by simp; omega) (by simp) hqA hgA)
            have hbA := Lib.hid (((hba.out.alloc hba.out.size _).alloc (by simp; omega) _).grown hgA (by simp; omega) (fun j hj => (hR.out.outer.lt j hj).1))
            clear hqA hgA hdA
            go_wp2
            go_roundw
            case rel => exact ⟨k + 1, by omega, by go_num, _, hbA.out, by show RowsV _ _ _ _ _; rw [HS'.out, E.out]; exact hRA.out⟩
            case measure => simp [intOf]; omega
          | succ n =>
            have hvn : vs.length = n + 1 := hvl.trans hSl
            rw [hSl] at hR hRa hq3
            obtain ⟨b2, off2, z, rfl, hz, hcO⟩ := (by have := hR.out.sl.outer; rw [hvn] at this; exact this : Sl wr 1 (.slice Ao (n + 1) co) (n + 1) (vs.map id)).at1 hvn (Nat.lt_succ_self n)
            simp only [id] at hcO
            obtain ⟨p, hp⟩ : ∃ p, S[n]? = some p := ⟨_, List.getElem?_eq_getElem (by omega)⟩
            obtain ⟨a, d, rfl⟩ := Htwo.out p (List.mem_of_getElem? hp)
            have hrow := hR.out.row n z [a, d] hz hp
            obtain ⟨Az, cz, hzv, hAz⟩ := own_form hrow
            obtain ⟨gz, rfl, _, hgz⟩ := hAz (by simp)
            subst hzv
            have r0 := hrow.cellAt 0 (by simp)
            have r1 := hrow.cellAt 1 (by simp)
            simp at r0 r1
            have f1 := hrow.frozenAt 1
            have hbO := World.block_lt_of_cell? wr _ hcO
            simp at hbO
            have q0 := cell_below0 hcO (grow_alloc wr (.cells #[.int .i64 f, .int .i64 s, .int .i64 g, .int .i64 r] 53))
            have q1 := cell_below0 r0 (grow_alloc wr (.cells #[.int .i64 f, .int .i64 s, .int .i64 g, .int .i64 r] 53))
            have q2 := cell_below0 r1 (grow_alloc wr (.cells #[.int .i64 f, .int .i64 s, .int .i64 g, .int .i64 r] 53))
            have hrowA := own_below hrow (grow_alloc wr (.cells #[.int .i64 f, .int .i64 s, .int .i64 g, .int .i64 r] 53))
            have f2 := hrowA.frozenAt 1
            have hlb1 : b2 < wr.heap.size + 1 := by omega
            have hlb2 : ¬ b2 = wr.heap.size := by omega
            have hlb3 : gz < wr.heap.size + 1 := by omega
            have hlb4 : ¬ gz = wr.heap.size := by omega
            have hw : IntKind.i64.wrap ((n : Int) + 1 - 1) = (n : Int) := by rw [IntWalk.i64_in _ (by omega)]; omega
            have HP := Lib.hid hp
            have HZ := Lib.hid hz
            have HRW := Lib.hid hrow
            clear Htwo hp hz hrow hrowA hAz
            by_cases hdk : d = (k : Int) - 1
            · have E2 := Lib.hid (E.out.trans (ext_put hSl HP.out hdk))
              have hst := (HRW.out.stored 1 (.int .i64 k))
              have hR2 := Lib.hid ((RowsV.set (l' := [a, (k : Int)]) hR.out HZ.out HP.out hst.1 hst.2).below (grow_alloc _ (.cells #[.int .i64 f, .int .i64 s, .int .i64 g, .int .i64 r] 53)))
              have hbs : Hid (Below w.heap.size w ((wr.setCell ⟨gz, 1, none⟩ (.int .i64 k)).alloc (.cells #[.int .i64 f, .int .i64 s, .int .i64 g, .int .i64 r] 53))) := (hb.out.setCell (by show w.heap.size ≤ gz; exact (HRW.out.lt gz rfl).1) _).alloc (by simpa using hb.out.size) _
              clear hst E
              subst hdk
              go_wp2
              go_roundw
              case rel => exact ⟨k + 1, by omega, by go_num, _, hbs.out, by show RowsV _ _ _ _ _; rw [HS'.out, E2.out]; exact hR2.out⟩
              case measure => simp [intOf]; omega
            · have E2 := Lib.hid (E.out.trans (ext_add hSl HP.out hdk))
              clear E
              have hdk' : (d == (k : Int) - 1) = false := by simpa using hdk
              go_wp2_with ((at_builtin; refine wpList_append_q _ rfl _ _ 56 rfl w.heap.size 60 i0 (.slice none 0 0) 1 24 Try.underlying56 hi hz0 hz1 hz2 rfl (by decide) _ _ _ rfl hq3.out _ 1 [.slice (some ⟨wr.heap.size + 1, 0, none⟩) 2 2] rfl (Sl.boxAt (hp3 _ _ _ _)) (by intro u hu; simp at hu; subst hu; rfl) (by unfold maxLen; omega) (by omega) (by simp; omega) ?_))
              intro vA wA hqA hgA hdA
              have hRA := Lib.hid (RowsV.addHH (s := wr.heap.size + 1) hRa.out (by simp; omega) (by simp) (by rw [hvn]; exact hqA) hgA)
              have hbA := Lib.hid (((hba.out.alloc hba.out.size _).alloc (by simp; omega) _).grown hgA (by simp; omega) (fun j hj => (hRa.out.outer.lt j hj).1))
              clear hqA hgA hdA
              go_wp2
              go_roundw
              case rel => exact ⟨k + 1, by omega, by go_num, _, hbA.out, by show RowsV _ _ _ _ _; rw [HS'.out, E2.out]; exact hRA.out⟩
              case measure => simp [intOf]; omega
    · obtain rfl : k = N := by omega
      go_wp2
      exact bodyPost_ret (v := .tuple #[_, .bool true]) (by simp [results, Try.results29, go_sem]) rfl ⟨_, vs, rfl, hR.out, hb.out⟩
end Go.Proofs.Ytabedcpibnnnhaa
