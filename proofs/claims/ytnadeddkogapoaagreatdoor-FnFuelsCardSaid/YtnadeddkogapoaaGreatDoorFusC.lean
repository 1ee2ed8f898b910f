/- Whether fuels are valid, in the reference. Conditions: as each states. -/
import Derived.Test.YtnadeddkogapoaaGreatDoorFusB
namespace Go.Proofs.YtnadeddkogapoaaGreatDoor
open Go.ChangeShapes Go.WideShapes Go.ChangeAt Go.RowKit Go.Deep
set_option linter.unusedVariables false
set_option linter.unusedSimpArgs false
set_option maxRecDepth 100000

theorem are_no1 {ps : List Fu} {k : Nat} (hk : k < ps.length) (h : ok1 ps k = false) : areB ps = false := by unfold areB; rw [lst_no hk h]; rfl
theorem are_no2 {ps : List Fu} {k : Nat} (hk : k < ps.length) (h : ok2 ps k = false) : areB ps = false := by unfold areB; rw [dif_no hk h, Bool.and_false]
theorem are_len {ps : List Fu} (h : ¬ ps.length ≤ 8) : areB ps = false := by unfold areB; rw [lst_len h]; rfl
theorem are_all {ps : List Fu} (hl : ps.length ≤ 8) (h : ∀ j, j < ps.length → ok1 ps j = true ∧ ok2 ps j = true) : areB ps = true := by
  unfold areB; rw [lst_all (fun j hj => (h j hj).1), dif_all (fun j hj => (h j hj).2)]; simp [hl]
set_option maxHeartbeats 8000000 in
theorem l3Good_any (v : Value) (ps : List Fu) (w : World) (hs : Sl w 5 v ps.length (fus ps)) (hm : ∀ p ∈ ps, p.n.size ≤ maxLen) :
    Calls Tryz.prog 43 #[v] w fun e w' => e = .returned (.bool (areB ps)) ∧ Below w.heap.size w w' := by
  have hmx := hs.len
  unfold maxLen at hmx
  have Hm := Lib.hid hm
  have Hno1 := Lib.hid fun k => are_no1 (ps := ps) (k := k)
  have Hno2 := Lib.hid fun k => are_no2 (ps := ps) (k := k)
  have Hlen := Lib.hid (are_len (ps := ps))
  have Hall := Lib.hid (are_all (ps := ps))
  obtain ⟨A, c, rfl⟩ := hs.val
  have HO := Lib.hid fun k i n r l o => ok1_at (ps := ps) (k := k) (i := i) (n := n) (r := r) (l := l) (o := o)
  generalize areB ps = R at *
  generalize hN : ps.length = N at *
  have HN := Lib.hid hN
  have Hs := Lib.hid hs
  clear hN hs hm
  go_enter Tryz.func43, Tryz.ntmps43
  go_wp2
  go_loopw [3] (fun i wr => ∃ k : Nat, k ≤ N ∧ k ≤ 9 ∧ i = .int .i64 k ∧ Hid (Below w.heap.size w wr) ∧ Hid (∀ j, j < k → ok1 ps j = true ∧ ok2 ps j = true)) (fun i _ => N - (intOf i).toNat)
  case atStart => exact ⟨0, Nat.zero_le _, Nat.zero_le _, rfl, Below.refl _ _, fun j hj => by omega⟩
  case round =>
    obtain ⟨k, hk, hk9, rfl, hb, hok⟩ := hrel
    by_cases hlt : k < N
    · have hlz : (k : Int) < (N : Int) := by omega
      by_cases hk8 : k ≤ 8
      · have hk8' : (k : Int) ≤ 8 := by omega
        obtain ⟨b, off, i, n, r, l, o, rfl, hx, c0, c1, c2, c3, c4⟩ := (Hs.out.below hb.out).fu HN.out hlt
        have hsz := Hm.out _ (List.mem_of_getElem? hx)
        simp only at hsz
        have HV := Lib.hid fun W => l3One_any i n r l o W hsz
        have hO := HO.out k i n r l o hx
        have hnm := nmF_at hx
        have Hnk1 := Lib.hid (Hno1.out k hlt)
        have Hnk2 := Lib.hid (Hno2.out k hlt)
        have hbl := World.block_lt_of_cell? wr _ c0
        have hlb : b < wr.heap.size := by simpa using hbl
        clear hbl
        cases hf : fuelB i n.data.toList r l o with
        | false =>
          have hR := Hnk1.out (by rw [hO, hf]; rfl)
          subst hR
          rw [hf] at HV
          clear Hall Hno1 Hno2 Hnk1 Hnk2 Hlen hO hf hsz hx HO hnm
          have hq := fun m : Later wr => m.cell
          go_wp2_with fail
          refine wp_region_later (by kernel_rfl) (by kernel_rfl) ?_
          repeat (go_big_quiet_step ((first | (go_at_call 29; exact later_of (HV.out _)))))
          refine wpQuiet_nil ?_
          rintro _ ⟨wq, rfl⟩
          go_wp2
          go_ret
          exact ⟨rfl, grow_trans hb.out wq.h⟩
        | true =>
          rw [hf] at HV hO
          rw [Bool.true_and] at hO
          clear hf hsz
          -- what the checks of the numbers leave: the names
          have Hin : Hid (ok1 ps k = true → ∀ j, j < k + 1 → ok1 ps j = true ∧ (j = k ∨ ok2 ps j = true)) := by
            show _ → _
            intro h1 j hj
            by_cases e : j < k
            · exact ⟨(hok.out j e).1, .inr (hok.out j e).2⟩
            · obtain rfl : j = k := by omega
              exact ⟨h1, .inl rfl⟩
          by_cases h1 : ok1 ps k = true
          · have hup : k = 0 ∨ ∃ j i', k = j + 1 ∧ i' < i ∧ wr.cell? ⟨b, off + j * 5, none⟩ = some (.int .i64 i') := by
              rcases Nat.eq_zero_or_pos k with rfl | hk0
              · exact .inl rfl
              · obtain ⟨j, rfl⟩ : ∃ j, k = j + 1 := ⟨k - 1, by omega⟩
                obtain ⟨b', off', i', n', r', l', o', hA', hx', d0, _⟩ := (Hs.out.below hb.out).fu HN.out (show j < N by omega)
                obtain ⟨rfl, rfl⟩ : b = b' ∧ off = off' := by simpa using hA'
                refine .inr ⟨j, i', rfl, ?_, d0⟩
                rw [h1, Nat.add_sub_cancel, idF_at hx'] at hO
                simpa using hO.symm
            have Hok1 := Lib.hid h1
            have Hb := hb
            have Hx := Lib.hid hx
            have Hc1 := Lib.hid c1
            clear Hno1 Hnk1 HO hO h1 Hin hx
            have hinner : Hid (∀ wq : World, Below w.heap.size w wq → True) := fun _ _ => trivial
            rcases hup with rfl | ⟨j, i', rfl, hii, d0⟩
            · simp only [Nat.zero_mul, Nat.add_zero] at c0 c1 c2 c3 c4
              have hok2 : Hid (ok2 ps 0 = true) := by show _ = _; rfl
              have hq := fun m : Later wr => m.cell
              go_wp2_with fail
              refine wp_region_later (by kernel_rfl) (by kernel_rfl) ?_
              repeat (go_big_quiet_step ((first | (go_at_call 29; exact later_of (HV.out _)))))
              refine wpQuiet_nil ?_
              rintro _ ⟨wq, rfl⟩
              go_wp2
              refine wp_loop_rounds 1 ?_
              rw [rounds_succ]
              go_wp2
              go_roundw
              case rel => exact ⟨1, by omega, by omega, by go_num, grow_trans hb.out wq.h, fun j hj => by obtain rfl : j = 0 := by omega
                                                                                                          exact ⟨Hok1.out, hok2.out⟩⟩
              case measure => simp [intOf]; omega
            · have hw : IntKind.i64.wrap ((j : Int) + 1 - 1) = (j : Int) := by rw [IntWalk.i64_in _ (by omega)]; omega
              have hj2 : (j : Int) < (N : Int) := by omega
              have hii' : ¬ i ≤ i' := by omega
              have hq := fun m : Later wr => m.cell
              go_wp2_with fail
              refine wp_region_later (by kernel_rfl) (by kernel_rfl) ?_
              repeat (go_big_quiet_step ((first | (go_at_call 29; exact later_of (HV.out _)))))
              refine wpQuiet_nil ?_
              rintro _ ⟨wq, rfl⟩
              have hbq0 := Lib.hid (grow_trans hb.out wq.h)
              generalize wq.w = wo at *
              clear hq
              go_wp2
              go_loopw [4] (fun q wz => ∃ m : Nat, m ≤ j + 1 ∧ q = .int .i64 m ∧ Hid (Below w.heap.size w wz) ∧ Hid (∀ t, t < m → nmF ps t ≠ nmF ps (j + 1))) (fun q _ => j + 1 - (intOf q).toNat)
              case atStart => exact ⟨0, Nat.zero_le _, rfl, hbq0.out, fun t ht => by omega⟩
              case round =>
                obtain ⟨m, hm', rfl, hbz, hnn⟩ := hrel
                by_cases hltm : m < j + 1
                · obtain ⟨b2, off2, i2, n2, r2, l2, o2, hA2, hx2, e0, e1, e2, e3, e4⟩ := (Hs.out.below hbz.out).fu HN.out (show m < N by omega)
                  obtain ⟨b3, off3, i3, n3, r3, l3, o3, hA3, hx3, g0, g1, g2, g3, g4⟩ := (Hs.out.below hbz.out).fu HN.out hlt
                  obtain ⟨rfl, rfl⟩ : b = b2 ∧ off = off2 := by simpa using hA2
                  obtain ⟨rfl, rfl⟩ : b = b3 ∧ off = off3 := by simpa using hA3
                  have hn3 := nmF_at hx3
                  have hn2 := nmF_at hx2
                  have hmz : (m : Int) < (N : Int) := by omega
                  have hmz2 : (m : Int) < (j : Int) + 1 := by omega
                  by_cases hnq : n2 = n3
                  · have hR := Hnk2.out (ok2_no hltm (by rw [hn2, hn3, hnq]))
                    subst hR
                    subst hnq
                    clear Hall Hno2 Hnk2 Hlen hx2 hx3 hn2 hn3 hA2 hA3 hnm
                    go_wp2_with fail
                    go_quiet (fail)
                    go_wp2
                    go_ret
                    exact ⟨rfl, hbz.out.trans ((grow_drewN _ _).mono hbz.out.size)⟩
                  · have hnn2 : Hid (∀ t, t < m + 1 → nmF ps t ≠ nmF ps (j + 1)) := fun t ht => by
                      by_cases e : t < m
                      · exact hnn.out t e
                      · obtain rfl : t = m := by omega
                        rw [hn2, hn3]; exact hnq
                    have hnq' := beqL_no hnq
                    clear Hall Hno2 Hnk2 Hlen hx2 hx3 hn2 hn3 hA2 hA3 hnm
                    go_wp2_with fail
                    go_quiet (fail)
                    go_wp2
                    exact ⟨⟨m + 1, by omega, by go_num, hbz.out.trans ((grow_drewN _ _).mono hbz.out.size), hnn2.out⟩, by simp [intOf]; omega⟩
                · obtain rfl : m = j + 1 := by omega
                  have hok2 := Lib.hid (ok2_yes hnn.out)
                  go_wp2
                  go_roundw
                  case rel => exact ⟨j + 1 + 1, by omega, by omega, by go_num, hbz.out, fun t ht => by
                    by_cases e : t < j + 1
                    · exact hok.out t e
                    · obtain rfl : t = j + 1 := by omega
                      exact ⟨Hok1.out, hok2.out⟩⟩
                  case measure => simp [intOf]; omega
          · have hR := Hnk1.out (by simpa using h1)
            have hdn : ∃ j i', k = j + 1 ∧ i ≤ i' ∧ wr.cell? ⟨b, off + j * 5, none⟩ = some (.int .i64 i') := by
              rcases Nat.eq_zero_or_pos k with rfl | hk0
              · exact absurd hO (by simpa using h1)
              · obtain ⟨j, rfl⟩ : ∃ j, k = j + 1 := ⟨k - 1, by omega⟩
                obtain ⟨b', off', i', n', r', l', o', hA', hx', d0, _⟩ := (Hs.out.below hb.out).fu HN.out (show j < N by omega)
                obtain ⟨rfl, rfl⟩ : b = b' ∧ off = off' := by simpa using hA'
                refine ⟨j, i', rfl, ?_, d0⟩
                rw [Nat.add_sub_cancel, idF_at hx'] at hO
                rw [hO] at h1
                simp at h1
                omega
            obtain ⟨j, i', rfl, hii, d0⟩ := hdn
            subst hR
            have hw : IntKind.i64.wrap ((j : Int) + 1 - 1) = (j : Int) := by rw [IntWalk.i64_in _ (by omega)]; omega
            have hj2 : (j : Int) < (N : Int) := by omega
            clear Hall Hno1 Hno2 Hnk1 Hnk2 Hlen hO hx HO hnm h1 Hin
            have hq := fun m : Later wr => m.cell
            go_wp2_with fail
            refine wp_region_later (by kernel_rfl) (by kernel_rfl) ?_
            repeat (go_big_quiet_step ((first | (go_at_call 29; exact later_of (HV.out _)))))
            refine wpQuiet_nil ?_
            rintro _ ⟨wq, rfl⟩
            go_wp2
            go_ret
            exact ⟨rfl, grow_trans hb.out wq.h⟩
      · have hR := Hlen.out (by omega)
        subst hR
        have hk8' : ¬ (k : Int) ≤ 8 := by omega
        have hN8 : ¬ (N : Int) ≤ 8 := by omega
        clear Hall Hno1 Hno2 Hlen HO
        go_wp2
        go_ret
        exact ⟨by simp [hN8], hb.out⟩
    · obtain rfl : k = N := by omega
      by_cases h8 : k ≤ 8
      · have h8' : (k : Int) ≤ 8 := by omega
        have hR := Hall.out h8 hok.out
        subst hR
        clear Hall Hno1 Hno2 Hlen HO
        go_wp2
        go_ret
        exact ⟨by simp [h8], hb.out⟩
      · have h8' : ¬ (k : Int) ≤ 8 := by omega
        have hR := Hlen.out h8
        subst hR
        clear Hall Hno1 Hno2 Hlen HO
        go_wp2
        go_ret
        exact ⟨by simp [h8], hb.out⟩
end Go.Proofs.YtnadeddkogapoaaGreatDoor
