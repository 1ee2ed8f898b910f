/- FrontOf in the reference. Conditions: as each states. -/
import Derived.Test.YtjobjdmheocheaaShrink2
namespace Go.Proofs.Ytjobjdmheocheaa
open Go.ChangeShapes Go.WideShapes Go.ChangeAt Go.RowKit Go.Deep
set_option linter.unusedVariables false
set_option linter.unusedSimpArgs false
set_option maxRecDepth 100000

theorem put_idem {G : List Int} {z : Int} (h : Rise G) : putL (putL G z) z = putL G z :=
  ((h.put z).put z).ext (h.put z) fun c => by rw [mem_putL, mem_putL]; exact ⟨fun h => by rcases h with h | h; exact .inl h; exact h, fun h => .inr h⟩
theorem filt_put {xs : List Int} {p : Int → Bool} {k : Nat} {z : Int} (hr : Rise xs) (hz : xs[k]? = some z) (hp : p z = true) : putL ((xs.take k).filter p) z = (xs.take (k + 1)).filter p := by
  have hr' : Rise ((xs.take k).filter p) := (hr.sub (List.take_sublist k xs)).filter p
  refine (hr'.put z).ext ((hr.sub (List.take_sublist (k + 1) xs)).filter p) fun c => ?_
  rw [filt_yes hz hp, mem_putL, List.mem_append, List.mem_singleton]
  exact or_comm
/-- The front as it stands within a cell's neighbors. -/
def frL (G : List Int) (z : Int) (b : Bool) : List Int := if b then putL G z else G
set_option maxHeartbeats 4000000 in
theorem sFrontOf_any (x y : Int) (u : Value) (zs : List Int) (va : Value) (xs : List Int) (w : World) (h : Sl w 1 u zs.length (ints zs)) (ha : Sl w 1 va xs.length (ints xs)) :
    Calls Try.prog 33 #[terrV x y u, va] w (RetSelQ w (selR (oneB x y zs xs) (xs.filter (fun (c : Int) => !((selN (nearP x c) zs.length).all fun z => hasB xs z || !(burnI zs z))))) (oneB x y zs xs)) := by
  obtain ⟨i0, hi, hz0, hz1, hz2⟩ := info_parts info_int
  have HA := Lib.hid fun W hW => l2Set_any x y u zs va xs W (h.below (w' := W) hW) (ha.below hW)
  have Hs := Lib.hid fun W hW => ha.below (w' := W) hW
  have Hh := Lib.hid fun W hW z => l1Has_any va xs z W (ha.below (w' := W) hW)
  have HU := Lib.hid fun W hW => h.below (w' := W) hW
  have HN2 := Lib.hid fun W hW cl h1 h2 h3 h4 hn => l2Near_any x y u zs cl W (h.below (w' := W) hW) h1 h2 h3 h4 hn
  have HT : Hid (oneB x y zs xs = (terrB x y zs && setB xs 0 (zs.length - 1))) := rfl
  have HF : Hid (oneB x y zs xs = true → (1 ≤ x ∧ x ≤ 5) ∧ zs.length ≤ 25 ∧ Rise xs ∧ (∀ z ∈ xs, 0 ≤ z ∧ z ≤ (zs.length : Int) - 1) ∧ xs.length ≤ zs.length) := one_facts
  have hfl := fun k => filt_le xs (fun (c : Int) => !((selN (nearP x c) zs.length).all fun z => hasB xs z || !(burnI zs z))) k
  obtain ⟨A, c, rfl⟩ := h.val
  obtain ⟨Aa, ca, rfl⟩ := ha.val
  clear h ha
  rw [← HT.out] at HA
  generalize oneB x y zs xs = P at *
  generalize hM : zs.length = M at *
  have HM := Lib.hid hM
  clear hM
  have hp : Hid (∀ z, (fun (c : Int) => !((selN (nearP x c) M).all fun z => hasB xs z || !(burnI zs z))) z = (selN (nearP x z) M).any fun z => !hasB xs z && burnI zs z) := fun z => by simp [List.all_eq_not_any_not]
  generalize (fun (c : Int) => !((selN (nearP x c) M).all fun z => hasB xs z || !(burnI zs z))) = p at *
  generalize hN : xs.length = N at *
  have HN := Lib.hid hN
  have Hfl := Lib.hid hfl
  clear hN HT hfl
  have hTB0 : Hid (TB ((w.alloc (.cells #[.int .i64 x, .int .i64 y, .slice A M c] 28)).alloc (.cells #[] 3)) w.heap.size x y (.slice A M c)) := by show TB _ _ _ _ _; unfold TB; simp [go_sem]
  have hq0 : Hid (Qw ((w.alloc (.cells #[.int .i64 x, .int .i64 y, .slice A M c] 28)).alloc (.cells #[] 3)) (w.heap.size + 1) 3 1 (.slice (some ⟨w.heap.size + 1, 0, none⟩) 0 0) 0 []) := Qw.emptyAt (hp2 _ _ _) (Nat.le_refl _)
  have hb0 : Hid (Below w.heap.size w ((w.alloc (.cells #[.int .i64 x, .int .i64 y, .slice A M c] 28)).alloc (.cells #[] 3))) := two_news _ _ _
  cases P with
  | false =>
    go_enter Try.func33, Try.ntmps33
    go_wp2_with fail
    with_reducible refine (HA.out _ hb0.out).mono ?_
    rintro e w1 ⟨rfl, hb1⟩
    have hq1 := Lib.hid (hq0.out.below hb1)
    have hb1 := Lib.hid (grow_trans hb0.out hb1)
    go_wp2
    exact bodyPost_ret (v := .tuple #[.slice (some ⟨w.heap.size + 1, 0, none⟩) 0 0, .bool false]) (by simp [results, Try.results33, go_sem]) rfl ⟨_, rfl, hq1.out.lower (Nat.le_succ _), hb1.out⟩
  | true =>
    obtain ⟨⟨hx1, hx2⟩, hm25, r1, s1, hl1⟩ := HF.out rfl
    have S1 := Lib.hid s1
    have R1 := Lib.hid r1
    clear HF r1 s1
    go_enter Try.func33, Try.ntmps33
    go_wp2_with fail
    with_reducible refine (HA.out _ hb0.out).mono ?_
    rintro e w1 ⟨rfl, hb1⟩
    have hT1 := Lib.hid (hTB0.out.below hb1)
    have hq1 := Lib.hid (hq0.out.below hb1)
    have hb1 := Lib.hid (grow_trans hb0.out hb1)
    have hsz1 := (hq1.out.lt _ rfl).2
    go_wp2
    go_loopw [6, 7] (fun v i wr => ∃ k : Nat, k ≤ N ∧ i = .int .i64 k ∧ Hid (Below w.heap.size w wr) ∧ w.heap.size + 1 < wr.heap.size ∧ Hid (TB wr w.heap.size x y (.slice A M c)) ∧ Hid (Qw wr (w.heap.size + 1) 3 1 v ((xs.take k).filter p).length (ints ((xs.take k).filter p)))) (fun _ i _ => N - (intOf i).toNat)
    case atStart => exact ⟨0, Nat.zero_le _, rfl, hb1.out, hsz1, hT1.out, hq1.out⟩
    case round =>
      obtain ⟨k, hk, rfl, hb, hsz, hT, hq⟩ := hrel
      by_cases hlt : k < N
      · obtain ⟨b, off, z, rfl, hz, hcell⟩ := (Hs.out _ hb.out).at1 HN.out hlt
        obtain ⟨t0, t1, t2⟩ := hT.out
        have hzb := S1.out z (List.mem_of_getElem? hz)
        have hle := Hfl.out k
        have Hz := Lib.hid hz
        clear hz
        have hlt' : (k : Int) < (N : Int) := by omega
        have HC := Lib.hid (HN2.out wr.drew hb.out.drew z hx1 hx2 hzb.1 (by omega) (by omega))
        have hbd := Lib.hid hb.out.drew
        have hTd := Lib.hid (hT.out.below (grow_drew wr))
        have hqd := Lib.hid (hq.out.below (grow_drew wr))
        have hszd : w.heap.size + 1 < wr.drew.heap.size := hsz
        have hcd : wr.drew.cell? ⟨b, off + k, none⟩ = some (.int .i64 z) := hcell
        clear hb hT hq
        go_wp2_with fail
        go_still_tail 5, (by kernel_rfl)
        change wpList _ _ _ _ _ wr.drew
        clear t0 t1 t2 hcell hsz
        generalize wr.drew = wd at *
        go_wp2_with fail
        with_reducible refine HC.out.mono ?_
        rintro e w4 ⟨nr, rfl, on, hb4⟩
        have on := Lib.hid (Sl.of_own on)
        have hc4 := cell_below hcd hb4
        have hs4 := hb4.size
        have hT4 := Lib.hid (hTd.out.below hb4)
        have hq4 := Lib.hid (hqd.out.below hb4)
        have hb4 := Lib.hid (grow_trans hbd.out hb4)
        clear HC hbd hTd hqd hcd
        have Hpz := Lib.hid (hp.out z)
        have HG : Hid (Rise ((xs.take k).filter p)) := (R1.out.sub (List.take_sublist k xs)).filter p
        have HnI := Lib.hid (selN_in (p := nearP x z) (N := M))
        have HnJ : Hid (∀ z2 ∈ selN (nearP x z) M, ∃ j : Nat, j < M ∧ z2 = j) := fun z2 h => by obtain ⟨j, h1, _, h2⟩ := selN_mem.1 h; exact ⟨j, h1, h2⟩
        have hle1 : ((xs.take k).filter p).length ≤ N := by omega
        generalize hG : (xs.take k).filter p = G at *
        have HGe := Lib.hid hG
        clear hG
        generalize selN (nearP x z) M = nl at *
        generalize hNL : nl.length = K at *
        have HNL := Lib.hid hNL
        clear hNL
        have hKmx := on.out.len
        unfold maxLen at hKmx
        obtain ⟨An, cn, rfl⟩ := on.out.val
        obtain ⟨wo, rfl⟩ : ∃ wo : World, wo = w4 := ⟨_, rfl⟩
        have hsz4 : w.heap.size + 1 < wo.heap.size := by omega
        have hq4' : Hid (Qw wo (w.heap.size + 1) 3 1 u6 (frL G z ((nl.take 0).any fun z => !hasB xs z && burnI zs z)).length (ints (frL G z ((nl.take 0).any fun z => !hasB xs z && burnI zs z)))) := hq4.out
        go_wp2
        go_loopw [6, 9] (fun v j wq => ∃ i : Nat, i ≤ K ∧ j = .int .i64 i ∧ Hid (Below w.heap.size w wq) ∧ Hid (Below wo.heap.size wo wq) ∧ Hid (Qw wq (w.heap.size + 1) 3 1 v (frL G z ((nl.take i).any fun z => !hasB xs z && burnI zs z)).length (ints (frL G z ((nl.take i).any fun z => !hasB xs z && burnI zs z))))) (fun _ j _ => K - (intOf j).toNat)
        case atStart => exact ⟨0, Nat.zero_le _, rfl, hb4.out, Below.refl _ _, hq4'.out⟩
        case round =>
          obtain ⟨i, hi', rfl, hbq, hbo, hqq⟩ := hrel
          by_cases hlt2 : i < K
          · obtain ⟨b2, off2, z2, hA2, hz2, hcell2⟩ := (on.out.below hbo.out).at1 HNL.out hlt2
            subst hA2
            obtain ⟨j2, hj2, rfl⟩ := HnJ.out z2 (List.mem_of_getElem? hz2)
            have Hal := Lib.hid (any_take (p := fun z => !hasB xs z && burnI zs z) hz2)
            have HP := Lib.hid fun n => Hh.out (wr.drewN n) (hbq.out.trans ((grow_drewN wr n).mono hbq.out.size)) j2
            have hsq := hbo.out.size
            obtain ⟨t0, t1, t2⟩ := hT4.out.below hbo.out
            have hcq := cell_below hc4 hbo.out
            have hfl : (frL G z ((nl.take i).any fun z => !hasB xs z && burnI zs z)).length ≤ N + 1 := by
              have := putL_length G z
              unfold frL; split <;> omega
            have hrf : Hid (Rise (frL G z ((nl.take i).any fun z => !hasB xs z && burnI zs z))) := by
              show Rise _; unfold frL; split
              · exact HG.out.put z
              · exact HG.out
            clear hz2
            have Hstep : Hid (∀ b, (!hasB xs (j2 : Int) && burnI zs j2) = b → frL G z ((nl.take (i + 1)).any fun z => !hasB xs z && burnI zs z) = if b then putL (frL G z ((nl.take i).any fun z => !hasB xs z && burnI zs z)) z else frL G z ((nl.take i).any fun z => !hasB xs z && burnI zs z)) := by
              show ∀ b, _ → _
              intro b hb
              have := Hal.out
              simp only [hb] at this
              rw [this]
              cases (nl.take i).any fun z => !hasB xs z && burnI zs z <;> cases b <;> simp [frL, put_idem HG.out]
            clear Hal
            generalize hF1 : frL G z ((nl.take i).any fun z => !hasB xs z && burnI zs z) = F1 at *
            generalize hF2 : frL G z ((nl.take (i + 1)).any fun z => !hasB xs z && burnI zs z) = F2 at *
            have HF2 := Lib.hid hF2
            clear hF1 hF2
            cases hq2 : hasB xs j2 with
            | true =>
              have Hs2 := Hstep.out false (by simp [hq2])
              rw [hq2] at HP
              clear hq2 Hstep
              have Hs2 := Lib.hid Hs2
              go_wp2_with fail
              go_quiet ((go_at_call 52; with_reducible exact quiet_same (HP.out _)))
              go_wp2
              go_roundw
              case rel => exact ⟨i + 1, by omega, by go_num, hbq.out.trans ⟨rfl, rfl, rfl, Nat.le_refl _, fun _ _ => rfl⟩, hbo.out.trans ⟨rfl, rfl, rfl, Nat.le_refl _, fun _ _ => rfl⟩, by show Qw _ _ _ _ _ _ _; rw [HF2.out, Hs2.out]; exact hqq.out⟩
              case measure => simp [intOf]; omega
            | false =>
              obtain ⟨b3, off3, zb, hA3, hzb3, hcell3⟩ := (HU.out wr hbq.out).at1 HM.out hj2
              subst hA3
              have hj3 : (j2 : Int) < (M : Int) := by omega
              have Hb : Hid (burnI zs j2 = decide (0 < zb)) := by
                show _ = _
                unfold burnI burnP
                rw [Int.toNat_natCast, List.getD_eq_getElem?_getD, hzb3]; rfl
              rw [hq2] at HP
              clear hzb3
              by_cases hv : 0 < zb
              · have Hs2 := Lib.hid (Hstep.out true (by rw [hq2, Hb.out]; simpa using hv))
                have HPP := Lib.hid fun n => l1Put_any _ _ z _ _ (hqq.out.below (grow_drewN wr n)) (Nat.le_trans (Nat.le_of_lt hsz4) hbo.out.size) (by omega)
                clear hq2 Hstep Hb
                go_wp2_with fail
                go_quiet ((go_at_call 52; with_reducible exact quiet_same (HP.out _)))
                go_wp2_with fail
                with_reducible refine (HPP.out _).mono ?_
                intro e w5 hr5
                unfold RetPut at hr5
                obtain ⟨v5, rfl, hq5, hb5, _⟩ := hr5
                have hq5 := Lib.hid hq5
                have hb5' : Below wr.heap.size wr w5 := Below.trans (grow_drewN wr _) hb5
                have hbo5 := Lib.hid (grow_trans hbo.out hb5')
                have hb5 := Lib.hid (grow_trans hbq.out hb5')
                clear hb5'
                go_wp2
                go_roundw
                case rel => exact ⟨i + 1, by omega, by go_num, hb5.out, hbo5.out, by show Qw _ _ _ _ _ _ _; rw [HF2.out, Hs2.out]; exact hq5.out⟩
                case measure => simp [intOf]; omega
              · have Hs2 := Lib.hid (Hstep.out false (by rw [hq2, Hb.out]; simpa using hv))
                clear hq2 Hstep Hb
                go_wp2_with fail
                go_quiet ((go_at_call 52; with_reducible exact quiet_same (HP.out _)))
                go_wp2
                go_roundw
                case rel => exact ⟨i + 1, by omega, by go_num, hbq.out.trans ⟨rfl, rfl, rfl, Nat.le_refl _, fun _ _ => rfl⟩, hbo.out.trans ⟨rfl, rfl, rfl, Nat.le_refl _, fun _ _ => rfl⟩, by show Qw _ _ _ _ _ _ _; rw [HF2.out, Hs2.out]; exact hqq.out⟩
                case measure => simp [intOf]; omega
          · obtain rfl : i = K := by omega
            have hall : nl.take i = nl := List.take_of_length_le (by have := HNL.out; omega)
            rw [hall, ← Hpz.out] at hqq
            clear hall
            have hT5 := Lib.hid (hT4.out.below hbo.out)
            have hs5 := hbo.out.size
            have hfin : Hid (frL G z (p z) = (xs.take (k + 1)).filter p) := by
              show _ = _
              rw [← HGe.out]
              cases hpz : p z with
              | true => exact filt_put R1.out Hz.out hpz
              | false => exact (filt_no Hz.out hpz).symm
            go_wp2
            go_roundw
            case rel => exact ⟨k + 1, by omega, by go_num, hbq.out, by omega, hT5.out, by show Qw _ _ _ _ _ _ _; rw [← hfin.out]; exact hqq.out⟩
            case measure => simp [intOf]; omega
      · obtain rfl : k = N := by omega
        have hall : xs.take k = xs := List.take_of_length_le (by have := HN.out; omega)
        rw [hall] at hq
        clear hall
        go_wp2
        exact bodyPost_ret (v := .tuple #[_, .bool true]) (by simp [results, Try.results33, go_sem]) rfl ⟨_, rfl, hq.out.lower (Nat.le_succ _), hb.out⟩
end Go.Proofs.Ytjobjdmheocheaa
