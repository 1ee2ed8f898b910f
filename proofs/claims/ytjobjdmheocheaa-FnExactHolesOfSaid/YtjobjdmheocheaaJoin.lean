/- JoinRegions in the program and in the reference. Conditions: as each states. -/
import Derived.Test.YtjobjdmheocheaaCommon3
namespace Go.Proofs.Ytjobjdmheocheaa
open Go.ChangeShapes Go.WideShapes Go.ChangeAt Go.RowKit Go.Deep
set_option linter.unusedVariables false
set_option linter.unusedSimpArgs false
set_option maxRecDepth 100000

theorem callFunc_join : ∀ args w, (callFunc 60 args).run Try.prog w = .ok (.enter 60 args) w := fun _ _ => by rfl
theorem join1_any (va vb : Value) (xs ys : List Int) (B C : Nat) (z : Int) (w : World) (hc0 : w.cell? ⟨B, 0, none⟩ = some va) (hc1 : w.cell? ⟨C, 0, none⟩ = some vb) (ha : Sl w 1 va xs.length (ints xs)) (hb : Sl w 1 vb ys.length (ints ys)) :
    Calls Try.prog 60 #[.int .i64 z, .pointer (some ⟨B, 0, none⟩), .pointer (some ⟨C, 0, none⟩)] w fun e w' => e = .returned (.bool (hasB xs z || hasB ys z)) ∧ Below w.heap.size w w' := by
  have HA := Lib.hid (has_any va xs z w ha)
  have HB := Lib.hid (has_any vb ys z w hb)
  obtain ⟨A, c, rfl⟩ := ha.val
  obtain ⟨A', c', rfl⟩ := hb.val
  clear ha hb
  generalize hasB ys z = q at *
  cases hp : hasB xs z with
  | true =>
    rw [hp] at HA
    clear hp
    go_enter Try.func60, Try.ntmps60
    go_wp2_with (go_at_call 56; refine HA.out.mono ?_; rintro e w1 ⟨rfl, rfl⟩)
    go_ret
    exact ⟨by simp, Below.refl _ _⟩
  | false =>
    rw [hp] at HA
    clear hp
    go_enter Try.func60, Try.ntmps60
    go_wp2_with fail
    with_reducible refine HA.out.mono ?_
    rintro e w1 ⟨rfl, rfl⟩
    go_wp2_with fail
    with_reducible refine HB.out.mono ?_
    rintro e w1 ⟨rfl, rfl⟩
    go_wp2
    go_ret
    exact ⟨by simp, Below.refl _ _⟩
set_option maxHeartbeats 2000000 in
theorem JoinRegions_any (x y : Int) (u : Value) (zs : List Int) (va : Value) (xs : List Int) (vb : Value) (ys : List Int) (w : World) (h : Sl w 1 u zs.length (ints zs)) (ha : Sl w 1 va xs.length (ints xs)) (hb : Sl w 1 vb ys.length (ints ys)) (hn : zs.length ≤ 1048576) :
    Calls Try.prog 26 #[terrV x y u, va, vb] w (RetSel w (selR (twoB x y zs xs ys) (selN (fun k => hasB xs k || hasB ys k) zs.length)) (twoB x y zs xs ys)) := by
  obtain ⟨A, c, rfl⟩ := h.val
  obtain ⟨Aa, ca, rfl⟩ := ha.val
  obtain ⟨Ab, cb, rfl⟩ := hb.val
  generalize hW1 : ((w.alloc (.cells #[.int .i64 x, .int .i64 y, .slice A zs.length c] 28)).alloc (.cells #[.slice Aa xs.length ca] 22)).alloc (.cells #[.slice Ab ys.length cb] 22) = W1
  have Hb1 : Hid (Below w.heap.size w W1) := by rw [← hW1]; exact grow_trans (two_news _ _ _) (grow_alloc _ _)
  have HW1 := Lib.hid hW1
  have hcA : Hid (W1.cell? ⟨w.heap.size + 1, 0, none⟩ = some (.slice Aa xs.length ca)) := by show _ = _; rw [← hW1]; simp [go_sem]
  have hcB : Hid (W1.cell? ⟨w.heap.size + 2, 0, none⟩ = some (.slice Ab ys.length cb)) := by show _ = _; rw [← hW1]; simp [go_sem]
  have hsW : Hid (W1.heap.size = w.heap.size + 3) := by show _ = _; rw [← hW1]; simp
  clear hW1
  have Hb2 : Hid (Below w.heap.size w (W1.alloc (.cells #[.slice Aa xs.length ca, .slice Ab ys.length cb] 22))) := grow_trans Hb1.out (grow_alloc _ _)
  have hv : Hid (Sl (W1.alloc (.cells #[.slice Aa xs.length ca, .slice Ab ys.length cb] 22)) 1 (.slice (some ⟨w.heap.size + 3, 0, none⟩) 2 2) 2 [.slice Aa xs.length ca, .slice Ab ys.length cb]) := by
    show Sl _ _ _ _ _
    have := Sl.of_own (World.ownsRow_lit (base := 0) (e := 22) (size := 1) W1 #[.slice Aa xs.length ca, .slice Ab ys.length cb] 2 (Nat.zero_le _) (by unfold maxLen; omega) rfl)
    rw [hsW.out] at this
    simpa using this
  have HR := Lib.hid (isRegion_two x y _ zs _ _ _ xs ys (W1.alloc (.cells #[.slice Aa xs.length ca, .slice Ab ys.length cb] 22)) (h.below Hb2.out) hv.out (ha.below Hb2.out) (hb.below Hb2.out))
  have HF := Lib.hid fun W (hW : Below W1.heap.size W1 W) => cellsThat_any x y (.slice A zs.length c) zs 60 #[] #[.pointer (some ⟨w.heap.size + 1, 0, none⟩), .pointer (some ⟨w.heap.size + 2, 0, none⟩)] (fun k => hasB xs k || hasB ys k) W (h.below (Hb1.out.trans (hW.mono Hb1.out.size))) hn callFunc_join
    (fun W' k hk hW' => by
      have hb3 := grow_trans hW hW'
      have hs := hsW.out
      have := join1_any _ _ xs ys (w.heap.size + 1) (w.heap.size + 2) k W' (by rw [hb3.cell (by simp; omega)]; exact hcA.out) (by rw [hb3.cell (by simp; omega)]; exact hcB.out) (ha.below (Hb1.out.trans (hb3.mono Hb1.out.size))) (hb.below (Hb1.out.trans (hb3.mono Hb1.out.size)))
      simpa using this)
  clear hv h ha hb hcA hcB
  generalize twoB x y zs xs ys = T at *
  generalize selN (fun k => hasB xs k || hasB ys k) zs.length = L at *
  generalize zs.length = N at *
  generalize xs.length = M at *
  generalize ys.length = K at *
  have hnew : Hid (Below W1.heap.size W1 (W1.alloc (.cells #[.slice Aa M ca, .slice Ab K cb] 22))) := grow_alloc _ _
  clear hsW Hb1
  have hW1 := HW1.out
  subst hW1
  clear HW1
  cases T
  · go_enter Try.func26, Try.ntmps26
    go_wp2_with fail
    with_reducible refine HR.out.mono ?_
    rintro e w1 ⟨rfl, hb1⟩
    have hb1 := Lib.hid (grow_trans Hb2.out hb1)
    go_wp2
    exact bodyPost_ret (v := .tuple #[.slice none 0 0, .bool false]) (by simp [results, Try.results26, go_sem]) rfl ⟨_, rfl, own_nil _ _ _ _, hb1.out⟩
  · go_enter Try.func26, Try.ntmps26
    go_wp2_with fail
    with_reducible refine HR.out.mono ?_
    rintro e w1 ⟨rfl, hb1⟩
    have hc := (bcell hb1).1
    have hb1' := Lib.hid (grow_trans hnew.out hb1)
    have hb2 := Lib.hid (grow_trans Hb2.out hb1)
    clear hb1
    go_wp2_with fail
    with_reducible refine (HF.out _ hb1'.out).mono ?_
    rintro e w2 ⟨v, rfl, ho, hb3⟩
    have ho := Lib.hid (own_base ho hb2.out.size)
    have hb3 := Lib.hid (grow_trans hb2.out hb3)
    go_wp2
    exact bodyPost_ret (v := .tuple #[v, .bool true]) (by simp [results, Try.results26, go_sem]) rfl ⟨_, rfl, ho.out, hb3.out⟩
set_option maxHeartbeats 4000000 in
theorem sJoinRegions_any (x y : Int) (u : Value) (zs : List Int) (va : Value) (xs : List Int) (vb : Value) (ys : List Int) (w : World) (h : Sl w 1 u zs.length (ints zs)) (ha : Sl w 1 va xs.length (ints xs)) (hb : Sl w 1 vb ys.length (ints ys)) (hn : zs.length ≤ 1048576) :
    Calls Try.prog 25 #[terrV x y u, va, vb] w (RetSelQ w (selR (twoB x y zs xs ys) (selN (fun k => hasB xs k || hasB ys k) zs.length)) (twoB x y zs xs ys)) := by
  have HA := Lib.hid fun W hW => l2Set_any x y u zs va xs W (h.below (w' := W) hW) (ha.below hW)
  have HB := Lib.hid fun W hW => l2Set_any x y u zs vb ys W (h.below (w' := W) hW) (hb.below hW)
  have Hs := Lib.hid fun W hW => hb.below (w' := W) hW
  have HO := Lib.hid fun W hW hn => l1Own_any va xs W (ha.below (w' := W) hW) hn
  have HT : Hid (twoB x y zs xs ys = (terrB x y zs && setB xs 0 (zs.length - 1) && (terrB x y zs && setB ys 0 (zs.length - 1)))) := by
    show _ = _; unfold twoB; cases terrB x y zs <;> simp
  have HJ : Hid (twoB x y zs xs ys = true → putsL xs ys = selN (fun k => hasB xs k || hasB ys k) zs.length ∧ zs.length ≤ 25 ∧ xs.length ≤ zs.length ∧ ys.length ≤ zs.length ∧ ∀ k, (putsL xs (ys.take k)).length ≤ zs.length + zs.length) := by
    show _ → _
    intro hT
    unfold twoB at hT
    simp only [Bool.and_eq_true] at hT
    obtain ⟨r1, s1⟩ := setB_rise hT.1.2
    obtain ⟨r2, s2⟩ := setB_rise hT.2
    have l1 := r1.len (a := 0) (b := zs.length) (by omega) (fun z hz => by have := s1 z hz; omega)
    have l2 := r2.len (a := 0) (b := zs.length) (by omega) (fun z hz => by have := s2 z hz; omega)
    obtain ⟨_, _, _, hn25⟩ := terr_dims hT.1.1
    refine ⟨join_eq r1 s1 s2, by omega, by omega, by omega, fun k => ?_⟩
    have := putsL_length (ys.take k) xs
    have : (ys.take k).length ≤ ys.length := List.length_take_le' _ _
    omega
  obtain ⟨A, c, rfl⟩ := h.val
  obtain ⟨Aa, ca, rfl⟩ := ha.val
  obtain ⟨Ab, cb, rfl⟩ := hb.val
  clear h ha hb
  generalize (terrB x y zs && setB xs 0 (zs.length - 1)) = P at *
  generalize (terrB x y zs && setB ys 0 (zs.length - 1)) = Q at *
  generalize twoB x y zs xs ys = T at *
  generalize selN (fun k => hasB xs k || hasB ys k) zs.length = L at *
  generalize zs.length = M at *
  generalize hN : ys.length = N at *
  have HN := Lib.hid hN
  clear hN
  have hb0 : Hid (Below w.heap.size w (w.alloc (.cells #[.int .i64 x, .int .i64 y, .slice A M c] 28))) := grow_alloc _ _
  cases P with
  | false =>
    have HT := HT.out
    simp only [Bool.false_and] at HT
    subst HT
    go_enter Try.func25, Try.ntmps25
    go_wp2_with fail
    with_reducible refine (HA.out _ hb0.out).mono ?_
    rintro e w1 ⟨rfl, hb1⟩
    have hb1 := Lib.hid (grow_trans hb0.out hb1)
    go_wp2
    exact bodyPost_ret (v := .tuple #[.slice (some ⟨w1.heap.size, 0, none⟩) 0 0, .bool false]) (by simp [results, Try.results25, go_sem]) rfl ⟨_, rfl, (Qw.empty _ _).lower hb1.out.size, grow_trans hb1.out (grow_alloc _ _)⟩
  | true =>
    cases Q with
    | false =>
      have HT := HT.out
      simp only [Bool.and_false] at HT
      subst HT
      go_enter Try.func25, Try.ntmps25
      go_wp2_with fail
      with_reducible refine (HA.out _ hb0.out).mono ?_
      rintro e w1 ⟨rfl, hb1⟩
      have hc := (bcell hb1).1
      have hb1 := Lib.hid (grow_trans hb0.out hb1)
      go_wp2_with fail
      with_reducible refine (HB.out _ hb1.out).mono ?_
      rintro e w2 ⟨rfl, hb2⟩
      have hb2 := Lib.hid (grow_trans hb1.out hb2)
      go_wp2
      exact bodyPost_ret (v := .tuple #[.slice (some ⟨w2.heap.size, 0, none⟩) 0 0, .bool false]) (by simp [results, Try.results25, go_sem]) rfl ⟨_, rfl, (Qw.empty _ _).lower hb2.out.size, grow_trans hb2.out (grow_alloc _ _)⟩
    | true =>
      have HT := HT.out
      simp only [Bool.and_true] at HT
      subst HT
      obtain ⟨hj, hl0, hl1, hl2, hl3⟩ := HJ.out rfl
      have Hj := Lib.hid hj
      have Hl3 := Lib.hid hl3
      clear HJ hj hl3
      go_enter Try.func25, Try.ntmps25
      go_wp2_with fail
      with_reducible refine (HA.out _ hb0.out).mono ?_
      rintro e w1 ⟨rfl, hb1⟩
      have hc := (bcell hb1).1
      have hb1 := Lib.hid (grow_trans hb0.out hb1)
      go_wp2_with fail
      with_reducible refine (HB.out _ hb1.out).mono ?_
      rintro e w2 ⟨rfl, hb2⟩
      have hb2 := Lib.hid (grow_trans hb1.out hb2)
      clear hc
      go_wp2_with fail
      with_reducible refine (HO.out _ hb2.out (by omega)).mono ?_
      rintro e w3 ⟨v0, rfl, hq3, hb3⟩
      have hq3 := Lib.hid (hq3.lower hb2.out.size)
      have hb3 := Lib.hid (grow_trans hb2.out hb3)
      go_wp2
      go_loopw [8, 9] (fun v i wr => ∃ k : Nat, k ≤ N ∧ i = .int .i64 k ∧ Hid (Below w.heap.size w wr) ∧ Hid (Qw wr w.heap.size 3 1 v (putsL xs (ys.take k)).length (ints (putsL xs (ys.take k))))) (fun _ i _ => N - (intOf i).toNat)
      case atStart => exact ⟨0, Nat.zero_le _, rfl, hb3.out, hq3.out⟩
      case round =>
        obtain ⟨k, hk, rfl, hb, hq⟩ := hrel
        by_cases hlt : k < N
        · obtain ⟨b, off, z, rfl, hz, hcell⟩ := (Hs.out _ hb.out).at1 HN.out hlt
          have hle := Hl3.out k
          have Hz := Lib.hid (putsL_take xs hz)
          have HP := Lib.hid (l1Put_any _ _ z _ _ hq.out hb.out.size (by omega))
          clear hz
          go_wp2_with fail
          with_reducible refine HP.out.mono ?_
          intro e w4 hr4
          unfold RetPut at hr4
          obtain ⟨v4, rfl, hq4, hb4, _⟩ := hr4
          have hb4 := Lib.hid (grow_trans hb.out hb4)
          have hq4 := Lib.hid hq4
          go_wp2
          go_roundw
          case rel => exact ⟨k + 1, by omega, by go_num, hb4.out, by show Qw _ _ _ _ _ _ _; rw [Hz.out]; exact hq4.out⟩
          case measure => simp [intOf]; omega
        · obtain rfl : k = N := by omega
          have hall : ys.take k = ys := List.take_of_length_le (by have := HN.out; omega)
          rw [hall, Hj.out] at hq
          clear hall
          go_wp2
          exact bodyPost_ret (v := .tuple #[_, .bool true]) (by simp [results, Try.results25, go_sem]) rfl ⟨_, rfl, hq.out, hb.out⟩
end Go.Proofs.Ytjobjdmheocheaa
