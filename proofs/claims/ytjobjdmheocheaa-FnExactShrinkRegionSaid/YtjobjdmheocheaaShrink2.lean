/- ShrinkRegion and FrontOf in the reference. Conditions: as each states. -/
import Derived.Test.YtjobjdmheocheaaShrink
namespace Go.Proofs.Ytjobjdmheocheaa
open Go.ChangeShapes Go.WideShapes Go.ChangeAt Go.RowKit Go.Deep
set_option linter.unusedVariables false
set_option linter.unusedSimpArgs false
set_option maxRecDepth 100000

theorem TB.kept {w w' : World} {B : Nat} {x y : Int} {u : Value} {row : Option Nat} (h : TB w B x y u) (hg : w.grownBy w' row) (hne : some B ≠ row) : TB w' B x y u :=
  ⟨hg.cell h.1 hne, hg.cell h.2.1 hne, hg.cell h.2.2 hne⟩
theorem all_take {l : List Int} {p : Int → Bool} {i : Nat} {z : Int} (h : l[i]? = some z) : (l.take (i + 1)).all p = ((l.take i).all p && p z) := by
  obtain ⟨hk, rfl⟩ := List.getElem?_eq_some_iff.1 h
  rw [List.take_succ_eq_append_getElem hk, List.all_append]; simp
theorem any_take {l : List Int} {p : Int → Bool} {i : Nat} {z : Int} (h : l[i]? = some z) : (l.take (i + 1)).any p = ((l.take i).any p || p z) := by
  obtain ⟨hk, rfl⟩ := List.getElem?_eq_some_iff.1 h
  rw [List.take_succ_eq_append_getElem hk, List.any_append]; simp
set_option maxHeartbeats 4000000 in
theorem sShrinkRegion_any (x y : Int) (u : Value) (zs : List Int) (va : Value) (xs : List Int) (w : World) (h : Sl w 1 u zs.length (ints zs)) (ha : Sl w 1 va xs.length (ints xs)) :
    Calls Try.prog 31 #[terrV x y u, va] w (RetSelQ w (selR (oneB x y zs xs) (xs.filter (fun (c : Int) => (selN (nearP x c) zs.length).all (hasB xs)))) (oneB x y zs xs)) := by
  obtain ⟨i0, hi, hz0, hz1, hz2⟩ := info_parts info_int
  have HA := Lib.hid fun W hW => l2Set_any x y u zs va xs W (h.below (w' := W) hW) (ha.below hW)
  have Hs := Lib.hid fun W hW => ha.below (w' := W) hW
  have Hh := Lib.hid fun W hW z => l1Has_any va xs z W (ha.below (w' := W) hW)
  have HN2 := Lib.hid fun W hW cl h1 h2 h3 h4 hn => l2Near_any x y u zs cl W (h.below (w' := W) hW) h1 h2 h3 h4 hn
  have HT : Hid (oneB x y zs xs = (terrB x y zs && setB xs 0 (zs.length - 1))) := rfl
  have HF : Hid (oneB x y zs xs = true → (1 ≤ x ∧ x ≤ 5) ∧ zs.length ≤ 25 ∧ Rise xs ∧ (∀ z ∈ xs, 0 ≤ z ∧ z ≤ (zs.length : Int) - 1) ∧ xs.length ≤ zs.length) := one_facts
  have hfl := fun k => filt_le xs (fun (c : Int) => (selN (nearP x c) zs.length).all (hasB xs)) k
  obtain ⟨A, c, rfl⟩ := h.val
  obtain ⟨Aa, ca, rfl⟩ := ha.val
  clear h ha
  rw [← HT.out] at HA
  generalize oneB x y zs xs = P at *
  generalize zs.length = M at *
  have hp : Hid (∀ z, (fun (c : Int) => (selN (nearP x c) M).all (hasB xs)) z = (selN (nearP x z) M).all (hasB xs)) := fun z => rfl
  generalize (fun (c : Int) => (selN (nearP x c) M).all (hasB xs)) = p at *
  generalize hN : xs.length = N at *
  have HN := Lib.hid hN
  have Hfl := Lib.hid hfl
  clear hN HT hfl
  have hTB0 : Hid (TB ((w.alloc (.cells #[.int .i64 x, .int .i64 y, .slice A M c] 28)).alloc (.cells #[] 3)) w.heap.size x y (.slice A M c)) := by show TB _ _ _ _ _; unfold TB; simp [go_sem]
  have hq0 : Hid (Qw ((w.alloc (.cells #[.int .i64 x, .int .i64 y, .slice A M c] 28)).alloc (.cells #[] 3)) (w.heap.size + 1) 3 1 (.slice (some ⟨w.heap.size + 1, 0, none⟩) 0 0) 0 []) := Qw.emptyAt (hp2 _ _ _) (Nat.le_refl _)
  have hb0 : Hid (Below w.heap.size w ((w.alloc (.cells #[.int .i64 x, .int .i64 y, .slice A M c] 28)).alloc (.cells #[] 3))) := two_news _ _ _
  cases P with
  | false =>
    go_enter Try.func31, Try.ntmps31
    go_wp2_with fail
    with_reducible refine (HA.out _ hb0.out).mono ?_
    rintro e w1 ⟨rfl, hb1⟩
    have hq1 := Lib.hid (hq0.out.below hb1)
    have hb1 := Lib.hid (grow_trans hb0.out hb1)
    go_wp2
    exact bodyPost_ret (v := .tuple #[.slice (some ⟨w.heap.size + 1, 0, none⟩) 0 0, .bool false]) (by simp [results, Try.results31, go_sem]) rfl ⟨_, rfl, hq1.out.lower (Nat.le_succ _), hb1.out⟩
  | true =>
    obtain ⟨⟨hx1, hx2⟩, hm25, r1, s1, hl1⟩ := HF.out rfl
    have S1 := Lib.hid s1
    clear HF r1 s1
    go_enter Try.func31, Try.ntmps31
    go_wp2_with fail
    with_reducible refine (HA.out _ hb0.out).mono ?_
    rintro e w1 ⟨rfl, hb1⟩
    have hT1 := Lib.hid (hTB0.out.below hb1)
    have hq1 := Lib.hid (hq0.out.below hb1)
    have hb1 := Lib.hid (grow_trans hb0.out hb1)
    have hsz1 := (hq1.out.lt _ rfl).2
    go_wp2
    go_loopw [6, 7] (fun v i wr => ∃ k : Nat, k ≤ N ∧ i = .int .i64 k ∧ Hid (Below w.heap.size w wr) ∧ w.heap.size + 1 < wr.heap.size ∧ Hid (TB wr w.heap.size x y (.slice A M c)) ∧ Hid (Qw wr (w.heap.size + 1) 3 1 v ((xs.take k).filter p).length (ints ((xs.take k).filter p)))) (fun _ i _ => N - (intOf i).toNat)
    case atStart => exact ⟨0, Nat.zero_le _, rfl, hb1.out, hsz1, hT1.out, hq1.out⟩
    case round =>
      obtain ⟨k, hk, rfl, hb, hsz, hT, hq⟩ := hrel
      by_cases hlt : k < N
      · obtain ⟨b, off, z, rfl, hz, hcell⟩ := (Hs.out _ hb.out).at1 HN.out hlt
        obtain ⟨t0, t1, t2⟩ := hT.out
        have hzb := S1.out z (List.mem_of_getElem? hz)
        have hle := Hfl.out k
        have Hz := Lib.hid hz
        clear hz
        have hlt' : (k : Int) < (N : Int) := by omega
        have HC := Lib.hid (HN2.out wr.drew hb.out.drew z hx1 hx2 hzb.1 (by omega) (by omega))
        have hbd := Lib.hid hb.out.drew
        have hTd := Lib.hid (hT.out.below (grow_drew wr))
        have hqd := Lib.hid (hq.out.below (grow_drew wr))
        have hszd : w.heap.size + 1 < wr.drew.heap.size := hsz
        have hcd : wr.drew.cell? ⟨b, off + k, none⟩ = some (.int .i64 z) := hcell
        clear hb hT hq
        go_wp2_with fail
        go_still_tail 5, (by kernel_rfl)
        change wpList _ _ _ _ _ wr.drew
        clear t0 t1 t2 hcell hsz
        generalize wr.drew = wd at *
        go_wp2_with fail
        with_reducible refine HC.out.mono ?_
        rintro e w4 ⟨nr, rfl, on, hb4⟩
        have on := Lib.hid (Sl.of_own on)
        have hc4 := cell_below hcd hb4
        have hs4 := hb4.size
        have hT4 := Lib.hid (hTd.out.below hb4)
        have hq4 := Lib.hid (hqd.out.below hb4)
        have hb4 := Lib.hid (grow_trans hbd.out hb4)
        clear HC hbd hTd hqd hcd
        have Hpz := Lib.hid (hp.out z)
        generalize selN (nearP x z) M = nl at *
        generalize hNL : nl.length = K at *
        have HNL := Lib.hid hNL
        clear hNL
        have hKmx := on.out.len
        unfold maxLen at hKmx
        obtain ⟨An, cn, rfl⟩ := on.out.val
        go_wp2
        go_loop [9, 10] (fun a j => ∃ i : Nat, i ≤ K ∧ j = .int .i64 i ∧ a = .bool ((nl.take i).all (hasB xs))) (fun _ j => K - (intOf j).toNat)
        case atStart => exact ⟨0, Nat.zero_le _, rfl, rfl⟩
        case round =>
          obtain ⟨i, hi', rfl, rfl⟩ := hrel
          by_cases hlt2 : i < K
          · obtain ⟨b2, off2, z2, hA2, hz2, hcell2⟩ := on.out.at1 HNL.out hlt2
            subst hA2
            have Hal := Lib.hid (all_take (p := hasB xs) hz2)
            have HP := Lib.hid (Hh.out w4 hb4.out z2)
            clear hz2
            generalize hasB xs z2 = q2 at *
            cases hq2 : (nl.take i).all (hasB xs) with
            | true =>
              rw [hq2] at Hal
              clear hq2
              go_wp2_with fail
              with_reducible refine HP.out.mono ?_
              rintro e w5 ⟨rfl, rfl⟩
              go_wp2
              go_round
              case rel => exact ⟨i + 1, by omega, by go_num, by rw [Hal.out]; simp⟩
              case measure => simp [intOf]; omega
            | false =>
              rw [hq2] at Hal
              clear hq2
              go_wp2
              go_round
              case rel => exact ⟨i + 1, by omega, by go_num, by rw [Hal.out]; simp⟩
              case measure => simp [intOf]; omega
          · obtain rfl : i = K := by omega
            have hall : nl.take i = nl := List.take_of_length_le (by have := HNL.out; omega)
            rw [hall]
            clear hall
            cases hq2 : nl.all (hasB xs) with
            | true =>
              rw [hq2] at Hpz
              clear hq2
              go_wp2_with ((at_builtin; refine wpList_append_q _ rfl _ _ 22 rfl (w.heap.size + 1) 3 i0 (.int .i64 0) 1 8 Try.underlying22 hi hz0 hz1 hz2 rfl (by decide) _ _ _ rfl (Qw.below (hq4.out) (grow_alloc w4 _)) _ 1 [.int .i64 z] rfl (Sl.boxAt (hp0 w4 _)) (by intro u hu; simp at hu; subst hu; rfl) (by unfold maxLen; omega) (by omega) (by simp; omega) ?_))
              intro vA wA hqA hgA hdA
              have hb6 := Lib.hid ((hb4.out.alloc hb4.out.size _).grown hgA (by simp; omega) (fun j hj => by have := (hq4.out.lt j hj).1; omega))
              have hT6 := Lib.hid ((hT4.out.below (grow_alloc _ _)).kept hgA (fun e => by have := (hq4.out.lt _ e.symm).1; omega))
              have hq6 := Lib.hid (filt_q Hz.out Hpz.out hqA)
              have hs6 := hgA.size
              simp at hs6
              have hs7 : w.heap.size + 1 < wA.heap.size := by omega
              clear hgA hdA hqA
              go_wp2
              go_roundw
              case rel => exact ⟨k + 1, by omega, by go_num, hb6.out, hs7, hT6.out, hq6.out⟩
              case measure => simp [intOf]; omega
            | false =>
              rw [hq2] at Hpz
              clear hq2
              go_wp2
              go_roundw
              case rel => exact ⟨k + 1, by omega, by go_num, hb4.out, by omega, hT4.out, by show Qw _ _ _ _ _ _ _; rw [filt_no Hz.out Hpz.out]; exact hq4.out⟩
              case measure => simp [intOf]; omega
      · obtain rfl : k = N := by omega
        have hall : xs.take k = xs := List.take_of_length_le (by have := HN.out; omega)
        rw [hall] at hq
        clear hall
        go_wp2
        exact bodyPost_ret (v := .tuple #[_, .bool true]) (by simp [results, Try.results31, go_sem]) rfl ⟨_, rfl, hq.out.lower (Nat.le_succ _), hb.out⟩
end Go.Proofs.Ytjobjdmheocheaa
