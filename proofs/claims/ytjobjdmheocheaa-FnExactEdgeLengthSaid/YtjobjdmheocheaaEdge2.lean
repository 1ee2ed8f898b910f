/- EdgeLength in the reference. Conditions: none. -/
import Derived.Test.YtjobjdmheocheaaSides
namespace Go.Proofs.Ytjobjdmheocheaa
open Go.ChangeShapes Go.WideShapes Go.ChangeAt Go.RowKit Go.Deep
set_option linter.unusedVariables false
set_option linter.unusedSimpArgs false
set_option maxRecDepth 100000

theorem along_comm (x a b : Int) : alongB x a b = alongB x b a := by
  unfold alongB
  rw [Bool.eq_iff_iff]
  simp only [Bool.or_eq_true, beq_iff_eq]
  exact ⟨fun h => by rcases h with h | h; exact .inl h.symm; exact .inr h.symm, fun h => by rcases h with h | h; exact .inl h.symm; exact .inr h.symm⟩
theorem sides_eq {x z : Int} {xs : List Int} {N : Nat} (hr : Rise xs) (hx : ∀ c ∈ xs, 0 ≤ c ∧ c ≤ (N : Int) - 1) : ((selN (nearP x z) N).filter fun c => alongB x c z).filter (hasB xs) = xs.filter (besB x z) := by
  refine ((((selN_rise _ _).filter _).filter _)).ext (hr.filter _) fun c => ?_
  simp only [List.mem_filter, selN_mem, hasB_iff, near_iff, besB, Bool.and_eq_true, beq_iff_eq]
  constructor
  · rintro ⟨⟨⟨k, hk, h1, rfl⟩, h2⟩, h3⟩
    exact ⟨h3, by rw [apartN_comm]; exact h1, by rw [along_comm]; exact h2⟩
  · rintro ⟨h3, h1, h2⟩
    have := hx c h3
    exact ⟨⟨⟨c.toNat, by omega, by rw [show ((c.toNat : Nat) : Int) = c by omega, apartN_comm]; exact h1, by omega⟩, by rw [along_comm]; exact h2⟩, h3⟩
theorem cnt_take {l : List Int} {p : Int → Bool} {i : Nat} {z : Int} (h : l[i]? = some z) : (((l.take (i + 1)).filter p).length : Int) = ((l.take i).filter p).length + if p z then 1 else 0 := by
  obtain ⟨hk, rfl⟩ := List.getElem?_eq_some_iff.1 h
  rw [List.take_succ_eq_append_getElem hk, List.filter_append, List.length_append]
  cases hp : p l[i] <;> simp [hp]
set_option maxHeartbeats 4000000 in
theorem sEdgeLength_any (x y : Int) (u : Value) (zs : List Int) (va : Value) (xs : List Int) (w : World) (h : Sl w 1 u zs.length (ints zs)) (ha : Sl w 1 va xs.length (ints xs)) :
    Calls Try.prog 29 #[terrV x y u, va] w fun e w' => e = .returned (okR (oneB x y zs xs) (edgeS x xs xs.length)) ∧ Below w.heap.size w w' := by
  have HA := Lib.hid fun W hW => l2Set_any x y u zs va xs W (h.below (w' := W) hW) (ha.below hW)
  have Hs := Lib.hid fun W hW => ha.below (w' := W) hW
  have Hh := Lib.hid fun W hW z => l1Has_any va xs z W (ha.below (w' := W) hW)
  have HS := Lib.hid fun W hW cl h1 h2 h3 h4 hn => l6Sides_any x y u zs cl W (h.below (w' := W) hW) h1 h2 h3 h4 hn
  have HT : Hid (oneB x y zs xs = (terrB x y zs && setB xs 0 (zs.length - 1))) := rfl
  have HF : Hid (oneB x y zs xs = true → (1 ≤ x ∧ x ≤ 5) ∧ zs.length ≤ 25 ∧ Rise xs ∧ (∀ z ∈ xs, 0 ≤ z ∧ z ≤ (zs.length : Int) - 1) ∧ xs.length ≤ zs.length) := one_facts
  have HE : Hid (oneB x y zs xs = true → ∀ z, ((selN (nearP x z) zs.length).filter fun c => alongB x c z).filter (hasB xs) = xs.filter (besB x z)) := fun hT z => by
    obtain ⟨_, _, r1, s1, _⟩ := one_facts hT
    exact sides_eq r1 s1
  have hTB0 : Hid (TB (w.alloc (.cells #[.int .i64 x, .int .i64 y, u] 28)) w.heap.size x y u) := by show TB _ _ _ _ _; unfold TB; simp [go_sem]
  have Hnl : Hid (∀ z, ((selN (nearP x z) zs.length).filter fun c => alongB x c z).length ≤ zs.length) := fun z => Nat.le_trans (List.length_filter_le _ _) (selN_le _ _)
  obtain ⟨A, c, rfl⟩ := h.val
  obtain ⟨Aa, ca, rfl⟩ := ha.val
  clear h ha
  rw [← HT.out] at HA
  generalize oneB x y zs xs = P at *
  generalize zs.length = M at *
  clear HT
  have hb0 : Hid (Below w.heap.size w (w.alloc (.cells #[.int .i64 x, .int .i64 y, .slice A M c] 28))) := grow_alloc _ _
  cases P with
  | false =>
    generalize edgeS x xs xs.length = S at *
    generalize xs.length = N at *
    go_enter Try.func29, Try.ntmps29
    go_wp2_with fail
    with_reducible refine (HA.out _ hb0.out).mono ?_
    rintro e w1 ⟨rfl, hb1⟩
    have hb1 := Lib.hid (grow_trans hb0.out hb1)
    go_wp2
    go_ret2
    exact ⟨rfl, hb1.out⟩
  | true =>
    obtain ⟨⟨hx1, hx2⟩, hm25, r1, s1, hl1⟩ := HF.out rfl
    have HE2 := Lib.hid (HE.out rfl)
    clear HE
    have hbd := fun k => edgeS_bd (x := x) (xs := xs) (by omega) k
    have Hbd := Lib.hid hbd
    have S1 := Lib.hid s1
    clear HF r1 s1 hbd
    generalize hN : xs.length = N at *
    have HN := Lib.hid hN
    clear hN
    go_enter Try.func29, Try.ntmps29
    go_wp2_with fail
    with_reducible refine (HA.out _ hb0.out).mono ?_
    rintro e w1 ⟨rfl, hb1⟩
    have hT1 := Lib.hid (hTB0.out.below hb1)
    have hb1 := Lib.hid (grow_trans hb0.out hb1)
    go_wp2
    go_loopw [6, 7] (fun s i wr => ∃ k : Nat, k ≤ N ∧ i = .int .i64 k ∧ s = .int .i64 (edgeS x xs k) ∧ Hid (Below w.heap.size w wr) ∧ Hid (TB wr w.heap.size x y (.slice A M c))) (fun _ i _ => N - (intOf i).toNat)
    case atStart => exact ⟨0, Nat.zero_le _, rfl, by simp [edgeS], hb1.out, hT1.out⟩
    case round =>
      obtain ⟨k, hk, rfl, rfl, hb, hT⟩ := hrel
      by_cases hlt : k < N
      · obtain ⟨b, off, z, rfl, hz, hcell⟩ := (Hs.out _ hb.out).at1 HN.out hlt
        obtain ⟨t0, t1, t2⟩ := hT.out
        have hzb := S1.out z (List.mem_of_getElem? hz)
        have Hsucc := Lib.hid (edgeS_succ (x := x) hz)
        have hbk := Hbd.out k
        clear hz
        have hlt' : (k : Int) < (N : Int) := by omega
        have HC := Lib.hid (HS.out wr.drew hb.out.drew z hx1 hx2 hzb.1 (by omega) (by omega))
        have hbd := Lib.hid hb.out.drew
        have hTd := Lib.hid (hT.out.below (grow_drew wr))
        clear hb hT
        generalize edgeS x xs k = S at *
        generalize hS' : edgeS x xs (k + 1) = S' at *
        have HS' := Lib.hid hS'
        clear hS'
        go_wp2_with fail
        go_still_tail 5, (by kernel_rfl)
        change wpList _ _ _ _ _ wr.drew
        clear t0 t1 t2 hcell
        generalize wr.drew = wd at *
        go_wp2_with fail
        with_reducible refine HC.out.mono ?_
        rintro e w4 ⟨nr, rfl, on, hb4⟩
        have on := Lib.hid (Sl.of_q on)
        have hT4 := Lib.hid (hTd.out.below hb4)
        have hb4 := Lib.hid (grow_trans hbd.out hb4)
        clear HC hbd hTd
        have Hpz := Lib.hid (HE2.out z)
        have hnlz := Hnl.out z
        generalize ((selN (nearP x z) M).filter fun c => alongB x c z) = nl at *
        generalize hNL : nl.length = K at *
        have HNL := Lib.hid hNL
        have Hcl : Hid (∀ i, ((nl.take i).filter (hasB xs)).length ≤ i) := fun i => filt_le nl (hasB xs) i
        clear hNL
        obtain ⟨An, cn, rfl⟩ := on.out.val
        go_wp2
        go_loop [6, 9] (fun a j => ∃ i : Nat, i ≤ K ∧ j = .int .i64 i ∧ a = .int .i64 (S + 4 - ((nl.take i).filter (hasB xs)).length)) (fun _ j => K - (intOf j).toNat)
        case atStart => exact ⟨0, Nat.zero_le _, rfl, by simp⟩
        case round =>
          obtain ⟨i, hi', rfl, rfl⟩ := hrel
          by_cases hlt2 : i < K
          · obtain ⟨b2, off2, z2, hA2, hz2, hcell2⟩ := on.out.at1 HNL.out hlt2
            subst hA2
            have Hal := Lib.hid (cnt_take (p := hasB xs) hz2)
            have HP := Lib.hid (Hh.out w4 hb4.out z2)
            have hci := Hcl.out i
            clear hz2
            generalize ((nl.take i).filter (hasB xs)).length = C0 at *
            generalize hC1 : ((nl.take (i + 1)).filter (hasB xs)).length = C1 at *
            have HC1 := Lib.hid hC1
            clear hC1
            cases hq2 : hasB xs z2 with
            | true =>
              rw [hq2] at Hal HP
              have Hal := Lib.hid (show (C1 : Int) = C0 + 1 from Hal.out)
              clear hq2
              go_wp2_with fail
              with_reducible refine HP.out.mono ?_
              rintro e w5 ⟨rfl, rfl⟩
              go_wp2
              go_round
              case rel => exact ⟨i + 1, by omega, by go_num, by rw [HC1.out, Hal.out]; go_num⟩
              case measure => simp [intOf]; omega
            | false =>
              rw [hq2] at Hal HP
              have Hal := Lib.hid (show (C1 : Int) = C0 by simpa using Hal.out)
              clear hq2
              go_wp2_with fail
              with_reducible refine HP.out.mono ?_
              rintro e w5 ⟨rfl, rfl⟩
              go_wp2
              go_round
              case rel => exact ⟨i + 1, by omega, by go_num, by rw [HC1.out, Hal.out]⟩
              case measure => simp [intOf]; omega
          · obtain rfl : i = K := by omega
            have hall : nl.take i = nl := List.take_of_length_le (by have := HNL.out; omega)
            rw [hall, Hpz.out]
            clear hall
            go_wp2
            go_roundw
            case rel => exact ⟨k + 1, by omega, by go_num, by rw [HS'.out, Hsucc.out]; go_num, hb4.out, hT4.out⟩
            case measure => simp [intOf]; omega
      · obtain rfl : k = N := by omega
        go_wp2
        go_ret2
        exact ⟨rfl, hb.out⟩
end Go.Proofs.Ytjobjdmheocheaa
