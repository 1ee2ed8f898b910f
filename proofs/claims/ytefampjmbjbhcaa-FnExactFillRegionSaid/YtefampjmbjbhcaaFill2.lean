/- FillRegion in the reference. Conditions: none. -/
import Derived.Test.YtefampjmbjbhcaaFill
namespace Go.Proofs.Ytefampjmbjbhcaa
open Go.ChangeShapes Go.WideShapes Go.ChangeAt Go.RowKit Go.Deep
set_option linter.unusedVariables false
set_option linter.unusedSimpArgs false
set_option maxRecDepth 100000

/-- A region with the cells of its first holes put in. -/
def fillS (xs : List Int) (H : List (List Int)) (k : Nat) : List Int := putsL xs (flat H k)
theorem fillS_succ {xs : List Int} {H : List (List Int)} {k : Nat} {l : List Int} (h : H[k]? = some l) : fillS xs H (k + 1) = putsL (fillS xs H k) l := by
  unfold fillS; rw [flat_succ h, putsL_append]
theorem fillS_in {xs : List Int} {H : List (List Int)} {N k : Nat} (hx : ∀ z ∈ xs, 0 ≤ z ∧ z ≤ (N : Int) - 1) (hH : ∀ (k : Nat) (l : List Int), H[k]? = some l → ∀ z ∈ l, 0 ≤ z ∧ z ≤ (N : Int) - 1) : ∀ z ∈ fillS xs H k, 0 ≤ z ∧ z ≤ (N : Int) - 1 := by
  refine puts_in hx fun z hz => ?_
  obtain ⟨p, hp, hz⟩ := flat_mem hz
  obtain ⟨i, hi, rfl⟩ := List.mem_iff_getElem.1 hp
  exact hH i _ (List.getElem?_eq_getElem hi) z hz
set_option maxHeartbeats 4000000 in
theorem sFillRegion_any (x y : Int) (u : Value) (zs : List Int) (va : Value) (xs : List Int) (w : World) (h : Sl w 1 u zs.length (ints zs)) (ha : Sl w 1 va xs.length (ints xs)) :
    Calls Try.prog 12 #[terrV x y u, va] w (RetSelQ w (selR (oneB x y zs xs) (fillL x y zs.length xs)) (oneB x y zs xs)) := by
  have HA := Lib.hid fun W hW => l2Set_any x y u zs va xs W (h.below (w' := W) hW) (ha.below hW)
  have HO := Lib.hid fun W hW hn => l1Own_any va xs W (ha.below (w' := W) hW) hn
  have HT : Hid (oneB x y zs xs = (terrB x y zs && setB xs 0 (zs.length - 1))) := rfl
  have HF : Hid (oneB x y zs xs = true → zs.length ≤ 25 ∧ Rise xs ∧ (∀ z ∈ xs, 0 ≤ z ∧ z ≤ (zs.length : Int) - 1) ∧ xs.length ≤ zs.length) := fun h => (one_facts h).2
  have HH : Hid (oneB x y zs xs = true → ∀ W, Below w.heap.size w W → Calls Try.prog 76 #[terrV x y u, va] W (RetW W (holL x y zs.length xs))) := by
    show _ → _
    intro hT W hW
    obtain ⟨⟨hx1, hx2⟩, hzl, hr1, hr2, hxl⟩ := one_facts hT
    obtain ⟨_, ⟨y1, y2⟩, _, _⟩ := terr_dims (show terrB x y zs = true by unfold oneB at hT; simp only [Bool.and_eq_true] at hT; exact hT.1)
    exact l6Holes_any x y u zs va xs W (h.below hW) (ha.below hW) hx1 hx2 y1 y2 hzl
  have HJ : Hid (oneB x y zs xs = true → fillS xs (holL x y zs.length xs) (holL x y zs.length xs).length = fillL x y zs.length xs) := by
    show _ → _
    intro hT
    obtain ⟨_, _, r1, s1, _⟩ := one_facts hT
    unfold fillS
    rw [flat_all]
    exact fill_eq r1 s1
  have HM : Hid (∀ (k : Nat) (l : List Int), (holL x y zs.length xs)[k]? = some l → ∀ z ∈ l, 0 ≤ z ∧ z ≤ (zs.length : Int) - 1) := fun k l hl => (hol_mem (List.mem_of_getElem? hl)).2
  have HMl : Hid ((holL x y zs.length xs).length ≤ zs.length) := hol_len _ _ _ _
  obtain ⟨A, c, rfl⟩ := h.val
  obtain ⟨Aa, ca, rfl⟩ := ha.val
  clear h ha
  have hTB0 : Hid (TB (w.alloc (.cells #[.int .i64 x, .int .i64 y, .slice A zs.length c] 28)) w.heap.size x y (.slice A zs.length c)) := by show TB _ _ _ _ _; unfold TB; simp [go_sem]
  rw [← HT.out] at HA
  generalize oneB x y zs xs = P at *
  generalize fillL x y zs.length xs = R at *
  generalize holL x y zs.length xs = H at *
  generalize zs.length = M at *
  generalize hN : xs.length = N at *
  have HN := Lib.hid hN
  clear hN HT
  have hb0 : Hid (Below w.heap.size w (w.alloc (.cells #[.int .i64 x, .int .i64 y, .slice A M c] 28))) := grow_alloc _ _
  cases P with
  | false =>
    go_enter Try.func12, Try.ntmps12
    go_wp2_with fail
    with_reducible refine (HA.out _ hb0.out).mono ?_
    rintro e w1 ⟨rfl, hb1⟩
    have hb1 := Lib.hid (grow_trans hb0.out hb1)
    go_wp2
    exact bodyPost_ret (v := .tuple #[.slice (some ⟨w1.heap.size, 0, none⟩) 0 0, .bool false]) (by simp [results, Try.results12, go_sem]) rfl ⟨_, rfl, (Qw.empty _ _).lower hb1.out.size, grow_trans hb1.out (grow_alloc _ _)⟩
  | true =>
    obtain ⟨hm25, r1, s1, hl1⟩ := HF.out rfl
    have HG := Lib.hid (HH.out rfl)
    have hj := HJ.out rfl
    have Hj := Lib.hid hj
    have R1 := Lib.hid r1
    have S1 := Lib.hid s1
    have hHm := HMl.out
    clear HF HH HJ hj r1 s1
    go_enter Try.func12, Try.ntmps12
    go_wp2_with fail
    with_reducible refine (HA.out _ hb0.out).mono ?_
    rintro e w1 ⟨rfl, hb1⟩
    have hT1 := Lib.hid (hTB0.out.below hb1)
    have hb1 := Lib.hid (grow_trans hb0.out hb1)
    go_wp2_with fail
    with_reducible refine (HO.out _ hb1.out (by omega)).mono ?_
    rintro e w3 ⟨v0, rfl, hq3, hb3⟩
    have hq3 := Lib.hid (hq3.lower hb1.out.size)
    have hT3 := Lib.hid (hT1.out.below hb3)
    have hb3 := Lib.hid (grow_trans hb1.out hb3)
    have hq3' : Hid (Qw w3 w.heap.size 3 1 v0 (fillS xs H 0).length (ints (fillS xs H 0))) := by show Qw _ _ _ _ _ _ _; unfold fillS flat; simpa [putsL, HN.out] using hq3.out
    clear hq3 HO HA hT1 hb1 hTB0 hb0
    obtain ⟨t0, t1, t2⟩ := hT3.out
    go_wp2_with fail
    with_reducible refine (HG.out _ hb3.out).mono ?_
    rintro e w4 ⟨rv, vs, rfl, hR, hb4⟩
    have hR4 := Lib.hid hR
    have hq4 := Lib.hid (hq3'.out.below hb4)
    have hb4 := Lib.hid (grow_trans hb3.out hb4)
    clear hR hq3' hb3 hT3 t0 t1 t2 HG
    obtain ⟨Ar, cr, rfl⟩ := (Sl.of_q hR4.out.outer).val
    have hvl := hR4.out.len
    have Hvl := Lib.hid hvl
    rw [hvl] at hR4 ⊢
    clear hvl
    generalize hL : H.length = L at *
    have HLn := Lib.hid hL
    clear hL
    generalize w3.heap.size = B at hR4
    generalize w4.heap.size = TT at hR4
    go_wp2
    go_loopw [6, 8] (fun v i wr => ∃ k : Nat, k ≤ L ∧ i = .int .i64 k ∧ Hid (Below w.heap.size w wr) ∧ Hid (RowsW wr B TT (.slice Ar L cr) vs H) ∧ Hid (Qw wr w.heap.size 3 1 v (fillS xs H k).length (ints (fillS xs H k)))) (fun _ i _ => L - (intOf i).toNat)
    case atStart => exact ⟨0, Nat.zero_le _, rfl, hb4.out, hR4.out, hq4.out⟩
    case round =>
      obtain ⟨k, hk, rfl, hb, hR, hq⟩ := hrel
      by_cases hlt : k < L
      · have hvl := hR.out.sl.outer
        rw [Hvl.out] at hvl
        obtain ⟨b, off, z, rfl, hz, hcell⟩ := hvl.at1 Hvl.out hlt
        simp only [id] at hcell
        obtain ⟨l, hl⟩ : ∃ l, H[k]? = some l := ⟨_, List.getElem?_eq_getElem (by have := HLn.out; omega)⟩
        have hrow := hR.out.sl.row k z l hz hl
        obtain ⟨Az, cz, rfl⟩ := hrow.val
        have hrow := Lib.hid hrow
        have hfs := Lib.hid (fillS_succ (xs := xs) hl)
        have hNi := Lib.hid (HM.out k l hl)
        have hGi := Lib.hid (fillS_in (k := k) S1.out HM.out)
        have hGr : Hid (Rise (fillS xs H k)) := R1.out.puts
        have hcell := Lib.hid hcell
        have hlt' : (k : Int) < (L : Int) := by omega
        clear hvl hz hl
        generalize fillS xs H k = G at *
        generalize hG' : fillS xs H (k + 1) = G' at *
        have HG' := Lib.hid hG'
        clear hG'
        generalize hNL : l.length = K at *
        have HNL := Lib.hid hNL
        clear hNL
        have hKmx := hrow.out.len
        unfold maxLen at hKmx
        obtain ⟨wo, rfl⟩ : ∃ wo : World, wo = wr := ⟨_, rfl⟩
        go_wp2
        go_loopw [6, 9] (fun v j wq => ∃ i : Nat, i ≤ K ∧ j = .int .i64 i ∧ Hid (Below w.heap.size w wq) ∧ Hid (Below wo.heap.size wo wq) ∧ Hid (Qw wq w.heap.size 3 1 v (putsL G (l.take i)).length (ints (putsL G (l.take i))))) (fun _ j _ => K - (intOf j).toNat)
        case atStart => exact ⟨0, Nat.zero_le _, rfl, hb.out, Below.refl _ _, hq.out⟩
        case round =>
          obtain ⟨i, hi', rfl, hbq, hbo, hqq⟩ := hrel
          have hcell1 := cell_below hcell.out hbo.out
          by_cases hlt2 : i < K
          · obtain ⟨b2, off2, z2, hA2, hz2, hcell2⟩ := (hrow.out.below hbo.out).at1 HNL.out hlt2
            subst hA2
            have hlen : (putsL G (l.take i)).length ≤ M := Rise.lenN hGr.out.puts (puts_in hGi.out (fun z hz => hNi.out z (List.mem_of_mem_take hz)))
            have Hz2 := Lib.hid (putsL_take G hz2)
            have HP := Lib.hid (l1Put_any _ _ z2 _ _ hqq.out hbq.out.size (by omega))
            have hlt2' : (i : Int) < (K : Int) := by omega
            clear hz2 hlen
            go_wp2_with fail
            with_reducible refine HP.out.mono ?_
            intro e w5 hr5
            unfold RetPut at hr5
            obtain ⟨v5, rfl, hq5, hb5, _⟩ := hr5
            have hq5 := Lib.hid hq5
            have hbo5 := Lib.hid (grow_trans hbo.out hb5)
            have hb5 := Lib.hid (grow_trans hbq.out hb5)
            go_wp2
            go_roundw
            case rel => exact ⟨i + 1, by omega, by go_num, hb5.out, hbo5.out, by show Qw _ _ _ _ _ _ _; rw [Hz2.out]; exact hq5.out⟩
            case measure => simp [intOf]; omega
          · obtain rfl : i = K := by omega
            have hall : l.take i = l := List.take_of_length_le (by have := HNL.out; omega)
            rw [hall, ← hfs.out] at hqq
            have hR5 := Lib.hid (hR.out.below hbo.out)
            clear hall
            go_wp2
            go_roundw
            case rel => exact ⟨k + 1, by omega, by go_num, hbq.out, hR5.out, by show Qw _ _ _ _ _ _ _; rw [HG'.out]; exact hqq.out⟩
            case measure => simp [intOf]; omega
      · obtain rfl : k = L := by omega
        rw [Hj.out] at hq
        go_wp2
        exact bodyPost_ret (v := .tuple #[_, .bool true]) (by simp [results, Try.results12, go_sem]) rfl ⟨_, rfl, hq.out, hb.out⟩
end Go.Proofs.Ytefampjmbjbhcaa
