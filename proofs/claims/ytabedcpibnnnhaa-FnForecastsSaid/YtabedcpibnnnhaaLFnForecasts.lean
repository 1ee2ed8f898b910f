/- FnForecasts returns true for all codes: no direction has a greater sum of pushes than the worst one, red flag hours hold their limits, the strongest hour has the greatest gust, and the program answers as the reference. Conditions: none. -/
import Derived.Test.YtabedcpibnnnhaaDrW2
import Derived.Test.YtabedcpibnnnhaaForeP
import Derived.Test.YtabedcpibnnnhaaStrong
import Derived.Test.YtabedcpibnnnhaaWorst
import Derived.Test.YtabedcpibnnnhaaRed3
import Derived.Test.YtabedcpibnnnhaaShift2
namespace Go.Proofs.Ytabedcpibnnnhaa.lFnForecasts
open Go.ChangeShapes Go.WideShapes Go.ChangeAt Go.RowKit Go.Proofs.Ytabedcpibnnnhaa
set_option linter.unusedVariables false
set_option linter.unusedSimpArgs false
set_option maxRecDepth 100000

/-- The worst direction. -/
def wst (ps : List Wx) : Nat := bestF (fun (t : Nat) => psum ps t ps.length) 8
theorem tdiv_abs (S : Int) (d : Nat) {B : Int} (h1 : -B ≤ S) (h2 : S ≤ B) : -B ≤ S.tdiv d ∧ S.tdiv d ≤ B := by
  have h := Int.natAbs_tdiv_le_natAbs S (d : Int)
  omega
theorem mean_facts {ps : List Wx} (hF : foreB ps = true) (t : Nat) (ht : t ≤ 7) : ∃ a d : Int, meanR ps t = .tuple #[.int .i64 a, .int .i64 d, .bool true] ∧ a * (ps.length : Int) ≤ psum ps (wst ps : Nat) ps.length * d ∧ (t = wst ps → a * (ps.length : Int) = psum ps (wst ps : Nat) ps.length * d) ∧ (-300000 ≤ a ∧ a ≤ 300000) ∧ (-24 ≤ d ∧ d ≤ 24) := by
  obtain ⟨n1, n2⟩ := fore_len hF
  have hb := psum_bd (to := (t : Int)) hF ps.length
  refine ⟨(psum ps (t : Int) ps.length).tdiv (Int.gcd (psum ps (t : Int) ps.length) ps.length : Nat), (ps.length : Int).tdiv (Int.gcd (psum ps (t : Int) ps.length) ps.length : Nat), ?_, mean_law (by omega) ?_, fun e => ?_, ?_, ?_⟩
  · unfold meanR twoR
    rw [hF, inB_iff.2 (show (0 : Int) ≤ (t : Int) ∧ (t : Int) ≤ 7 by omega)]; rfl
  · exact bestF_max (fun (t : Nat) => psum ps t ps.length) 8 t (by omega)
  · subst e; exact mean_same (by omega)
  · have := tdiv_abs (psum ps t ps.length) (Int.gcd (psum ps t ps.length) ps.length) (B := 300000) (by omega) (by omega)
    exact this
  · have := tdiv_abs (ps.length : Int) (Int.gcd (psum ps t ps.length) ps.length) (B := 24) (by omega) (by omega)
    exact this
theorem mul_bd {a n : Int} (a0 : -300000 ≤ a) (a1 : a ≤ 300000) (n0 : 0 ≤ n) (n1 : n ≤ 24) : -7200000 ≤ a * n ∧ a * n ≤ 7200000 := by
  have h1 := Int.mul_le_mul_of_nonneg_right a1 n0
  have h2 := Int.mul_le_mul_of_nonneg_right a0 n0
  constructor <;> omega
theorem mul_bd2 {a d : Int} (a0 : -300000 ≤ a) (a1 : a ≤ 300000) (n0 : -24 ≤ d) (n1 : d ≤ 24) : -7200000 ≤ a * d ∧ a * d ≤ 7200000 := by
  by_cases h : 0 ≤ d
  · exact mul_bd a0 a1 h n1
  · have := mul_bd a0 a1 (show (0 : Int) ≤ -d by omega) (by omega)
    rw [Int.mul_neg] at this
    constructor <;> omega
theorem wst_le (ps : List Wx) : wst ps ≤ 7 := by have := bestF_lt (fun (t : Nat) => psum ps t ps.length) 8 (by omega); unfold wst; omega
theorem gust_max (ps : List Wx) : ∀ k i, i < k → gustN ps i ≤ gustN ps (bestN ps k)
  | 0, i, h => by omega
  | k + 1, i, h => by
    have ih := gust_max ps k
    simp only [bestN]
    split
    · by_cases e : i = k
      · subst e; omega
      · have := ih i (by omega); omega
    · by_cases e : i = k
      · subst e; omega
      · exact ih i (by omega)
theorem in_step {R : List (List Int)} {k : Nat} {a b : Int} (h : R[k]? = some [a, b]) (i : Int) : inSp (R.take (k + 1)) i = (inSp (R.take k) i || (decide (a ≤ i) && decide (i ≤ b))) := by
  unfold inSp
  rw [List.take_add_one, h]
  simp
theorem rBig_any (v : Value) (N : Nat) (cs : List Value) (w : World) (h : Sl w 1 v N cs) : Calls Try.prog 20 #[v] w fun e w' => e = .returned (.bool (decide ((65536 : Int) < (N : Int)))) ∧ w = w' := by
  have := h.len
  obtain ⟨A, c, rfl⟩ := h.val
  unfold maxLen at this
  clear h
  go_enter Try.func20, Try.ntmps20
  go_wp2
  go_ret
  exact ⟨rfl, rfl⟩
set_option maxHeartbeats 32000000 in
theorem walk (W : World) (v0 : Value) (z0 : List Int) (k0 : Sl W 1 v0 z0.length (octs z0) ∧ ∀ z ∈ z0, 0 ≤ z ∧ z ≤ 255) :
    Calls Try.prog 5 #[v0] W fun e w' => e = .returned (.bool true) ∧ Below W.heap.size W w' := by
  have HB := Lib.hid (rBig_any v0 _ _ W k0.1)
  by_cases hbig : (65536 : Int) < (z0.length : Int)
  case pos =>
    rw [decide_eq_true hbig] at HB
    go_enter Try.func5, Try.ntmps5
    go_wp2_with fail
    with_reducible refine HB.out.mono ?_
    rintro e w1 ⟨rfl, rfl⟩
    go_wp2
    go_ret
    exact ⟨rfl, Below.refl _ _⟩
  rw [decide_eq_false hbig] at HB
  have D1 := Lib.hid fun w' (hW : Below W.heap.size W w') => DrawWorstDirection_any v0 z0 w' (k0.1.below hW) k0.2
  have D2 := Lib.hid fun w' (hW : Below W.heap.size W w') => DrawRedFlagHours_any v0 z0 w' (k0.1.below hW) k0.2
  have D3 := Lib.hid fun w' (hW : Below W.heap.size W w') => DrawWindShifts_any v0 z0 w' (k0.1.below hW) k0.2
  have D4 := Lib.hid fun w' (hW : Below W.heap.size W w') => DrawMeanPush_any v0 z0 w' (k0.1.below hW) k0.2
  have hb : Hid (Below W.heap.size W W) := Below.refl _ _
  clear k0
  go_enter Try.func5, Try.ntmps5
  go_wp2_with fail
  with_reducible refine HB.out.mono ?_
  rintro e w1 ⟨rfl, rfl⟩
  clear HB
  go_wp2_with fail
  refine (D1.out _ hb.out).mono ?_
  rintro e w2 ⟨v1, l1, rfl, hs1, hb'⟩
  replace hb := Lib.hid (grow_trans hb.out hb')
  obtain ⟨A1, c1, rfl⟩ := hs1.1.val
  have hl1 := hs1.2
  have hs1s := Lib.hid hs1.1
  clear hs1 hb' D1
  have P1 := fun W h => WorstDirection_any (.slice A1 l1.length c1) l1 W h
  have P2 := fun W h => sWorstDirection_any (.slice A1 l1.length c1) l1 W h
  have P3 := fun W h => IsForecast_any (.slice A1 l1.length c1) l1 W h
  have P4 := fun W h => StrongestHour_any (.slice A1 l1.length c1) l1 W h
  have P5 := fun W h => sStrongestHour_any (.slice A1 l1.length c1) l1 W h
  cases hF : foreB l1 with
  | false =>
    simp only [hF, show ∀ p q, twoR false p q = .tuple #[.int .i64 0, .int .i64 0, .bool false] from fun _ _ => rfl] at P1 P2 P3 P4 P5
    replace P1 := Lib.hid P1
    replace P2 := Lib.hid P2
    replace P3 := Lib.hid P3
    replace P4 := Lib.hid P4
    replace P5 := Lib.hid P5
    go_wp2_with fail
    refine (P1.out _ hs1s.out).mono ?_
    rintro e w3 ⟨rfl, hb'⟩
    replace hs1s := Lib.hid (hs1s.out.below hb')
    replace hb := Lib.hid (grow_trans hb.out hb')
    clear hb'
    go_wp2_with fail
    refine (P2.out _ hs1s.out).mono ?_
    rintro e w4 ⟨rfl, hb'⟩
    replace hs1s := Lib.hid (hs1s.out.below hb')
    replace hb := Lib.hid (grow_trans hb.out hb')
    clear hb'
    go_wp2_with fail
    refine (P3.out _ hs1s.out).mono ?_
    rintro e w5 ⟨rfl, hb'⟩
    replace hs1s := Lib.hid (hs1s.out.below hb')
    replace hb := Lib.hid (grow_trans hb.out hb')
    clear hb'
    go_wp2
    refine wp_loop_rounds 1 ?_
    rw [rounds_succ]
    go_wp2_with fail
    refine (P4.out _ hs1s.out).mono ?_
    rintro e w6 ⟨rfl, hb'⟩
    replace hs1s := Lib.hid (hs1s.out.below hb')
    replace hb := Lib.hid (grow_trans hb.out hb')
    clear hb'
    go_wp2_with fail
    refine (P5.out _ hs1s.out).mono ?_
    rintro e w7 ⟨rfl, hb'⟩
    replace hs1s := Lib.hid (hs1s.out.below hb')
    replace hb := Lib.hid (grow_trans hb.out hb')
    clear hb'
    clear hs1s P1 P2 P3 P4 P5 hF
    go_wp2
    refine wp_loop_rounds 1 ?_
    rw [rounds_succ]
    by_cases hd0 : 0 < l1.length
    · skip
      have d0 : decide (0 < l1.length) = true := decide_eq_true (by omega)
      clear hd0
      as_aux_lemma =>
        go_wp2_with fail
        refine (D2.out _ hb.out).mono ?_
        rintro e w8 ⟨v2, l2, sp, hu, rfl, hs2, hb'⟩
        replace hb := Lib.hid (grow_trans hb.out hb')
        obtain ⟨A2, c2, rfl⟩ := hs2.1.val
        have hl2 := hs2.2
        have hs2s := Lib.hid hs2.1
        clear hs2 hb' D2
        have R1 := fun W h => RedFlagHours_any (.slice A2 l2.length c2) l2 sp hu W h
        have R2 := fun W h => sRedFlagHours_any (.slice A2 l2.length c2) l2 sp hu W h
        unfold RetRR at R1
        unfold RetRW at R2
        cases hok : (foreB l2 && inB sp 0 120 && inB hu 0 100) with
        | false =>
          rw [hok] at R1 R2
          rw [show selRR false (rfS l2 sp hu l2.length) = [] from rfl] at R1 R2
          replace R1 := Lib.hid R1
          replace R2 := Lib.hid R2
          clear hok
          go_wp2_with fail
          refine (R1.out _ hs2s.out).mono ?_
          rintro e w9 ⟨u1, us1, rfl, o1, hb'⟩
          replace hs2s := Lib.hid (hs2s.out.below hb')
          replace hb := Lib.hid (grow_trans hb.out hb')
          have HO1 := Lib.hid o1.sl
          clear o1 hb'
          go_wp2_with fail
          refine (R2.out _ hs2s.out).mono ?_
          rintro e w10 ⟨u2, us2, rfl, o2, hb'⟩
          replace hs2s := Lib.hid (hs2s.out.below hb')
          replace HO1 := Lib.hid (HO1.out.below hb')
          replace hb := Lib.hid (grow_trans hb.out hb')
          have HO2 := Lib.hid o2.sl
          clear o2 hb' R1 R2
          obtain ⟨B1, d1, hB1⟩ := HO1.out.outer.val
          obtain ⟨B2, d2, hB2⟩ := HO2.out.outer.val
          have hn1 := HO1.out.len
          have hn2 := HO2.out.len
          rw [hn1] at hB1
          rw [hn2] at hB2
          subst hB1
          subst hB2
          clear hn1 hn2
          go_wp2_with fail
          refine (rTable_any _ _ us1 us2 ([] : List (List Int)) _ HO1.out HO2.out).mono ?_
          rintro e w11 ⟨rfl, hb'⟩
          replace hs2s := Lib.hid (hs2s.out.below hb')
          replace HO1 := Lib.hid (HO1.out.below hb')
          replace HO2 := Lib.hid (HO2.out.below hb')
          replace hb := Lib.hid (grow_trans hb.out hb')
          clear hb'
          clear HO2
          clear HO1
          have hlz : Hid (Sl _ 4 _ _ _) := hs2s
          go_wp2
          refine wp_loop_rounds 1 ?_
          rw [rounds_succ]
          clear hlz hs2s
          by_cases hd0 : 0 < l2.length
          · skip
            have d0 : decide (0 < l2.length) = true := decide_eq_true (by omega)
            clear hd0
            as_aux_lemma =>
              go_wp2_with fail
              refine (D3.out _ hb.out).mono ?_
              rintro e w12 ⟨v3, l3, t3, rfl, hs3, hb'⟩
              replace hb := Lib.hid (grow_trans hb.out hb')
              obtain ⟨A3, c3, rfl⟩ := hs3.1.val
              have hs3s := Lib.hid hs3.1
              clear hs3 hb' D3
              have S1 := fun W h => WindShifts_any (.slice A3 l3.length c3) l3 t3 W h
              have S2 := fun W h => sWindShifts_any (.slice A3 l3.length c3) l3 t3 W h
              unfold RetSel at S1 S2
              generalize selR (foreB l3 && inB t3 1 4) (shO l3 t3 l3.length) = rs3 at *
              generalize (foreB l3 && inB t3 1 4) = ok3 at *
              replace S1 := Lib.hid S1
              replace S2 := Lib.hid S2
              go_wp2_with fail
              refine (S1.out _ hs3s.out).mono ?_
              rintro e w13 ⟨u3, rfl, o3, hb'⟩
              replace hs3s := Lib.hid (hs3s.out.below hb')
              replace hb := Lib.hid (grow_trans hb.out hb')
              obtain ⟨B3, d3, rfl, _⟩ := own_form o3
              have ho3 := Lib.hid o3
              clear o3 hb'
              go_wp2_with fail
              refine (S2.out _ hs3s.out).mono ?_
              rintro e w14 ⟨u4, rfl, o4, hb'⟩
              replace hs3s := Lib.hid (hs3s.out.below hb')
              replace ho3 := Lib.hid (own_below ho3.out hb')
              replace hb := Lib.hid (grow_trans hb.out hb')
              obtain ⟨B4, d4, rfl, _⟩ := own_form o4
              have ho4 := Lib.hid o4
              clear o4 hb' S1 S2 hs3s
              go_wp2_with fail
              refine (rInts_any _ _ rs3 _ (Sl.of_own ho3.out) (Sl.of_own ho4.out)).mono ?_
              rintro e w15 ⟨rfl, hb'⟩
              replace ho3 := Lib.hid (own_below ho3.out hb')
              replace ho4 := Lib.hid (own_below ho4.out hb')
              replace hb := Lib.hid (grow_trans hb.out hb')
              clear hb'
              clear ho3 ho4
              go_wp2_with fail
              refine (D4.out _ hb.out).mono ?_
              rintro e w16 ⟨v4, l4, to, rfl, hs4, hb'⟩
              replace hb := Lib.hid (grow_trans hb.out hb')
              obtain ⟨A4, c4, rfl⟩ := hs4.1.val
              have hs4s := Lib.hid hs4.1
              clear hs4 hb' D4
              obtain ⟨m1, m2, m3, hm⟩ := meanR_shape l4 to
              have M1 := fun W h => MeanPush_any (.slice A4 l4.length c4) l4 to W h
              have M2 := fun W h => sMeanPush_any (.slice A4 l4.length c4) l4 to W h
              rw [hm] at M1 M2
              replace M1 := Lib.hid M1
              replace M2 := Lib.hid M2
              clear hm
              go_wp2_with fail
              refine (M1.out _ hs4s.out).mono ?_
              rintro e w17 ⟨rfl, hb'⟩
              replace hs4s := Lib.hid (hs4s.out.below hb')
              replace hb := Lib.hid (grow_trans hb.out hb')
              clear hb'
              go_wp2_with fail
              refine (M2.out _ hs4s.out).mono ?_
              rintro e w18 ⟨rfl, hb'⟩
              replace hs4s := Lib.hid (hs4s.out.below hb')
              replace hb := Lib.hid (grow_trans hb.out hb')
              clear hb'
              go_wp2
              go_ret
              exact ⟨by simp, hb.out⟩
          · skip
            have d0 : decide (0 < l2.length) = false := decide_eq_false (by omega)
            clear hd0
            as_aux_lemma =>
              go_wp2_with fail
              refine (D3.out _ hb.out).mono ?_
              rintro e w12 ⟨v3, l3, t3, rfl, hs3, hb'⟩
              replace hb := Lib.hid (grow_trans hb.out hb')
              obtain ⟨A3, c3, rfl⟩ := hs3.1.val
              have hs3s := Lib.hid hs3.1
              clear hs3 hb' D3
              have S1 := fun W h => WindShifts_any (.slice A3 l3.length c3) l3 t3 W h
              have S2 := fun W h => sWindShifts_any (.slice A3 l3.length c3) l3 t3 W h
              unfold RetSel at S1 S2
              generalize selR (foreB l3 && inB t3 1 4) (shO l3 t3 l3.length) = rs3 at *
              generalize (foreB l3 && inB t3 1 4) = ok3 at *
              replace S1 := Lib.hid S1
              replace S2 := Lib.hid S2
              go_wp2_with fail
              refine (S1.out _ hs3s.out).mono ?_
              rintro e w13 ⟨u3, rfl, o3, hb'⟩
              replace hs3s := Lib.hid (hs3s.out.below hb')
              replace hb := Lib.hid (grow_trans hb.out hb')
              obtain ⟨B3, d3, rfl, _⟩ := own_form o3
              have ho3 := Lib.hid o3
              clear o3 hb'
              go_wp2_with fail
              refine (S2.out _ hs3s.out).mono ?_
              rintro e w14 ⟨u4, rfl, o4, hb'⟩
              replace hs3s := Lib.hid (hs3s.out.below hb')
              replace ho3 := Lib.hid (own_below ho3.out hb')
              replace hb := Lib.hid (grow_trans hb.out hb')
              obtain ⟨B4, d4, rfl, _⟩ := own_form o4
              have ho4 := Lib.hid o4
              clear o4 hb' S1 S2 hs3s
              go_wp2_with fail
              refine (rInts_any _ _ rs3 _ (Sl.of_own ho3.out) (Sl.of_own ho4.out)).mono ?_
              rintro e w15 ⟨rfl, hb'⟩
              replace ho3 := Lib.hid (own_below ho3.out hb')
              replace ho4 := Lib.hid (own_below ho4.out hb')
              replace hb := Lib.hid (grow_trans hb.out hb')
              clear hb'
              clear ho3 ho4
              go_wp2_with fail
              refine (D4.out _ hb.out).mono ?_
              rintro e w16 ⟨v4, l4, to, rfl, hs4, hb'⟩
              replace hb := Lib.hid (grow_trans hb.out hb')
              obtain ⟨A4, c4, rfl⟩ := hs4.1.val
              have hs4s := Lib.hid hs4.1
              clear hs4 hb' D4
              obtain ⟨m1, m2, m3, hm⟩ := meanR_shape l4 to
              have M1 := fun W h => MeanPush_any (.slice A4 l4.length c4) l4 to W h
              have M2 := fun W h => sMeanPush_any (.slice A4 l4.length c4) l4 to W h
              rw [hm] at M1 M2
              replace M1 := Lib.hid M1
              replace M2 := Lib.hid M2
              clear hm
              go_wp2_with fail
              refine (M1.out _ hs4s.out).mono ?_
              rintro e w17 ⟨rfl, hb'⟩
              replace hs4s := Lib.hid (hs4s.out.below hb')
              replace hb := Lib.hid (grow_trans hb.out hb')
              clear hb'
              go_wp2_with fail
              refine (M2.out _ hs4s.out).mono ?_
              rintro e w18 ⟨rfl, hb'⟩
              replace hs4s := Lib.hid (hs4s.out.below hb')
              replace hb := Lib.hid (grow_trans hb.out hb')
              clear hb'
              go_wp2
              go_ret
              exact ⟨by simp, hb.out⟩
        | true =>
          rw [hok] at R1 R2
          rw [show selRR true (rfS l2 sp hu l2.length) = rfS l2 sp hu l2.length from rfl] at R1 R2
          have HL := Lib.hid (rf_law l2 sp hu l2.length).2
          have HT := Lib.hid (rf_two l2 sp hu l2.length)
          have HR := rf_le l2 sp hu l2.length
          have HH := Lib.hid fun (i : Nat) (f s g r : Int) (h : l2[i]? = some ⟨f, s, g, r⟩) => (show hotB l2 sp hu i = (decide (sp ≤ s) && decide (r ≤ hu)) by simp only [hotB, h])
          generalize hotB l2 sp hu = hot at *
          generalize rfS l2 sp hu l2.length = R at *
          replace R1 := Lib.hid R1
          replace R2 := Lib.hid R2
          clear hok
          go_wp2_with fail
          refine (R1.out _ hs2s.out).mono ?_
          rintro e w9 ⟨u1, us1, rfl, o1, hb'⟩
          replace hs2s := Lib.hid (hs2s.out.below hb')
          replace hb := Lib.hid (grow_trans hb.out hb')
          have HO1 := Lib.hid o1.sl
          clear o1 hb'
          go_wp2_with fail
          refine (R2.out _ hs2s.out).mono ?_
          rintro e w10 ⟨u2, us2, rfl, o2, hb'⟩
          replace hs2s := Lib.hid (hs2s.out.below hb')
          replace HO1 := Lib.hid (HO1.out.below hb')
          replace hb := Lib.hid (grow_trans hb.out hb')
          have HO2 := Lib.hid o2.sl
          clear o2 hb' R1 R2
          obtain ⟨B1, d1, hB1⟩ := HO1.out.outer.val
          obtain ⟨B2, d2, hB2⟩ := HO2.out.outer.val
          have hn1 := HO1.out.len
          have hn2 := HO2.out.len
          rw [hn1] at hB1
          rw [hn2] at hB2
          subst hB1
          subst hB2
          clear hn1 hn2
          go_wp2_with fail
          refine (rTable_any _ _ us1 us2 R _ HO1.out HO2.out).mono ?_
          rintro e w11 ⟨rfl, hb'⟩
          replace hs2s := Lib.hid (hs2s.out.below hb')
          replace HO1 := Lib.hid (HO1.out.below hb')
          replace HO2 := Lib.hid (HO2.out.below hb')
          replace hb := Lib.hid (grow_trans hb.out hb')
          clear hb'
          clear HO2
          have hs2o := hs2s.out
          have HSa := Lib.hid hs2o
          have HOa := Lib.hid HO1.out
          clear hs2o hs2s HO1
          obtain ⟨wq, rfl⟩ : ∃ wq : World, wq = w11 := ⟨_, rfl⟩
          go_wp2
          go_loopw [28] (fun iv wr => ∃ i : Nat, i ≤ l2.length ∧ iv = .int .i64 i ∧ Hid (Below wq.heap.size wq wr)) (fun iv _ => l2.length - (intOf iv).toNat)
          case atStart => exact ⟨0, Nat.zero_le _, rfl, Below.refl _ _⟩
          case round =>
            obtain ⟨i, hi, rfl, hbq⟩ := hrel
            by_cases hlt : i < l2.length
            case neg =>
              have d0 : decide (i < l2.length) = false := decide_eq_false hlt
              replace hb := Lib.hid (hb.out.trans (hbq.out.mono hb.out.size))
              clear HSa HOa HL HT HR HH hbq
              obtain ⟨w12, rfl⟩ : ∃ wz : World, wz = wr := ⟨_, rfl⟩
              as_aux_lemma =>
                go_wp2_with fail
                refine (D3.out _ hb.out).mono ?_
                rintro e w13 ⟨v3, l3, t3, rfl, hs3, hb'⟩
                replace hb := Lib.hid (grow_trans hb.out hb')
                obtain ⟨A3, c3, rfl⟩ := hs3.1.val
                have hs3s := Lib.hid hs3.1
                clear hs3 hb' D3
                have S1 := fun W h => WindShifts_any (.slice A3 l3.length c3) l3 t3 W h
                have S2 := fun W h => sWindShifts_any (.slice A3 l3.length c3) l3 t3 W h
                unfold RetSel at S1 S2
                generalize selR (foreB l3 && inB t3 1 4) (shO l3 t3 l3.length) = rs3 at *
                generalize (foreB l3 && inB t3 1 4) = ok3 at *
                replace S1 := Lib.hid S1
                replace S2 := Lib.hid S2
                go_wp2_with fail
                refine (S1.out _ hs3s.out).mono ?_
                rintro e w14 ⟨u3, rfl, o3, hb'⟩
                replace hs3s := Lib.hid (hs3s.out.below hb')
                replace hb := Lib.hid (grow_trans hb.out hb')
                obtain ⟨B3, d3, rfl, _⟩ := own_form o3
                have ho3 := Lib.hid o3
                clear o3 hb'
                go_wp2_with fail
                refine (S2.out _ hs3s.out).mono ?_
                rintro e w15 ⟨u4, rfl, o4, hb'⟩
                replace hs3s := Lib.hid (hs3s.out.below hb')
                replace ho3 := Lib.hid (own_below ho3.out hb')
                replace hb := Lib.hid (grow_trans hb.out hb')
                obtain ⟨B4, d4, rfl, _⟩ := own_form o4
                have ho4 := Lib.hid o4
                clear o4 hb' S1 S2 hs3s
                go_wp2_with fail
                refine (rInts_any _ _ rs3 _ (Sl.of_own ho3.out) (Sl.of_own ho4.out)).mono ?_
                rintro e w16 ⟨rfl, hb'⟩
                replace ho3 := Lib.hid (own_below ho3.out hb')
                replace ho4 := Lib.hid (own_below ho4.out hb')
                replace hb := Lib.hid (grow_trans hb.out hb')
                clear hb'
                clear ho3 ho4
                go_wp2_with fail
                refine (D4.out _ hb.out).mono ?_
                rintro e w17 ⟨v4, l4, to, rfl, hs4, hb'⟩
                replace hb := Lib.hid (grow_trans hb.out hb')
                obtain ⟨A4, c4, rfl⟩ := hs4.1.val
                have hs4s := Lib.hid hs4.1
                clear hs4 hb' D4
                obtain ⟨m1, m2, m3, hm⟩ := meanR_shape l4 to
                have M1 := fun W h => MeanPush_any (.slice A4 l4.length c4) l4 to W h
                have M2 := fun W h => sMeanPush_any (.slice A4 l4.length c4) l4 to W h
                rw [hm] at M1 M2
                replace M1 := Lib.hid M1
                replace M2 := Lib.hid M2
                clear hm
                go_wp2_with fail
                refine (M1.out _ hs4s.out).mono ?_
                rintro e w18 ⟨rfl, hb'⟩
                replace hs4s := Lib.hid (hs4s.out.below hb')
                replace hb := Lib.hid (grow_trans hb.out hb')
                clear hb'
                go_wp2_with fail
                refine (M2.out _ hs4s.out).mono ?_
                rintro e w19 ⟨rfl, hb'⟩
                replace hs4s := Lib.hid (hs4s.out.below hb')
                replace hb := Lib.hid (grow_trans hb.out hb')
                clear hb'
                go_wp2
                go_ret
                exact ⟨by simp, hb.out⟩
            case pos =>
              have d0 : decide (i < l2.length) = true := decide_eq_true hlt
              obtain ⟨wp, rfl⟩ : ∃ wp : World, wp = wr := ⟨_, rfl⟩
              go_wp2
              go_loopw [29, 30] (fun bv kv wr => ∃ k : Nat, k ≤ R.length ∧ kv = .int .i64 k ∧ bv = .bool (inSp (R.take k) i) ∧ Hid (Below wq.heap.size wq wr)) (fun _ kv _ => R.length - (intOf kv).toNat)
              case atStart => exact ⟨0, Nat.zero_le _, rfl, by simp [inSp], hbq.out⟩
              case round =>
                clear hbq
                obtain ⟨k, hk, rfl, rfl, hbk⟩ := hrel
                by_cases hlk : k < R.length
                case neg =>
                  obtain rfl : k = R.length := by omega
                  obtain ⟨b, off, f, s, g, r, rfl, hx, c0, c1, c2, c3⟩ := (HSa.out.below hbk.out).wx rfl hlt
                  have hin : inSp (R.take R.length) (i : Int) = (decide (sp ≤ s) && decide (r ≤ hu)) := by
                    rw [List.take_length, HL.out i, decide_eq_true hlt, HH.out i f s g r hx]; rfl
                  have d2 : decide (R.length < R.length) = false := decide_eq_false (by omega)
                  clear hx hlk
                  rw [hin]
                  by_cases hsp : sp ≤ s
                  · by_cases hhu : r ≤ hu
                    · have e1 : decide (sp ≤ s) = true := decide_eq_true hsp
                      have e2 : decide (r ≤ hu) = true := decide_eq_true hhu
                      rw [e1, e2]
                      clear hsp hhu hin
                      go_wp2
                      go_roundw
                      case rel => exact ⟨i + 1, by omega, by go_num, hbk.out⟩
                      case measure => simp [intOf]; omega
                    · have e1 : decide (sp ≤ s) = true := decide_eq_true hsp
                      have e2 : decide (r ≤ hu) = false := decide_eq_false hhu
                      rw [e1, e2]
                      clear hsp hhu hin
                      go_wp2
                      go_roundw
                      case rel => exact ⟨i + 1, by omega, by go_num, hbk.out⟩
                      case measure => simp [intOf]; omega
                  · have e1 : decide (sp ≤ s) = false := decide_eq_false hsp
                    rw [e1, Bool.false_and]
                    clear hsp hin
                    go_wp2
                    go_roundw
                    case rel => exact ⟨i + 1, by omega, by go_num, hbk.out⟩
                    case measure => simp [intOf]; omega
                case pos =>
                  obtain ⟨q, hq⟩ : ∃ q, R[k]? = some q := ⟨_, List.getElem?_eq_getElem hlk⟩
                  obtain ⟨a, b, rfl⟩ := HT.out q (List.mem_of_getElem? hq)
                  have hst := Lib.hid (in_step hq (i : Int))
                  have d2 : decide (k < R.length) = true := decide_eq_true hlk
                  cases hin : inSp (R.take k) (i : Int) with
                  | true =>
                    rw [hin] at hst
                    clear hin hq
                    go_wp2
                    go_roundw
                    case rel => exact ⟨k + 1, by omega, by go_num, by rw [hst.out]; simp, hbk.out⟩
                    case measure => simp [intOf]; omega
                  | false =>
                    rw [hin] at hst
                    have hO := HOa.out.below hbk.out
                    obtain ⟨b1, o1, z, hA, hz, hcell⟩ := (show Sl wr 1 (.slice B1 R.length d1) R.length (us1.map id) from by have := hO.outer; rwa [hO.len] at this).at1 (by rw [hO.len]) hlk
                    simp only [id] at hcell
                    have hrow := hO.row k z [a, b] hz hq
                    obtain ⟨Az, cz, rfl⟩ := hrow.val
                    obtain ⟨b2, o2, x0, hA2, hx0, hc0⟩ := hrow.at1 (i := 0) rfl (by simp)
                    obtain ⟨b3, o3, x1, hA3, hx1, hc1⟩ := hrow.at1 (i := 1) rfl (by simp)
                    subst hA
                    subst hA2
                    injection hA3 with hA3
                    injection hA3 with hA3 hA4
                    subst hA3 hA4
                    simp at hx0 hx1
                    subst hx0 hx1
                    simp only [Nat.add_zero] at hc0
                    clear hO hrow hz hq hin
                    by_cases ha : a ≤ (i : Int)
                    · have e1 : decide (a ≤ (i : Int)) = true := decide_eq_true ha
                      by_cases hbb : (i : Int) ≤ b
                      · have e2 : decide ((i : Int) ≤ b) = true := decide_eq_true hbb
                        go_wp2
                        go_roundw
                        case rel => exact ⟨k + 1, by omega, by go_num, by rw [hst.out, e1, e2]; rfl, hbk.out⟩
                        case measure => simp [intOf]; omega
                      · have e2 : decide ((i : Int) ≤ b) = false := decide_eq_false hbb
                        go_wp2
                        go_roundw
                        case rel => exact ⟨k + 1, by omega, by go_num, by rw [hst.out, e1, e2]; rfl, hbk.out⟩
                        case measure => simp [intOf]; omega
                    · have e1 : decide (a ≤ (i : Int)) = false := decide_eq_false ha
                      go_wp2
                      go_roundw
                      case rel => exact ⟨k + 1, by omega, by go_num, by rw [hst.out, e1]; rfl, hbk.out⟩
                      case measure => simp [intOf]; omega
    · skip
      have d0 : decide (0 < l1.length) = false := decide_eq_false (by omega)
      clear hd0
      as_aux_lemma =>
        go_wp2_with fail
        refine (D2.out _ hb.out).mono ?_
        rintro e w8 ⟨v2, l2, sp, hu, rfl, hs2, hb'⟩
        replace hb := Lib.hid (grow_trans hb.out hb')
        obtain ⟨A2, c2, rfl⟩ := hs2.1.val
        have hl2 := hs2.2
        have hs2s := Lib.hid hs2.1
        clear hs2 hb' D2
        have R1 := fun W h => RedFlagHours_any (.slice A2 l2.length c2) l2 sp hu W h
        have R2 := fun W h => sRedFlagHours_any (.slice A2 l2.length c2) l2 sp hu W h
        unfold RetRR at R1
        unfold RetRW at R2
        cases hok : (foreB l2 && inB sp 0 120 && inB hu 0 100) with
        | false =>
          rw [hok] at R1 R2
          rw [show selRR false (rfS l2 sp hu l2.length) = [] from rfl] at R1 R2
          replace R1 := Lib.hid R1
          replace R2 := Lib.hid R2
          clear hok
          go_wp2_with fail
          refine (R1.out _ hs2s.out).mono ?_
          rintro e w9 ⟨u1, us1, rfl, o1, hb'⟩
          replace hs2s := Lib.hid (hs2s.out.below hb')
          replace hb := Lib.hid (grow_trans hb.out hb')
          have HO1 := Lib.hid o1.sl
          clear o1 hb'
          go_wp2_with fail
          refine (R2.out _ hs2s.out).mono ?_
          rintro e w10 ⟨u2, us2, rfl, o2, hb'⟩
          replace hs2s := Lib.hid (hs2s.out.below hb')
          replace HO1 := Lib.hid (HO1.out.below hb')
          replace hb := Lib.hid (grow_trans hb.out hb')
          have HO2 := Lib.hid o2.sl
          clear o2 hb' R1 R2
          obtain ⟨B1, d1, hB1⟩ := HO1.out.outer.val
          obtain ⟨B2, d2, hB2⟩ := HO2.out.outer.val
          have hn1 := HO1.out.len
          have hn2 := HO2.out.len
          rw [hn1] at hB1
          rw [hn2] at hB2
          subst hB1
          subst hB2
          clear hn1 hn2
          go_wp2_with fail
          refine (rTable_any _ _ us1 us2 ([] : List (List Int)) _ HO1.out HO2.out).mono ?_
          rintro e w11 ⟨rfl, hb'⟩
          replace hs2s := Lib.hid (hs2s.out.below hb')
          replace HO1 := Lib.hid (HO1.out.below hb')
          replace HO2 := Lib.hid (HO2.out.below hb')
          replace hb := Lib.hid (grow_trans hb.out hb')
          clear hb'
          clear HO2
          clear HO1
          have hlz : Hid (Sl _ 4 _ _ _) := hs2s
          go_wp2
          refine wp_loop_rounds 1 ?_
          rw [rounds_succ]
          clear hlz hs2s
          by_cases hd0 : 0 < l2.length
          · skip
            have d0 : decide (0 < l2.length) = true := decide_eq_true (by omega)
            clear hd0
            as_aux_lemma =>
              go_wp2_with fail
              refine (D3.out _ hb.out).mono ?_
              rintro e w12 ⟨v3, l3, t3, rfl, hs3, hb'⟩
              replace hb := Lib.hid (grow_trans hb.out hb')
              obtain ⟨A3, c3, rfl⟩ := hs3.1.val
              have hs3s := Lib.hid hs3.1
              clear hs3 hb' D3
              have S1 := fun W h => WindShifts_any (.slice A3 l3.length c3) l3 t3 W h
              have S2 := fun W h => sWindShifts_any (.slice A3 l3.length c3) l3 t3 W h
              unfold RetSel at S1 S2
              generalize selR (foreB l3 && inB t3 1 4) (shO l3 t3 l3.length) = rs3 at *
              generalize (foreB l3 && inB t3 1 4) = ok3 at *
              replace S1 := Lib.hid S1
              replace S2 := Lib.hid S2
              go_wp2_with fail
              refine (S1.out _ hs3s.out).mono ?_
              rintro e w13 ⟨u3, rfl, o3, hb'⟩
              replace hs3s := Lib.hid (hs3s.out.below hb')
              replace hb := Lib.hid (grow_trans hb.out hb')
              obtain ⟨B3, d3, rfl, _⟩ := own_form o3
              have ho3 := Lib.hid o3
              clear o3 hb'
              go_wp2_with fail
              refine (S2.out _ hs3s.out).mono ?_
              rintro e w14 ⟨u4, rfl, o4, hb'⟩
              replace hs3s := Lib.hid (hs3s.out.below hb')
              replace ho3 := Lib.hid (own_below ho3.out hb')
              replace hb := Lib.hid (grow_trans hb.out hb')
              obtain ⟨B4, d4, rfl, _⟩ := own_form o4
              have ho4 := Lib.hid o4
              clear o4 hb' S1 S2 hs3s
              go_wp2_with fail
              refine (rInts_any _ _ rs3 _ (Sl.of_own ho3.out) (Sl.of_own ho4.out)).mono ?_
              rintro e w15 ⟨rfl, hb'⟩
              replace ho3 := Lib.hid (own_below ho3.out hb')
              replace ho4 := Lib.hid (own_below ho4.out hb')
              replace hb := Lib.hid (grow_trans hb.out hb')
              clear hb'
              clear ho3 ho4
              go_wp2_with fail
              refine (D4.out _ hb.out).mono ?_
              rintro e w16 ⟨v4, l4, to, rfl, hs4, hb'⟩
              replace hb := Lib.hid (grow_trans hb.out hb')
              obtain ⟨A4, c4, rfl⟩ := hs4.1.val
              have hs4s := Lib.hid hs4.1
              clear hs4 hb' D4
              obtain ⟨m1, m2, m3, hm⟩ := meanR_shape l4 to
              have M1 := fun W h => MeanPush_any (.slice A4 l4.length c4) l4 to W h
              have M2 := fun W h => sMeanPush_any (.slice A4 l4.length c4) l4 to W h
              rw [hm] at M1 M2
              replace M1 := Lib.hid M1
              replace M2 := Lib.hid M2
              clear hm
              go_wp2_with fail
              refine (M1.out _ hs4s.out).mono ?_
              rintro e w17 ⟨rfl, hb'⟩
              replace hs4s := Lib.hid (hs4s.out.below hb')
              replace hb := Lib.hid (grow_trans hb.out hb')
              clear hb'
              go_wp2_with fail
              refine (M2.out _ hs4s.out).mono ?_
              rintro e w18 ⟨rfl, hb'⟩
              replace hs4s := Lib.hid (hs4s.out.below hb')
              replace hb := Lib.hid (grow_trans hb.out hb')
              clear hb'
              go_wp2
              go_ret
              exact ⟨by simp, hb.out⟩
          · skip
            have d0 : decide (0 < l2.length) = false := decide_eq_false (by omega)
            clear hd0
            as_aux_lemma =>
              go_wp2_with fail
              refine (D3.out _ hb.out).mono ?_
              rintro e w12 ⟨v3, l3, t3, rfl, hs3, hb'⟩
              replace hb := Lib.hid (grow_trans hb.out hb')
              obtain ⟨A3, c3, rfl⟩ := hs3.1.val
              have hs3s := Lib.hid hs3.1
              clear hs3 hb' D3
              have S1 := fun W h => WindShifts_any (.slice A3 l3.length c3) l3 t3 W h
              have S2 := fun W h => sWindShifts_any (.slice A3 l3.length c3) l3 t3 W h
              unfold RetSel at S1 S2
              generalize selR (foreB l3 && inB t3 1 4) (shO l3 t3 l3.length) = rs3 at *
              generalize (foreB l3 && inB t3 1 4) = ok3 at *
              replace S1 := Lib.hid S1
              replace S2 := Lib.hid S2
              go_wp2_with fail
              refine (S1.out _ hs3s.out).mono ?_
              rintro e w13 ⟨u3, rfl, o3, hb'⟩
              replace hs3s := Lib.hid (hs3s.out.below hb')
              replace hb := Lib.hid (grow_trans hb.out hb')
              obtain ⟨B3, d3, rfl, _⟩ := own_form o3
              have ho3 := Lib.hid o3
              clear o3 hb'
              go_wp2_with fail
              refine (S2.out _ hs3s.out).mono ?_
              rintro e w14 ⟨u4, rfl, o4, hb'⟩
              replace hs3s := Lib.hid (hs3s.out.below hb')
              replace ho3 := Lib.hid (own_below ho3.out hb')
              replace hb := Lib.hid (grow_trans hb.out hb')
              obtain ⟨B4, d4, rfl, _⟩ := own_form o4
              have ho4 := Lib.hid o4
              clear o4 hb' S1 S2 hs3s
              go_wp2_with fail
              refine (rInts_any _ _ rs3 _ (Sl.of_own ho3.out) (Sl.of_own ho4.out)).mono ?_
              rintro e w15 ⟨rfl, hb'⟩
              replace ho3 := Lib.hid (own_below ho3.out hb')
              replace ho4 := Lib.hid (own_below ho4.out hb')
              replace hb := Lib.hid (grow_trans hb.out hb')
              clear hb'
              clear ho3 ho4
              go_wp2_with fail
              refine (D4.out _ hb.out).mono ?_
              rintro e w16 ⟨v4, l4, to, rfl, hs4, hb'⟩
              replace hb := Lib.hid (grow_trans hb.out hb')
              obtain ⟨A4, c4, rfl⟩ := hs4.1.val
              have hs4s := Lib.hid hs4.1
              clear hs4 hb' D4
              obtain ⟨m1, m2, m3, hm⟩ := meanR_shape l4 to
              have M1 := fun W h => MeanPush_any (.slice A4 l4.length c4) l4 to W h
              have M2 := fun W h => sMeanPush_any (.slice A4 l4.length c4) l4 to W h
              rw [hm] at M1 M2
              replace M1 := Lib.hid M1
              replace M2 := Lib.hid M2
              clear hm
              go_wp2_with fail
              refine (M1.out _ hs4s.out).mono ?_
              rintro e w17 ⟨rfl, hb'⟩
              replace hs4s := Lib.hid (hs4s.out.below hb')
              replace hb := Lib.hid (grow_trans hb.out hb')
              clear hb'
              go_wp2_with fail
              refine (M2.out _ hs4s.out).mono ?_
              rintro e w18 ⟨rfl, hb'⟩
              replace hs4s := Lib.hid (hs4s.out.below hb')
              replace hb := Lib.hid (grow_trans hb.out hb')
              clear hb'
              go_wp2
              go_ret
              exact ⟨by simp, hb.out⟩
        | true =>
          rw [hok] at R1 R2
          rw [show selRR true (rfS l2 sp hu l2.length) = rfS l2 sp hu l2.length from rfl] at R1 R2
          have HL := Lib.hid (rf_law l2 sp hu l2.length).2
          have HT := Lib.hid (rf_two l2 sp hu l2.length)
          have HR := rf_le l2 sp hu l2.length
          have HH := Lib.hid fun (i : Nat) (f s g r : Int) (h : l2[i]? = some ⟨f, s, g, r⟩) => (show hotB l2 sp hu i = (decide (sp ≤ s) && decide (r ≤ hu)) by simp only [hotB, h])
          generalize hotB l2 sp hu = hot at *
          generalize rfS l2 sp hu l2.length = R at *
          replace R1 := Lib.hid R1
          replace R2 := Lib.hid R2
          clear hok
          go_wp2_with fail
          refine (R1.out _ hs2s.out).mono ?_
          rintro e w9 ⟨u1, us1, rfl, o1, hb'⟩
          replace hs2s := Lib.hid (hs2s.out.below hb')
          replace hb := Lib.hid (grow_trans hb.out hb')
          have HO1 := Lib.hid o1.sl
          clear o1 hb'
          go_wp2_with fail
          refine (R2.out _ hs2s.out).mono ?_
          rintro e w10 ⟨u2, us2, rfl, o2, hb'⟩
          replace hs2s := Lib.hid (hs2s.out.below hb')
          replace HO1 := Lib.hid (HO1.out.below hb')
          replace hb := Lib.hid (grow_trans hb.out hb')
          have HO2 := Lib.hid o2.sl
          clear o2 hb' R1 R2
          obtain ⟨B1, d1, hB1⟩ := HO1.out.outer.val
          obtain ⟨B2, d2, hB2⟩ := HO2.out.outer.val
          have hn1 := HO1.out.len
          have hn2 := HO2.out.len
          rw [hn1] at hB1
          rw [hn2] at hB2
          subst hB1
          subst hB2
          clear hn1 hn2
          go_wp2_with fail
          refine (rTable_any _ _ us1 us2 R _ HO1.out HO2.out).mono ?_
          rintro e w11 ⟨rfl, hb'⟩
          replace hs2s := Lib.hid (hs2s.out.below hb')
          replace HO1 := Lib.hid (HO1.out.below hb')
          replace HO2 := Lib.hid (HO2.out.below hb')
          replace hb := Lib.hid (grow_trans hb.out hb')
          clear hb'
          clear HO2
          have hs2o := hs2s.out
          have HSa := Lib.hid hs2o
          have HOa := Lib.hid HO1.out
          clear hs2o hs2s HO1
          obtain ⟨wq, rfl⟩ : ∃ wq : World, wq = w11 := ⟨_, rfl⟩
          go_wp2
          go_loopw [28] (fun iv wr => ∃ i : Nat, i ≤ l2.length ∧ iv = .int .i64 i ∧ Hid (Below wq.heap.size wq wr)) (fun iv _ => l2.length - (intOf iv).toNat)
          case atStart => exact ⟨0, Nat.zero_le _, rfl, Below.refl _ _⟩
          case round =>
            obtain ⟨i, hi, rfl, hbq⟩ := hrel
            by_cases hlt : i < l2.length
            case neg =>
              have d0 : decide (i < l2.length) = false := decide_eq_false hlt
              replace hb := Lib.hid (hb.out.trans (hbq.out.mono hb.out.size))
              clear HSa HOa HL HT HR HH hbq
              obtain ⟨w12, rfl⟩ : ∃ wz : World, wz = wr := ⟨_, rfl⟩
              as_aux_lemma =>
                go_wp2_with fail
                refine (D3.out _ hb.out).mono ?_
                rintro e w13 ⟨v3, l3, t3, rfl, hs3, hb'⟩
                replace hb := Lib.hid (grow_trans hb.out hb')
                obtain ⟨A3, c3, rfl⟩ := hs3.1.val
                have hs3s := Lib.hid hs3.1
                clear hs3 hb' D3
                have S1 := fun W h => WindShifts_any (.slice A3 l3.length c3) l3 t3 W h
                have S2 := fun W h => sWindShifts_any (.slice A3 l3.length c3) l3 t3 W h
                unfold RetSel at S1 S2
                generalize selR (foreB l3 && inB t3 1 4) (shO l3 t3 l3.length) = rs3 at *
                generalize (foreB l3 && inB t3 1 4) = ok3 at *
                replace S1 := Lib.hid S1
                replace S2 := Lib.hid S2
                go_wp2_with fail
                refine (S1.out _ hs3s.out).mono ?_
                rintro e w14 ⟨u3, rfl, o3, hb'⟩
                replace hs3s := Lib.hid (hs3s.out.below hb')
                replace hb := Lib.hid (grow_trans hb.out hb')
                obtain ⟨B3, d3, rfl, _⟩ := own_form o3
                have ho3 := Lib.hid o3
                clear o3 hb'
                go_wp2_with fail
                refine (S2.out _ hs3s.out).mono ?_
                rintro e w15 ⟨u4, rfl, o4, hb'⟩
                replace hs3s := Lib.hid (hs3s.out.below hb')
                replace ho3 := Lib.hid (own_below ho3.out hb')
                replace hb := Lib.hid (grow_trans hb.out hb')
                obtain ⟨B4, d4, rfl, _⟩ := own_form o4
                have ho4 := Lib.hid o4
                clear o4 hb' S1 S2 hs3s
                go_wp2_with fail
                refine (rInts_any _ _ rs3 _ (Sl.of_own ho3.out) (Sl.of_own ho4.out)).mono ?_
                rintro e w16 ⟨rfl, hb'⟩
                replace ho3 := Lib.hid (own_below ho3.out hb')
                replace ho4 := Lib.hid (own_below ho4.out hb')
                replace hb := Lib.hid (grow_trans hb.out hb')
                clear hb'
                clear ho3 ho4
                go_wp2_with fail
                refine (D4.out _ hb.out).mono ?_
                rintro e w17 ⟨v4, l4, to, rfl, hs4, hb'⟩
                replace hb := Lib.hid (grow_trans hb.out hb')
                obtain ⟨A4, c4, rfl⟩ := hs4.1.val
                have hs4s := Lib.hid hs4.1
                clear hs4 hb' D4
                obtain ⟨m1, m2, m3, hm⟩ := meanR_shape l4 to
                have M1 := fun W h => MeanPush_any (.slice A4 l4.length c4) l4 to W h
                have M2 := fun W h => sMeanPush_any (.slice A4 l4.length c4) l4 to W h
                rw [hm] at M1 M2
                replace M1 := Lib.hid M1
                replace M2 := Lib.hid M2
                clear hm
                go_wp2_with fail
                refine (M1.out _ hs4s.out).mono ?_
                rintro e w18 ⟨rfl, hb'⟩
                replace hs4s := Lib.hid (hs4s.out.below hb')
                replace hb := Lib.hid (grow_trans hb.out hb')
                clear hb'
                go_wp2_with fail
                refine (M2.out _ hs4s.out).mono ?_
                rintro e w19 ⟨rfl, hb'⟩
                replace hs4s := Lib.hid (hs4s.out.below hb')
                replace hb := Lib.hid (grow_trans hb.out hb')
                clear hb'
                go_wp2
                go_ret
                exact ⟨by simp, hb.out⟩
            case pos =>
              have d0 : decide (i < l2.length) = true := decide_eq_true hlt
              obtain ⟨wp, rfl⟩ : ∃ wp : World, wp = wr := ⟨_, rfl⟩
              go_wp2
              go_loopw [29, 30] (fun bv kv wr => ∃ k : Nat, k ≤ R.length ∧ kv = .int .i64 k ∧ bv = .bool (inSp (R.take k) i) ∧ Hid (Below wq.heap.size wq wr)) (fun _ kv _ => R.length - (intOf kv).toNat)
              case atStart => exact ⟨0, Nat.zero_le _, rfl, by simp [inSp], hbq.out⟩
              case round =>
                clear hbq
                obtain ⟨k, hk, rfl, rfl, hbk⟩ := hrel
                by_cases hlk : k < R.length
                case neg =>
                  obtain rfl : k = R.length := by omega
                  obtain ⟨b, off, f, s, g, r, rfl, hx, c0, c1, c2, c3⟩ := (HSa.out.below hbk.out).wx rfl hlt
                  have hin : inSp (R.take R.length) (i : Int) = (decide (sp ≤ s) && decide (r ≤ hu)) := by
                    rw [List.take_length, HL.out i, decide_eq_true hlt, HH.out i f s g r hx]; rfl
                  have d2 : decide (R.length < R.length) = false := decide_eq_false (by omega)
                  clear hx hlk
                  rw [hin]
                  by_cases hsp : sp ≤ s
                  · by_cases hhu : r ≤ hu
                    · have e1 : decide (sp ≤ s) = true := decide_eq_true hsp
                      have e2 : decide (r ≤ hu) = true := decide_eq_true hhu
                      rw [e1, e2]
                      clear hsp hhu hin
                      go_wp2
                      go_roundw
                      case rel => exact ⟨i + 1, by omega, by go_num, hbk.out⟩
                      case measure => simp [intOf]; omega
                    · have e1 : decide (sp ≤ s) = true := decide_eq_true hsp
                      have e2 : decide (r ≤ hu) = false := decide_eq_false hhu
                      rw [e1, e2]
                      clear hsp hhu hin
                      go_wp2
                      go_roundw
                      case rel => exact ⟨i + 1, by omega, by go_num, hbk.out⟩
                      case measure => simp [intOf]; omega
                  · have e1 : decide (sp ≤ s) = false := decide_eq_false hsp
                    rw [e1, Bool.false_and]
                    clear hsp hin
                    go_wp2
                    go_roundw
                    case rel => exact ⟨i + 1, by omega, by go_num, hbk.out⟩
                    case measure => simp [intOf]; omega
                case pos =>
                  obtain ⟨q, hq⟩ : ∃ q, R[k]? = some q := ⟨_, List.getElem?_eq_getElem hlk⟩
                  obtain ⟨a, b, rfl⟩ := HT.out q (List.mem_of_getElem? hq)
                  have hst := Lib.hid (in_step hq (i : Int))
                  have d2 : decide (k < R.length) = true := decide_eq_true hlk
                  cases hin : inSp (R.take k) (i : Int) with
                  | true =>
                    rw [hin] at hst
                    clear hin hq
                    go_wp2
                    go_roundw
                    case rel => exact ⟨k + 1, by omega, by go_num, by rw [hst.out]; simp, hbk.out⟩
                    case measure => simp [intOf]; omega
                  | false =>
                    rw [hin] at hst
                    have hO := HOa.out.below hbk.out
                    obtain ⟨b1, o1, z, hA, hz, hcell⟩ := (show Sl wr 1 (.slice B1 R.length d1) R.length (us1.map id) from by have := hO.outer; rwa [hO.len] at this).at1 (by rw [hO.len]) hlk
                    simp only [id] at hcell
                    have hrow := hO.row k z [a, b] hz hq
                    obtain ⟨Az, cz, rfl⟩ := hrow.val
                    obtain ⟨b2, o2, x0, hA2, hx0, hc0⟩ := hrow.at1 (i := 0) rfl (by simp)
                    obtain ⟨b3, o3, x1, hA3, hx1, hc1⟩ := hrow.at1 (i := 1) rfl (by simp)
                    subst hA
                    subst hA2
                    injection hA3 with hA3
                    injection hA3 with hA3 hA4
                    subst hA3 hA4
                    simp at hx0 hx1
                    subst hx0 hx1
                    simp only [Nat.add_zero] at hc0
                    clear hO hrow hz hq hin
                    by_cases ha : a ≤ (i : Int)
                    · have e1 : decide (a ≤ (i : Int)) = true := decide_eq_true ha
                      by_cases hbb : (i : Int) ≤ b
                      · have e2 : decide ((i : Int) ≤ b) = true := decide_eq_true hbb
                        go_wp2
                        go_roundw
                        case rel => exact ⟨k + 1, by omega, by go_num, by rw [hst.out, e1, e2]; rfl, hbk.out⟩
                        case measure => simp [intOf]; omega
                      · have e2 : decide ((i : Int) ≤ b) = false := decide_eq_false hbb
                        go_wp2
                        go_roundw
                        case rel => exact ⟨k + 1, by omega, by go_num, by rw [hst.out, e1, e2]; rfl, hbk.out⟩
                        case measure => simp [intOf]; omega
                    · have e1 : decide (a ≤ (i : Int)) = false := decide_eq_false ha
                      go_wp2
                      go_roundw
                      case rel => exact ⟨k + 1, by omega, by go_num, by rw [hst.out, e1]; rfl, hbk.out⟩
                      case measure => simp [intOf]; omega
  | true =>
    have HM := fun (t : Nat) (ht : t ≤ 7) => mean_facts hF t ht
    have HMC := Lib.hid fun (t : Nat) W h => MeanPush_any (.slice A1 l1.length c1) l1 t W h
    obtain ⟨hn1, hn2⟩ := fore_len hF
    have HG := Lib.hid fun i (h : i < l1.length) => gust_max l1 l1.length i h
    have HGA := Lib.hid fun (i : Nat) (f s g r : Int) (h : l1[i]? = some ⟨f, s, g, r⟩) => gustN_at h
    have hbd := psum_bd (to := ((wst l1 : Nat) : Int)) hF l1.length
    have hwle := wst_le l1
    have hbl := bestN_lt l1 l1.length (by omega)
    simp only [hF, show ∀ p q, twoR true p q = .tuple #[.int .i64 p, .int .i64 q, .bool true] from fun _ _ => rfl] at P1 P2 P3 P4 P5
    change ∀ W h, Calls _ _ _ _ (fun e w' => e = .returned (.tuple #[.int .i64 ((wst l1 : Nat) : Int), .int .i64 (psum l1 ((wst l1 : Nat) : Int) l1.length), .bool true]) ∧ _) at P1 P2
    generalize psum l1 ((wst l1 : Nat) : Int) l1.length = SM at *
    generalize wst l1 = TO at *
    generalize bestN l1 l1.length = HO at *
    have HGG := Lib.hid (show gustN l1 HO = gustN l1 HO from rfl)
    obtain ⟨GU, hGU⟩ : ∃ G, gustN l1 HO = G := ⟨_, rfl⟩
    rw [hGU] at P4 P5 HG
    replace HM := Lib.hid HM
    have hGU := Lib.hid hGU
    clear HGG
    replace P1 := Lib.hid P1
    replace P2 := Lib.hid P2
    replace P3 := Lib.hid P3
    replace P4 := Lib.hid P4
    replace P5 := Lib.hid P5
    go_wp2_with fail
    refine (P1.out _ hs1s.out).mono ?_
    rintro e w3 ⟨rfl, hb'⟩
    replace hs1s := Lib.hid (hs1s.out.below hb')
    replace hb := Lib.hid (grow_trans hb.out hb')
    clear hb'
    go_wp2_with fail
    refine (P2.out _ hs1s.out).mono ?_
    rintro e w4 ⟨rfl, hb'⟩
    replace hs1s := Lib.hid (hs1s.out.below hb')
    replace hb := Lib.hid (grow_trans hb.out hb')
    clear hb'
    go_wp2_with fail
    refine (P3.out _ hs1s.out).mono ?_
    rintro e w5 ⟨rfl, hb'⟩
    replace hs1s := Lib.hid (hs1s.out.below hb')
    replace hb := Lib.hid (grow_trans hb.out hb')
    clear hb'
    have HSa := Lib.hid hs1s.out
    clear hs1s P1 P2 P3
    obtain ⟨wq, rfl⟩ : ∃ wq : World, wq = w5 := ⟨_, rfl⟩
    go_wp2
    go_loopw [10] (fun iv wr => ∃ t : Nat, t ≤ 8 ∧ iv = .int .i64 t ∧ Hid (Below wq.heap.size wq wr)) (fun iv _ => 8 - (intOf iv).toNat)
    case atStart => exact ⟨0, by omega, rfl, Below.refl _ _⟩
    case round =>
      obtain ⟨t, ht8, rfl, hbq⟩ := hrel
      by_cases hlt : t < 8
      case pos =>
        have d0 : decide (t ≤ 7) = true := decide_eq_true (by omega)
        have d0' : decide ((t : Int) ≤ 7) = true := decide_eq_true (by omega)
        obtain ⟨a, d, hm, hle, heq, ⟨a0, a1⟩, ⟨dd0, dd1⟩⟩ := HM.out t (by omega)
        have hC := HMC.out t wr (HSa.out.below hbq.out)
        rw [hm] at hC
        replace hC := Lib.hid hC
        have hA1 := mul_bd a0 a1 (show (0 : Int) ≤ (l1.length : Int) by omega) (show (l1.length : Int) ≤ 24 by omega)
        have hA2 := mul_bd2 (show -300000 ≤ SM by omega) (show SM ≤ 300000 by omega) dd0 dd1
        obtain ⟨X, hX⟩ : ∃ X, a * (l1.length : Int) = X := ⟨_, rfl⟩
        obtain ⟨Y, hY⟩ : ∃ Y, SM * d = Y := ⟨_, rfl⟩
        rw [hX] at hle heq hA1
        rw [hY] at hle heq hA2
        have x1 : IntKind.i64.wrap X = X := IntWalk.i64_in _ (by omega)
        have y1 : IntKind.i64.wrap Y = Y := IntWalk.i64_in _ (by omega)
        have g1 : decide (Y < X) = false := decide_eq_false (by omega)
        by_cases hto : t = TO
        · subst hto
          have hxy := heq rfl
          subst hxy
          clear hm hle heq hA1 hA2
          go_wp2_with fail
          refine hC.out.mono ?_
          rintro e we ⟨rfl, hb'⟩
          have hbz := Lib.hid (grow_trans hbq.out hb')
          clear hb' hC hbq
          go_wp2
          go_roundw
          case rel => exact ⟨t + 1, by omega, by go_num, hbz.out⟩
          case measure => simp [intOf]; omega
        · have e1 : (t == TO) = false := by simpa using hto
          have e2 : ((t : Int) == (TO : Int)) = false := by simpa using (show (t : Int) ≠ (TO : Int) by omega)
          clear hm hle heq hA1 hA2
          go_wp2_with fail
          refine hC.out.mono ?_
          rintro e we ⟨rfl, hb'⟩
          have hbz := Lib.hid (grow_trans hbq.out hb')
          clear hb' hC hbq
          go_wp2
          go_roundw
          case rel => exact ⟨t + 1, by omega, by go_num, hbz.out⟩
          case measure => simp [intOf]; omega
      case neg =>
        have d0 : decide (t ≤ 7) = false := decide_eq_false (by omega)
        have d0' : decide ((t : Int) ≤ 7) = false := decide_eq_false (by omega)
        have hs1s := Lib.hid (HSa.out.below hbq.out)
        replace hb := Lib.hid (hb.out.trans (hbq.out.mono hb.out.size))
        clear hbq HM HMC HSa
        obtain ⟨w6, rfl⟩ : ∃ wz : World, wz = wr := ⟨_, rfl⟩
        go_wp2_with fail
        refine (P4.out _ hs1s.out).mono ?_
        rintro e w7 ⟨rfl, hb'⟩
        replace hs1s := Lib.hid (hs1s.out.below hb')
        replace hb := Lib.hid (grow_trans hb.out hb')
        clear hb'
        go_wp2_with fail
        refine (P5.out _ hs1s.out).mono ?_
        rintro e w8 ⟨rfl, hb'⟩
        replace hs1s := Lib.hid (hs1s.out.below hb')
        replace hb := Lib.hid (grow_trans hb.out hb')
        clear hb'
        have HSa := Lib.hid hs1s.out
        clear hs1s P4 P5 hlt ht8
        obtain ⟨wp, rfl⟩ : ∃ wp : World, wp = w8 := ⟨_, rfl⟩
        go_wp2
        go_loopw [20] (fun iv wr => ∃ i : Nat, i ≤ l1.length ∧ iv = .int .i64 i ∧ Hid (Below wp.heap.size wp wr)) (fun iv _ => l1.length - (intOf iv).toNat)
        case atStart => exact ⟨0, Nat.zero_le _, rfl, Below.refl _ _⟩
        case round =>
          obtain ⟨i, hi, rfl, hbq⟩ := hrel
          by_cases hlt : i < l1.length
          case pos =>
            have d2 : decide (i < l1.length) = true := decide_eq_true hlt
            obtain ⟨b, off, f, s, g, r, rfl, hx, c0, c1, c2, c3⟩ := (HSa.out.below hbq.out).wx rfl hlt
            have hg1 := HG.out i hlt
            rw [HGA.out i f s g r hx] at hg1
            have g1 : decide (GU < g) = false := decide_eq_false (by omega)
            by_cases hto : i = HO
            · subst hto
              obtain rfl : g = GU := by rw [← hGU.out, HGA.out i f s g r hx]
              clear hx hg1
              go_wp2
              go_roundw
              case rel => exact ⟨i + 1, by omega, by go_num, hbq.out⟩
              case measure => simp [intOf]; omega
            · have e1 : (i == HO) = false := by simpa using hto
              have e2 : ((i : Int) == (HO : Int)) = false := by simpa using (show (i : Int) ≠ (HO : Int) by omega)
              clear hx hg1
              go_wp2
              go_roundw
              case rel => exact ⟨i + 1, by omega, by go_num, hbq.out⟩
              case measure => simp [intOf]; omega
          case neg =>
            have d2 : decide (i < l1.length) = false := decide_eq_false hlt
            replace hb := Lib.hid (hb.out.trans (hbq.out.mono hb.out.size))
            clear hbq HG HGA HSa hGU
            obtain ⟨w9, rfl⟩ : ∃ wz : World, wz = wr := ⟨_, rfl⟩
            as_aux_lemma =>
              go_wp2_with fail
              refine (D2.out _ hb.out).mono ?_
              rintro e w10 ⟨v2, l2, sp, hu, rfl, hs2, hb'⟩
              replace hb := Lib.hid (grow_trans hb.out hb')
              obtain ⟨A2, c2, rfl⟩ := hs2.1.val
              have hl2 := hs2.2
              have hs2s := Lib.hid hs2.1
              clear hs2 hb' D2
              have R1 := fun W h => RedFlagHours_any (.slice A2 l2.length c2) l2 sp hu W h
              have R2 := fun W h => sRedFlagHours_any (.slice A2 l2.length c2) l2 sp hu W h
              unfold RetRR at R1
              unfold RetRW at R2
              cases hok : (foreB l2 && inB sp 0 120 && inB hu 0 100) with
              | false =>
                rw [hok] at R1 R2
                rw [show selRR false (rfS l2 sp hu l2.length) = [] from rfl] at R1 R2
                replace R1 := Lib.hid R1
                replace R2 := Lib.hid R2
                clear hok
                go_wp2_with fail
                refine (R1.out _ hs2s.out).mono ?_
                rintro e w11 ⟨u1, us1, rfl, o1, hb'⟩
                replace hs2s := Lib.hid (hs2s.out.below hb')
                replace hb := Lib.hid (grow_trans hb.out hb')
                have HO1 := Lib.hid o1.sl
                clear o1 hb'
                go_wp2_with fail
                refine (R2.out _ hs2s.out).mono ?_
                rintro e w12 ⟨u2, us2, rfl, o2, hb'⟩
                replace hs2s := Lib.hid (hs2s.out.below hb')
                replace HO1 := Lib.hid (HO1.out.below hb')
                replace hb := Lib.hid (grow_trans hb.out hb')
                have HO2 := Lib.hid o2.sl
                clear o2 hb' R1 R2
                obtain ⟨B1, d1, hB1⟩ := HO1.out.outer.val
                obtain ⟨B2, d2, hB2⟩ := HO2.out.outer.val
                have hn1 := HO1.out.len
                have hn2 := HO2.out.len
                rw [hn1] at hB1
                rw [hn2] at hB2
                subst hB1
                subst hB2
                clear hn1 hn2
                go_wp2_with fail
                refine (rTable_any _ _ us1 us2 ([] : List (List Int)) _ HO1.out HO2.out).mono ?_
                rintro e w13 ⟨rfl, hb'⟩
                replace hs2s := Lib.hid (hs2s.out.below hb')
                replace HO1 := Lib.hid (HO1.out.below hb')
                replace HO2 := Lib.hid (HO2.out.below hb')
                replace hb := Lib.hid (grow_trans hb.out hb')
                clear hb'
                clear HO2
                clear HO1
                have hlz : Hid (Sl _ 4 _ _ _) := hs2s
                go_wp2
                refine wp_loop_rounds 1 ?_
                rw [rounds_succ]
                clear hlz hs2s
                by_cases hd0 : 0 < l2.length
                · skip
                  have d0 : decide (0 < l2.length) = true := decide_eq_true (by omega)
                  clear hd0
                  as_aux_lemma =>
                    go_wp2_with fail
                    refine (D3.out _ hb.out).mono ?_
                    rintro e w14 ⟨v3, l3, t3, rfl, hs3, hb'⟩
                    replace hb := Lib.hid (grow_trans hb.out hb')
                    obtain ⟨A3, c3, rfl⟩ := hs3.1.val
                    have hs3s := Lib.hid hs3.1
                    clear hs3 hb' D3
                    have S1 := fun W h => WindShifts_any (.slice A3 l3.length c3) l3 t3 W h
                    have S2 := fun W h => sWindShifts_any (.slice A3 l3.length c3) l3 t3 W h
                    unfold RetSel at S1 S2
                    generalize selR (foreB l3 && inB t3 1 4) (shO l3 t3 l3.length) = rs3 at *
                    generalize (foreB l3 && inB t3 1 4) = ok3 at *
                    replace S1 := Lib.hid S1
                    replace S2 := Lib.hid S2
                    go_wp2_with fail
                    refine (S1.out _ hs3s.out).mono ?_
                    rintro e w15 ⟨u3, rfl, o3, hb'⟩
                    replace hs3s := Lib.hid (hs3s.out.below hb')
                    replace hb := Lib.hid (grow_trans hb.out hb')
                    obtain ⟨B3, d3, rfl, _⟩ := own_form o3
                    have ho3 := Lib.hid o3
                    clear o3 hb'
                    go_wp2_with fail
                    refine (S2.out _ hs3s.out).mono ?_
                    rintro e w16 ⟨u4, rfl, o4, hb'⟩
                    replace hs3s := Lib.hid (hs3s.out.below hb')
                    replace ho3 := Lib.hid (own_below ho3.out hb')
                    replace hb := Lib.hid (grow_trans hb.out hb')
                    obtain ⟨B4, d4, rfl, _⟩ := own_form o4
                    have ho4 := Lib.hid o4
                    clear o4 hb' S1 S2 hs3s
                    go_wp2_with fail
                    refine (rInts_any _ _ rs3 _ (Sl.of_own ho3.out) (Sl.of_own ho4.out)).mono ?_
                    rintro e w17 ⟨rfl, hb'⟩
                    replace ho3 := Lib.hid (own_below ho3.out hb')
                    replace ho4 := Lib.hid (own_below ho4.out hb')
                    replace hb := Lib.hid (grow_trans hb.out hb')
                    clear hb'
                    clear ho3 ho4
                    go_wp2_with fail
                    refine (D4.out _ hb.out).mono ?_
                    rintro e w18 ⟨v4, l4, to, rfl, hs4, hb'⟩
                    replace hb := Lib.hid (grow_trans hb.out hb')
                    obtain ⟨A4, c4, rfl⟩ := hs4.1.val
                    have hs4s := Lib.hid hs4.1
                    clear hs4 hb' D4
                    obtain ⟨m1, m2, m3, hm⟩ := meanR_shape l4 to
                    have M1 := fun W h => MeanPush_any (.slice A4 l4.length c4) l4 to W h
                    have M2 := fun W h => sMeanPush_any (.slice A4 l4.length c4) l4 to W h
                    rw [hm] at M1 M2
                    replace M1 := Lib.hid M1
                    replace M2 := Lib.hid M2
                    clear hm
                    go_wp2_with fail
                    refine (M1.out _ hs4s.out).mono ?_
                    rintro e w19 ⟨rfl, hb'⟩
                    replace hs4s := Lib.hid (hs4s.out.below hb')
                    replace hb := Lib.hid (grow_trans hb.out hb')
                    clear hb'
                    go_wp2_with fail
                    refine (M2.out _ hs4s.out).mono ?_
                    rintro e w20 ⟨rfl, hb'⟩
                    replace hs4s := Lib.hid (hs4s.out.below hb')
                    replace hb := Lib.hid (grow_trans hb.out hb')
                    clear hb'
                    go_wp2
                    go_ret
                    exact ⟨by simp, hb.out⟩
                · skip
                  have d0 : decide (0 < l2.length) = false := decide_eq_false (by omega)
                  clear hd0
                  as_aux_lemma =>
                    go_wp2_with fail
                    refine (D3.out _ hb.out).mono ?_
                    rintro e w14 ⟨v3, l3, t3, rfl, hs3, hb'⟩
                    replace hb := Lib.hid (grow_trans hb.out hb')
                    obtain ⟨A3, c3, rfl⟩ := hs3.1.val
                    have hs3s := Lib.hid hs3.1
                    clear hs3 hb' D3
                    have S1 := fun W h => WindShifts_any (.slice A3 l3.length c3) l3 t3 W h
                    have S2 := fun W h => sWindShifts_any (.slice A3 l3.length c3) l3 t3 W h
                    unfold RetSel at S1 S2
                    generalize selR (foreB l3 && inB t3 1 4) (shO l3 t3 l3.length) = rs3 at *
                    generalize (foreB l3 && inB t3 1 4) = ok3 at *
                    replace S1 := Lib.hid S1
                    replace S2 := Lib.hid S2
                    go_wp2_with fail
                    refine (S1.out _ hs3s.out).mono ?_
                    rintro e w15 ⟨u3, rfl, o3, hb'⟩
                    replace hs3s := Lib.hid (hs3s.out.below hb')
                    replace hb := Lib.hid (grow_trans hb.out hb')
                    obtain ⟨B3, d3, rfl, _⟩ := own_form o3
                    have ho3 := Lib.hid o3
                    clear o3 hb'
                    go_wp2_with fail
                    refine (S2.out _ hs3s.out).mono ?_
                    rintro e w16 ⟨u4, rfl, o4, hb'⟩
                    replace hs3s := Lib.hid (hs3s.out.below hb')
                    replace ho3 := Lib.hid (own_below ho3.out hb')
                    replace hb := Lib.hid (grow_trans hb.out hb')
                    obtain ⟨B4, d4, rfl, _⟩ := own_form o4
                    have ho4 := Lib.hid o4
                    clear o4 hb' S1 S2 hs3s
                    go_wp2_with fail
                    refine (rInts_any _ _ rs3 _ (Sl.of_own ho3.out) (Sl.of_own ho4.out)).mono ?_
                    rintro e w17 ⟨rfl, hb'⟩
                    replace ho3 := Lib.hid (own_below ho3.out hb')
                    replace ho4 := Lib.hid (own_below ho4.out hb')
                    replace hb := Lib.hid (grow_trans hb.out hb')
                    clear hb'
                    clear ho3 ho4
                    go_wp2_with fail
                    refine (D4.out _ hb.out).mono ?_
                    rintro e w18 ⟨v4, l4, to, rfl, hs4, hb'⟩
                    replace hb := Lib.hid (grow_trans hb.out hb')
                    obtain ⟨A4, c4, rfl⟩ := hs4.1.val
                    have hs4s := Lib.hid hs4.1
                    clear hs4 hb' D4
                    obtain ⟨m1, m2, m3, hm⟩ := meanR_shape l4 to
                    have M1 := fun W h => MeanPush_any (.slice A4 l4.length c4) l4 to W h
                    have M2 := fun W h => sMeanPush_any (.slice A4 l4.length c4) l4 to W h
                    rw [hm] at M1 M2
                    replace M1 := Lib.hid M1
                    replace M2 := Lib.hid M2
                    clear hm
                    go_wp2_with fail
                    refine (M1.out _ hs4s.out).mono ?_
                    rintro e w19 ⟨rfl, hb'⟩
                    replace hs4s := Lib.hid (hs4s.out.below hb')
                    replace hb := Lib.hid (grow_trans hb.out hb')
                    clear hb'
                    go_wp2_with fail
                    refine (M2.out _ hs4s.out).mono ?_
                    rintro e w20 ⟨rfl, hb'⟩
                    replace hs4s := Lib.hid (hs4s.out.below hb')
                    replace hb := Lib.hid (grow_trans hb.out hb')
                    clear hb'
                    go_wp2
                    go_ret
                    exact ⟨by simp, hb.out⟩
              | true =>
                rw [hok] at R1 R2
                rw [show selRR true (rfS l2 sp hu l2.length) = rfS l2 sp hu l2.length from rfl] at R1 R2
                have HL := Lib.hid (rf_law l2 sp hu l2.length).2
                have HT := Lib.hid (rf_two l2 sp hu l2.length)
                have HR := rf_le l2 sp hu l2.length
                have HH := Lib.hid fun (i : Nat) (f s g r : Int) (h : l2[i]? = some ⟨f, s, g, r⟩) => (show hotB l2 sp hu i = (decide (sp ≤ s) && decide (r ≤ hu)) by simp only [hotB, h])
                generalize hotB l2 sp hu = hot at *
                generalize rfS l2 sp hu l2.length = R at *
                replace R1 := Lib.hid R1
                replace R2 := Lib.hid R2
                clear hok
                go_wp2_with fail
                refine (R1.out _ hs2s.out).mono ?_
                rintro e w11 ⟨u1, us1, rfl, o1, hb'⟩
                replace hs2s := Lib.hid (hs2s.out.below hb')
                replace hb := Lib.hid (grow_trans hb.out hb')
                have HO1 := Lib.hid o1.sl
                clear o1 hb'
                go_wp2_with fail
                refine (R2.out _ hs2s.out).mono ?_
                rintro e w12 ⟨u2, us2, rfl, o2, hb'⟩
                replace hs2s := Lib.hid (hs2s.out.below hb')
                replace HO1 := Lib.hid (HO1.out.below hb')
                replace hb := Lib.hid (grow_trans hb.out hb')
                have HO2 := Lib.hid o2.sl
                clear o2 hb' R1 R2
                obtain ⟨B1, d1, hB1⟩ := HO1.out.outer.val
                obtain ⟨B2, d2, hB2⟩ := HO2.out.outer.val
                have hn1 := HO1.out.len
                have hn2 := HO2.out.len
                rw [hn1] at hB1
                rw [hn2] at hB2
                subst hB1
                subst hB2
                clear hn1 hn2
                go_wp2_with fail
                refine (rTable_any _ _ us1 us2 R _ HO1.out HO2.out).mono ?_
                rintro e w13 ⟨rfl, hb'⟩
                replace hs2s := Lib.hid (hs2s.out.below hb')
                replace HO1 := Lib.hid (HO1.out.below hb')
                replace HO2 := Lib.hid (HO2.out.below hb')
                replace hb := Lib.hid (grow_trans hb.out hb')
                clear hb'
                clear HO2
                have hs2o := hs2s.out
                have HSa := Lib.hid hs2o
                have HOa := Lib.hid HO1.out
                clear hs2o hs2s HO1
                obtain ⟨wq, rfl⟩ : ∃ wq : World, wq = w13 := ⟨_, rfl⟩
                go_wp2
                go_loopw [28] (fun iv wr => ∃ i : Nat, i ≤ l2.length ∧ iv = .int .i64 i ∧ Hid (Below wq.heap.size wq wr)) (fun iv _ => l2.length - (intOf iv).toNat)
                case atStart => exact ⟨0, Nat.zero_le _, rfl, Below.refl _ _⟩
                case round =>
                  obtain ⟨i, hi, rfl, hbq⟩ := hrel
                  by_cases hlt : i < l2.length
                  case neg =>
                    have d0 : decide (i < l2.length) = false := decide_eq_false hlt
                    replace hb := Lib.hid (hb.out.trans (hbq.out.mono hb.out.size))
                    clear HSa HOa HL HT HR HH hbq
                    obtain ⟨w14, rfl⟩ : ∃ wz : World, wz = wr := ⟨_, rfl⟩
                    as_aux_lemma =>
                      go_wp2_with fail
                      refine (D3.out _ hb.out).mono ?_
                      rintro e w15 ⟨v3, l3, t3, rfl, hs3, hb'⟩
                      replace hb := Lib.hid (grow_trans hb.out hb')
                      obtain ⟨A3, c3, rfl⟩ := hs3.1.val
                      have hs3s := Lib.hid hs3.1
                      clear hs3 hb' D3
                      have S1 := fun W h => WindShifts_any (.slice A3 l3.length c3) l3 t3 W h
                      have S2 := fun W h => sWindShifts_any (.slice A3 l3.length c3) l3 t3 W h
                      unfold RetSel at S1 S2
                      generalize selR (foreB l3 && inB t3 1 4) (shO l3 t3 l3.length) = rs3 at *
                      generalize (foreB l3 && inB t3 1 4) = ok3 at *
                      replace S1 := Lib.hid S1
                      replace S2 := Lib.hid S2
                      go_wp2_with fail
                      refine (S1.out _ hs3s.out).mono ?_
                      rintro e w16 ⟨u3, rfl, o3, hb'⟩
                      replace hs3s := Lib.hid (hs3s.out.below hb')
                      replace hb := Lib.hid (grow_trans hb.out hb')
                      obtain ⟨B3, d3, rfl, _⟩ := own_form o3
                      have ho3 := Lib.hid o3
                      clear o3 hb'
                      go_wp2_with fail
                      refine (S2.out _ hs3s.out).mono ?_
                      rintro e w17 ⟨u4, rfl, o4, hb'⟩
                      replace hs3s := Lib.hid (hs3s.out.below hb')
                      replace ho3 := Lib.hid (own_below ho3.out hb')
                      replace hb := Lib.hid (grow_trans hb.out hb')
                      obtain ⟨B4, d4, rfl, _⟩ := own_form o4
                      have ho4 := Lib.hid o4
                      clear o4 hb' S1 S2 hs3s
                      go_wp2_with fail
                      refine (rInts_any _ _ rs3 _ (Sl.of_own ho3.out) (Sl.of_own ho4.out)).mono ?_
                      rintro e w18 ⟨rfl, hb'⟩
                      replace ho3 := Lib.hid (own_below ho3.out hb')
                      replace ho4 := Lib.hid (own_below ho4.out hb')
                      replace hb := Lib.hid (grow_trans hb.out hb')
                      clear hb'
                      clear ho3 ho4
                      go_wp2_with fail
                      refine (D4.out _ hb.out).mono ?_
                      rintro e w19 ⟨v4, l4, to, rfl, hs4, hb'⟩
                      replace hb := Lib.hid (grow_trans hb.out hb')
                      obtain ⟨A4, c4, rfl⟩ := hs4.1.val
                      have hs4s := Lib.hid hs4.1
                      clear hs4 hb' D4
                      obtain ⟨m1, m2, m3, hm⟩ := meanR_shape l4 to
                      have M1 := fun W h => MeanPush_any (.slice A4 l4.length c4) l4 to W h
                      have M2 := fun W h => sMeanPush_any (.slice A4 l4.length c4) l4 to W h
                      rw [hm] at M1 M2
                      replace M1 := Lib.hid M1
                      replace M2 := Lib.hid M2
                      clear hm
                      go_wp2_with fail
                      refine (M1.out _ hs4s.out).mono ?_
                      rintro e w20 ⟨rfl, hb'⟩
                      replace hs4s := Lib.hid (hs4s.out.below hb')
                      replace hb := Lib.hid (grow_trans hb.out hb')
                      clear hb'
                      go_wp2_with fail
                      refine (M2.out _ hs4s.out).mono ?_
                      rintro e w21 ⟨rfl, hb'⟩
                      replace hs4s := Lib.hid (hs4s.out.below hb')
                      replace hb := Lib.hid (grow_trans hb.out hb')
                      clear hb'
                      go_wp2
                      go_ret
                      exact ⟨by simp, hb.out⟩
                  case pos =>
                    have d0 : decide (i < l2.length) = true := decide_eq_true hlt
                    obtain ⟨wp, rfl⟩ : ∃ wp : World, wp = wr := ⟨_, rfl⟩
                    go_wp2
                    go_loopw [29, 30] (fun bv kv wr => ∃ k : Nat, k ≤ R.length ∧ kv = .int .i64 k ∧ bv = .bool (inSp (R.take k) i) ∧ Hid (Below wq.heap.size wq wr)) (fun _ kv _ => R.length - (intOf kv).toNat)
                    case atStart => exact ⟨0, Nat.zero_le _, rfl, by simp [inSp], hbq.out⟩
                    case round =>
                      clear hbq
                      obtain ⟨k, hk, rfl, rfl, hbk⟩ := hrel
                      by_cases hlk : k < R.length
                      case neg =>
                        obtain rfl : k = R.length := by omega
                        obtain ⟨b, off, f, s, g, r, rfl, hx, c0, c1, c2, c3⟩ := (HSa.out.below hbk.out).wx rfl hlt
                        have hin : inSp (R.take R.length) (i : Int) = (decide (sp ≤ s) && decide (r ≤ hu)) := by
                          rw [List.take_length, HL.out i, decide_eq_true hlt, HH.out i f s g r hx]; rfl
                        have d2 : decide (R.length < R.length) = false := decide_eq_false (by omega)
                        clear hx hlk
                        rw [hin]
                        by_cases hsp : sp ≤ s
                        · by_cases hhu : r ≤ hu
                          · have e1 : decide (sp ≤ s) = true := decide_eq_true hsp
                            have e2 : decide (r ≤ hu) = true := decide_eq_true hhu
                            rw [e1, e2]
                            clear hsp hhu hin
                            go_wp2
                            go_roundw
                            case rel => exact ⟨i + 1, by omega, by go_num, hbk.out⟩
                            case measure => simp [intOf]; omega
                          · have e1 : decide (sp ≤ s) = true := decide_eq_true hsp
                            have e2 : decide (r ≤ hu) = false := decide_eq_false hhu
                            rw [e1, e2]
                            clear hsp hhu hin
                            go_wp2
                            go_roundw
                            case rel => exact ⟨i + 1, by omega, by go_num, hbk.out⟩
                            case measure => simp [intOf]; omega
                        · have e1 : decide (sp ≤ s) = false := decide_eq_false hsp
                          rw [e1, Bool.false_and]
                          clear hsp hin
                          go_wp2
                          go_roundw
                          case rel => exact ⟨i + 1, by omega, by go_num, hbk.out⟩
                          case measure => simp [intOf]; omega
                      case pos =>
                        obtain ⟨q, hq⟩ : ∃ q, R[k]? = some q := ⟨_, List.getElem?_eq_getElem hlk⟩
                        obtain ⟨a, b, rfl⟩ := HT.out q (List.mem_of_getElem? hq)
                        have hst := Lib.hid (in_step hq (i : Int))
                        have d2 : decide (k < R.length) = true := decide_eq_true hlk
                        cases hin : inSp (R.take k) (i : Int) with
                        | true =>
                          rw [hin] at hst
                          clear hin hq
                          go_wp2
                          go_roundw
                          case rel => exact ⟨k + 1, by omega, by go_num, by rw [hst.out]; simp, hbk.out⟩
                          case measure => simp [intOf]; omega
                        | false =>
                          rw [hin] at hst
                          have hO := HOa.out.below hbk.out
                          obtain ⟨b1, o1, z, hA, hz, hcell⟩ := (show Sl wr 1 (.slice B1 R.length d1) R.length (us1.map id) from by have := hO.outer; rwa [hO.len] at this).at1 (by rw [hO.len]) hlk
                          simp only [id] at hcell
                          have hrow := hO.row k z [a, b] hz hq
                          obtain ⟨Az, cz, rfl⟩ := hrow.val
                          obtain ⟨b2, o2, x0, hA2, hx0, hc0⟩ := hrow.at1 (i := 0) rfl (by simp)
                          obtain ⟨b3, o3, x1, hA3, hx1, hc1⟩ := hrow.at1 (i := 1) rfl (by simp)
                          subst hA
                          subst hA2
                          injection hA3 with hA3
                          injection hA3 with hA3 hA4
                          subst hA3 hA4
                          simp at hx0 hx1
                          subst hx0 hx1
                          simp only [Nat.add_zero] at hc0
                          clear hO hrow hz hq hin
                          by_cases ha : a ≤ (i : Int)
                          · have e1 : decide (a ≤ (i : Int)) = true := decide_eq_true ha
                            by_cases hbb : (i : Int) ≤ b
                            · have e2 : decide ((i : Int) ≤ b) = true := decide_eq_true hbb
                              go_wp2
                              go_roundw
                              case rel => exact ⟨k + 1, by omega, by go_num, by rw [hst.out, e1, e2]; rfl, hbk.out⟩
                              case measure => simp [intOf]; omega
                            · have e2 : decide ((i : Int) ≤ b) = false := decide_eq_false hbb
                              go_wp2
                              go_roundw
                              case rel => exact ⟨k + 1, by omega, by go_num, by rw [hst.out, e1, e2]; rfl, hbk.out⟩
                              case measure => simp [intOf]; omega
                          · have e1 : decide (a ≤ (i : Int)) = false := decide_eq_false ha
                            go_wp2
                            go_roundw
                            case rel => exact ⟨k + 1, by omega, by go_num, by rw [hst.out, e1]; rfl, hbk.out⟩
                            case measure => simp [intOf]; omega
/-! the frame: the arguments opened, the row closed -/
set_option maxRecDepth 100000 in
theorem lifted (os : Os) (started : os.Started) (H : Type) (enc : TypeId × Value → H) :
    ReturnsInHanded {} Try.checked os 5 .any (Rows.fnForecastsSpec.pre6 enc Try.prog Try.f5 Rows.fnForecastsRow.domain false) (Rows.fnForecastsSpec.post enc Try.prog Try.f5 false true false false) := by
  refine law_lifted (C := Try.checked) own started (by kernel_rfl) Try.func5
    (ChangeSpec.witness6 (enc := enc) (C := Try.checked) false ⟨#[], #[.slice none 0 0], []⟩ 8 (by kernel_rfl) (by kernel_rfl) (by kernel_rfl) (by kernel_rfl))
    laidOut (of_decide_eq_true (by kernel_rfl)) rfl Try.underlying4 rfl ?_
  intro W base args ds p hval hA
  rw [Try.params5] at hA hval
  obtain ⟨v0, vs0, d0, ds0, p0, q0, hargs, rfl, rfl, h0, r0⟩ := trodAll_cons hA
  obtain ⟨rfl, rfl, rfl⟩ := trodAll_nil r0
  obtain rfl : args = #[v0] := by cases args; simp_all
  obtain ⟨z0, b0⟩ := open_bs (hval 0 42 v0 rfl rfl) h0
  exact ⟨rfl, walk W v0 z0 b0⟩

theorem over : Rows.fnForecastsRow.holds Try.pinned (OpenSpec.ofChange Rows.fnForecastsSpec) :=
  OpenClaim.holds_of_wide 5 Try.f5 rfl rfl rfl rfl rfl rfl rfl ⟨rfl, rfl, rfl, rfl, rfl⟩ rfl rfl rfl rfl rfl (by kernel_rfl) Try.func5 (by kernel_rfl)
    (of_decide_eq_true (by kernel_rfl)) (by unfold Func.isWrapper; first | (rw [if_pos (by decide +kernel)]; kernel_rfl) | (rw [if_neg (by decide +kernel)]; exact ⟨rfl, rfl⟩))
    (fun os started H enc _ => lifted os started H enc)

theorem proved : Rows.FnForecastsSaid := over
#print axioms proved
end Go.Proofs.Ytabedcpibnnnhaa.lFnForecasts
