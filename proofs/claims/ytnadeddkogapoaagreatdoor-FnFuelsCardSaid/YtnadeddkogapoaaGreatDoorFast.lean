/- The fuel with the greatest speed, in the program and in the reference. Conditions: as each states. -/
import Derived.Test.YtnadeddkogapoaaGreatDoorFusC
namespace Go.Proofs.YtnadeddkogapoaaGreatDoor
open Go.ChangeShapes Go.WideShapes Go.ChangeAt Go.RowKit Go.Deep
set_option linter.unusedVariables false
set_option linter.unusedSimpArgs false
set_option maxRecDepth 100000

/-- The first number below k with the greatest value. -/
def bst (f : Nat → Int) : Nat → Nat
  | 0 => 0
  | k + 1 => if f (bst f k) < f k then k else bst f k
theorem bst_lt (f : Nat → Int) (k : Nat) : bst f (k + 1) < k + 1 := by
  induction k with
  | zero => unfold bst; split <;> simp [bst]
  | succ k ih => show (if f (bst f (k + 1)) < f (k + 1) then k + 1 else bst f (k + 1)) < k + 2; split <;> omega
theorem bst_one (f : Nat → Int) : bst f 1 = 0 := by have : bst f 1 < 1 := bst_lt f 0; omega
theorem bst_yes {f : Nat → Int} {k : Nat} (h : f (bst f k) < f k) : bst f (k + 1) = k := by simp [bst, h]
theorem bst_no {f : Nat → Int} {k : Nat} (h : ¬ f (bst f k) < f k) : bst f (k + 1) = bst f k := by simp [bst, h]
/-- A fuel's speed on flat ground. -/
def spU (ps : List Fu) (m : Int) (k : Nat) : Int := match ps[k]? with | some p => speedN p.r p.l m 0 | none => 0
theorem spU_at {ps : List Fu} {m : Int} {k : Nat} {i r l o : Int} {n : ByteArray} (h : ps[k]? = some ⟨i, n, r, l, o⟩) : spU ps m k = speedN r l m 0 := by simp [spU, h]
theorem speed_nonneg {r l m : Int} (r1 : 1 ≤ r) (l1 : 10 ≤ l) : 0 ≤ speedN r l m 0 := by
  unfold speedN
  split
  · omega
  · rw [if_pos (Int.le_refl 0)]
    exact Int.ediv_nonneg (Int.mul_nonneg (Int.ediv_nonneg (Int.mul_nonneg (by omega) (by omega)) (by omega)) (by omega)) (by omega)
/-- The reference's best number and speed so far. -/
def bI (ps : List Fu) (m : Int) (k : Nat) : Int := if k = 0 then 0 else idF ps (bst (spU ps m) k)
def bM (ps : List Fu) (m : Int) (k : Nat) : Int := if k = 0 then -1 else spU ps m (bst (spU ps m) k)
theorem bIM_yes {ps : List Fu} {m : Int} {k : Nat} (h : bM ps m k < spU ps m k) : bI ps m (k + 1) = idF ps k ∧ bM ps m (k + 1) = spU ps m k := by
  unfold bI bM at *
  rw [if_neg (by omega), if_neg (by omega)]
  rcases Nat.eq_zero_or_pos k with rfl | hk
  · rw [bst_one]; exact ⟨rfl, rfl⟩
  · rw [if_neg (by omega)] at h
    rw [bst_yes h]; exact ⟨rfl, rfl⟩
theorem bIM_no {ps : List Fu} {m : Int} {k : Nat} (h0 : 0 ≤ spU ps m k) (h : ¬ bM ps m k < spU ps m k) : bI ps m (k + 1) = bI ps m k ∧ bM ps m (k + 1) = bM ps m k := by
  unfold bI bM at *
  rcases Nat.eq_zero_or_pos k with rfl | hk
  · rw [if_pos rfl] at h; omega
  · rw [if_neg (show ¬ k = 0 by omega)] at h
    rw [if_neg (by omega), if_neg (by omega), if_neg (by omega), if_neg (by omega), bst_no h]; exact ⟨rfl, rfl⟩
/-- Two numbers and a Bool handed back. -/
def triV (b : Bool) (p q : Int) : Value := if b then .tuple #[.int .i64 p, .int .i64 q, .bool true] else .tuple #[.int .i64 0, .int .i64 0, .bool false]
theorem triV_shape (b : Bool) (p q : Int) : ∃ m m2 c, triV b p q = .tuple #[.int .i64 m, .int .i64 m2, .bool c] := by cases b <;> exact ⟨_, _, _, rfl⟩
def fastR (ps : List Fu) (m : Int) : Value := triV (areB ps && inB m 0 400 && decide (0 < ps.length)) (idF ps (bst (spU ps m) ps.length)) (spU ps m (bst (spU ps m) ps.length))
/-- What a valid fuel's numbers are. -/
theorem are_at {ps : List Fu} {k : Nat} {i r l o : Int} {n : ByteArray} (h : areB ps = true) (hx : ps[k]? = some ⟨i, n, r, l, o⟩) : (1 ≤ r ∧ r ≤ 1000) ∧ (10 ≤ l ∧ l ≤ 400) ∧ 1 ≤ n.size ∧ n.size ≤ 10 := by
  have h1 := (are_facts h).2.1 k _ hx
  obtain ⟨_, hw, hr, hl, _⟩ := fuelB_iff.1 h1
  have hw2 : inB n.size 1 10 = true := by
    have h2 := (Bool.and_eq_true_iff.1 hw).2
    have : n.data.toList.length = n.size := by show n.data.toList.length = n.data.size; simp
    simpa [this] using h2
  have := inB_iff.1 hw2
  exact ⟨hr, hl, by omega, by omega⟩
set_option maxHeartbeats 4000000 in
theorem sFastestFuel_any (v : Value) (ps : List Fu) (m : Int) (w : World) (hs : Sl w 5 v ps.length (fus ps)) (hm : ∀ p ∈ ps, p.n.size ≤ maxLen) :
    Calls Tryz.prog 25 #[v, .int .i64 m] w fun e w' => e = .returned (fastR ps m) ∧ Below w.heap.size w w' := by
  have HA := Lib.hid (l3Good_any v ps w hs hm)
  have HR : Hid (fastR ps m = triV (areB ps && inB m 0 400 && decide (0 < ps.length)) (idF ps (bst (spU ps m) ps.length)) (spU ps m (bst (spU ps m) ps.length))) := rfl
  have HE : Hid (0 < ps.length → bI ps m ps.length = idF ps (bst (spU ps m) ps.length) ∧ bM ps m ps.length = spU ps m (bst (spU ps m) ps.length)) := fun h => by unfold bI bM; rw [if_neg (by omega), if_neg (by omega)]; exact ⟨rfl, rfl⟩
  have HV : Hid (areB ps = true → ∀ (k : Nat) (i r l o : Int) (n : ByteArray), ps[k]? = some ⟨i, n, r, l, o⟩ → (1 ≤ r ∧ r ≤ 1000) ∧ (10 ≤ l ∧ l ≤ 400)) := fun h k i r l o n hx => ⟨(are_at h hx).1, (are_at h hx).2.1⟩
  obtain ⟨A, c, rfl⟩ := hs.val
  generalize fastR ps m = R at *
  cases hA : areB ps with
  | false =>
    rw [hA] at HA HR
    have hR : R = triV false 0 0 := by rw [HR.out]; simp [triV]
    subst hR
    clear HR HE HV hs hm hA
    go_enter Tryz.func25, Tryz.ntmps25
    go_wp2_with fail
    with_reducible refine HA.out.mono ?_
    rintro e w1 ⟨rfl, hb1⟩
    go_wp2
    exact bodyPost_ret (v := .tuple #[.int .i64 0, .int .i64 0, .bool false]) (by simp [results, Tryz.results25, go_sem]) rfl ⟨rfl, hb1⟩
  | true =>
    cases hM : inB m 0 400 with
    | false =>
      rw [hA] at HA HR
      rw [hM] at HR
      have hR : R = triV false 0 0 := by rw [HR.out]; simp [triV]
      subst hR
      clear HR HE HV hs hm hA
      go_enter Tryz.func25, Tryz.ntmps25
      go_wp2_with fail
      with_reducible refine HA.out.mono ?_
      rintro e w1 ⟨rfl, hb1⟩
      have hb1 := Lib.hid hb1
      go_wp2_with (go_at_call 51; refine (l20Moist_any _ _).mono ?_; rintro e w' ⟨rfl, rfl⟩; rw [hM])
      exact bodyPost_ret (v := .tuple #[.int .i64 0, .int .i64 0, .bool false]) (by simp [results, Tryz.results25, go_sem]) rfl ⟨rfl, hb1.out⟩
    | true =>
      rw [hA] at HA HR
      rw [hM] at HR
      have HV2 := Lib.hid (HV.out hA)
      obtain ⟨m1, m2⟩ := inB_iff.1 hM
      have hmx := hs.len
      unfold maxLen at hmx
      clear HV hA hm
      generalize hN : ps.length = N at *
      have HN := Lib.hid hN
      have Hs := Lib.hid hs
      clear hN hs
      rcases Nat.eq_zero_or_pos N with rfl | hNp
      · have hR : R = triV false 0 0 := by rw [HR.out]; simp [triV]
        subst hR
        clear HR HE
        go_enter Tryz.func25, Tryz.ntmps25
        go_wp2_with fail
        with_reducible refine HA.out.mono ?_
        rintro e w1 ⟨rfl, hb1⟩
        have hb1 := Lib.hid hb1
        go_wp2_with (go_at_call 51; refine (l20Moist_any _ _).mono ?_; rintro e w' ⟨rfl, rfl⟩; rw [hM])
        exact bodyPost_ret (v := .tuple #[.int .i64 0, .int .i64 0, .bool false]) (by simp [results, Tryz.results25, go_sem]) rfl ⟨rfl, hb1.out⟩
      · obtain ⟨E1, E2⟩ := HE.out hNp
        have hR : R = .tuple #[.int .i64 (bI ps m N), .int .i64 (bM ps m N), .bool true] := by rw [HR.out, E1, E2]; simp [triV, hNp]
        subst hR
        clear HR HE E1 E2
        have hN0 : ¬ (N : Int) = 0 := by omega
        have hN0' : ((N : Int) == 0) = false := by simpa using hN0
        go_enter Tryz.func25, Tryz.ntmps25
        go_wp2_with fail
        with_reducible refine HA.out.mono ?_
        rintro e w1 ⟨rfl, hb1⟩
        have hb1 := Lib.hid hb1
        go_wp2_with (go_at_call 51; refine (l20Moist_any _ _).mono ?_; rintro e w' ⟨rfl, rfl⟩; rw [hM])
        go_loopw [7, 8, 9] (fun b t i wr => ∃ k : Nat, k ≤ N ∧ i = .int .i64 k ∧ b = .int .i64 (bI ps m k) ∧ t = .int .i64 (bM ps m k) ∧ Hid (Below w.heap.size w wr)) (fun _ _ i _ => N - (intOf i).toNat)
        case atStart => exact ⟨0, Nat.zero_le _, rfl, rfl, rfl, hb1.out⟩
        case round =>
          obtain ⟨k, hk, rfl, rfl, rfl, hb⟩ := hrel
          by_cases hlt : k < N
          · obtain ⟨b, off, i, n, r, l, o, rfl, hx, c0, c1, c2, c3, c4⟩ := (Hs.out.below hb.out).fu HN.out hlt
            obtain ⟨⟨r1, r2⟩, l1, l2⟩ := HV2.out k i r l o n hx
            have hsp := spU_at (m := m) hx
            have hid := idF_at hx
            have h0 := speed_nonneg (m := m) r1 l1
            have Hy := Lib.hid (bIM_yes (ps := ps) (m := m) (k := k))
            have Hn := Lib.hid (bIM_no (ps := ps) (m := m) (k := k))
            rw [hsp] at Hy Hn
            rw [hid] at Hy
            have HC := Lib.hid (l3Speed_any i n r l o m 0 wr r1 r2 l1 l2 m1 m2 (by omega) (by omega))
            have Hn := Lib.hid (Hn.out h0)
            clear hx hsp hid h0
            generalize speedN r l m 0 = sp at *
            generalize hbm : bM ps m k = bm at *
            generalize hbi : bI ps m k = bi at *
            clear hbm hbi
            by_cases hq : bm < sp
            · obtain ⟨e1, e2⟩ := Hy.out hq
              have e1 := Lib.hid e1
              have e2 := Lib.hid e2
              clear Hy Hn
              go_wp2_with fail
              with_reducible refine HC.out.mono ?_
              rintro e w2 ⟨rfl, hb2⟩
              have g0 := cell_below0 c0 hb2
              have hb2 := Lib.hid (grow_trans hb.out hb2)
              go_wp2
              go_roundw
              case rel => exact ⟨k + 1, by omega, by go_num, by rw [e1.out], by rw [e2.out], hb2.out⟩
              case measure => simp [intOf]; omega
            · obtain ⟨e1, e2⟩ := Hn.out hq
              have e1 := Lib.hid e1
              have e2 := Lib.hid e2
              clear Hy Hn
              go_wp2_with fail
              with_reducible refine HC.out.mono ?_
              rintro e w2 ⟨rfl, hb2⟩
              have hb2 := Lib.hid (grow_trans hb.out hb2)
              go_wp2
              go_roundw
              case rel => exact ⟨k + 1, by omega, by go_num, by rw [e1.out], by rw [e2.out], hb2.out⟩
              case measure => simp [intOf]; omega
          · obtain rfl : k = N := by omega
            go_wp2
            exact bodyPost_ret (v := .tuple #[_, _, .bool true]) (by simp [results, Tryz.results25, go_sem]) rfl ⟨rfl, hb.out⟩
end Go.Proofs.YtnadeddkogapoaaGreatDoor
