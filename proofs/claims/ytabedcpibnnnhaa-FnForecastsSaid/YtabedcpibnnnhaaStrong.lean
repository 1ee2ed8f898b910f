/- The strongest hour of a forecast, in the program and in the reference. Conditions: none; each stands at any forecast. -/
import Derived.Test.YtabedcpibnnnhaaWeath3
namespace Go.Proofs.Ytabedcpibnnnhaa
open Go.ChangeShapes Go.WideShapes Go.ChangeAt Go.RowKit
set_option linter.unusedVariables false
set_option linter.unusedSimpArgs false
set_option maxRecDepth 100000

/-- Two numbers and a Bool. -/
def twoR (b : Bool) (p q : Int) : Value := if b then .tuple #[.int .i64 p, .int .i64 q, .bool true] else .tuple #[.int .i64 0, .int .i64 0, .bool false]
theorem twoR_shape (b : Bool) (p q : Int) : ∃ m m2 c, twoR b p q = .tuple #[.int .i64 m, .int .i64 m2, .bool c] := by cases b <;> exact ⟨_, _, _, rfl⟩
def gustN (ps : List Wx) (i : Nat) : Int := match ps[i]? with | some x => x.g | none => 0
theorem gustN_at {ps : List Wx} {i : Nat} {f s g r : Int} (h : ps[i]? = some ⟨f, s, g, r⟩) : gustN ps i = g := by simp [gustN, h]
/-- The first hour with the greatest gust among the first k. -/
def bestN (ps : List Wx) : Nat → Nat
  | 0 => 0
  | k + 1 => if gustN ps (bestN ps k) < gustN ps k then k else bestN ps k
theorem bestN_one (ps : List Wx) : bestN ps 1 = 0 := by simp [bestN]
theorem bestN_le (ps : List Wx) (k : Nat) : bestN ps k ≤ k := by
  induction k with
  | zero => simp [bestN]
  | succ k ih => simp only [bestN]; split <;> omega
theorem bestN_lt (ps : List Wx) (k : Nat) (h : 0 < k) : bestN ps k < k := by
  cases k with
  | zero => omega
  | succ k => have := bestN_le ps k; simp only [bestN]; split <;> omega
theorem bestN_yes {ps : List Wx} {k : Nat} (h : gustN ps (bestN ps k) < gustN ps k) : bestN ps (k + 1) = k := by simp [bestN, h]
theorem bestN_no {ps : List Wx} {k : Nat} (h : ¬ gustN ps (bestN ps k) < gustN ps k) : bestN ps (k + 1) = bestN ps k := by simp [bestN, h]
theorem fore_len {ps : List Wx} (h : foreB ps = true) : 1 ≤ ps.length ∧ ps.length ≤ 24 := by
  simp only [foreB, Bool.and_eq_true] at h
  have := inB_iff.1 h.1
  omega
set_option maxHeartbeats 4000000 in
theorem sStrongestHour_any (v : Value) (ps : List Wx) (w : World) (hs : Sl w 4 v ps.length (wxs ps)) :
    Calls Try.prog 27 #[v] w fun e w' => e = .returned (twoR (foreB ps) (bestN ps ps.length : Nat) (gustN ps (bestN ps ps.length))) ∧ Below w.heap.size w w' := by
  have HA := Lib.hid (l5Good_any v ps w hs)
  obtain ⟨A, c, rfl⟩ := hs.val
  cases hF : foreB ps
  · rw [hF] at HA
    clear hs hF
    go_enter Try.func27, Try.ntmps27
    go_wp2_with (go_at_call 51; refine HA.out.mono ?_; rintro e w1 ⟨rfl, hb1⟩)
    exact bodyPost_ret (v := .tuple #[.int .i64 0, .int .i64 0, .bool false]) (by simp [results, Try.results27, go_sem]) rfl ⟨rfl, hb1⟩
  · rw [hF] at HA
    obtain ⟨n1, n2⟩ := fore_len hF
    clear hF
    generalize hN : ps.length = N at *
    have HN := Lib.hid hN
    have Hs := Lib.hid hs
    clear hN hs
    go_enter Try.func27, Try.ntmps27
    go_wp2_with fail
    with_reducible refine HA.out.mono ?_
    rintro e w1 ⟨rfl, hb1⟩
    have hb1 := Lib.hid hb1
    go_wp2
    go_loopw [5, 6] (fun b i wr => ∃ k : Nat, 1 ≤ k ∧ k ≤ N ∧ i = .int .i64 k ∧ b = .int .i64 (bestN ps k : Nat) ∧ Hid (Below w.heap.size w wr)) (fun _ i _ => N - (intOf i).toNat)
    case atStart => exact ⟨1, Nat.le_refl _, n1, rfl, by rw [bestN_one]; rfl, hb1⟩
    case round =>
      obtain ⟨k, hk1, hk, rfl, rfl, hb⟩ := hrel
      have hjl := bestN_lt ps k hk1
      have hy := bestN_yes (ps := ps) (k := k)
      have hno := bestN_no (ps := ps) (k := k)
      by_cases hlt : k < N
      · obtain ⟨b, off, f, s, g, r, rfl, hx, c0, c1, c2, c3⟩ := (Hs.out.below hb.out).wx HN.out hlt
        obtain ⟨b', off', f', s', g', r', e', hx', d0, d1, d2, d3⟩ := (Hs.out.below hb.out).wx HN.out (show bestN ps k < N by omega)
        cases e'
        rw [gustN_at hx, gustN_at hx'] at hy hno
        have Hy := Lib.hid hy
        have Hno := Lib.hid hno
        clear hx hx' hy hno
        have hz : (k : Int) < (N : Int) := by omega
        generalize hj : bestN ps k = j at *
        have Hj := Lib.hid hj
        clear hj
        have hjz : (j : Int) < (N : Int) := by omega
        by_cases hg : g' < g
        · have hgd : decide (g' < g) = true := by simpa using hg
          have Hb := Lib.hid (Hy.out hg)
          go_wp2_with fail
          go_quiet (fail)
          go_wp2
          go_roundw
          case rel => exact ⟨k + 1, by omega, by omega, by go_num, by rw [Hb.out], (hb.out.trans ⟨rfl, rfl, rfl, Nat.le_refl _, fun _ _ => rfl⟩)⟩
          case measure => simp [intOf]; omega
        · have hgd : decide (g' < g) = false := by simpa using hg
          have Hb := Lib.hid (Hno.out hg)
          go_wp2_with fail
          go_quiet (fail)
          go_wp2
          go_roundw
          case rel => exact ⟨k + 1, by omega, by omega, by go_num, by rw [Hb.out], (hb.out.trans ⟨rfl, rfl, rfl, Nat.le_refl _, fun _ _ => rfl⟩)⟩
          case measure => simp [intOf]; omega
      · obtain rfl : k = N := by omega
        obtain ⟨b', off', f', s', g', r', rfl, hx', d0, d1, d2, d3⟩ := (Hs.out.below hb.out).wx HN.out (show bestN ps k < k by omega)
        have Hg := Lib.hid (gustN_at hx')
        clear hx' hy hno
        generalize hj : bestN ps k = j at *
        have Hj := Lib.hid hj
        clear hj
        have hjz : (j : Int) < (k : Int) := by omega
        go_wp2_with fail
        go_quiet (fail)
        go_wp2
        exact bodyPost_ret (v := .tuple #[.int .i64 j, .int .i64 g', .bool true]) (by simp [results, Try.results27, go_sem]) rfl ⟨by rw [Hj.out, Hg.out]; rfl, (hb.out.trans ⟨rfl, rfl, rfl, Nat.le_refl _, fun _ _ => rfl⟩)⟩
set_option maxHeartbeats 4000000 in
theorem StrongestHour_any (v : Value) (ps : List Wx) (w : World) (hs : Sl w 4 v ps.length (wxs ps)) :
    Calls Try.prog 26 #[v] w fun e w' => e = .returned (twoR (foreB ps) (bestN ps ps.length : Nat) (gustN ps (bestN ps ps.length))) ∧ Below w.heap.size w w' := by
  have HA := Lib.hid (IsForecast_any v ps w hs)
  obtain ⟨A, c, rfl⟩ := hs.val
  cases hF : foreB ps
  · rw [hF] at HA
    clear hs hF
    go_enter Try.func26, Try.ntmps26
    go_wp2_with (go_at_call 24; refine HA.out.mono ?_; rintro e w1 ⟨rfl, hb1⟩)
    exact bodyPost_ret (v := .tuple #[.int .i64 0, .int .i64 0, .bool false]) (by simp [results, Try.results26, go_sem]) rfl ⟨rfl, hb1⟩
  · rw [hF] at HA
    obtain ⟨n1, n2⟩ := fore_len hF
    clear hF
    generalize hN : ps.length = N at *
    have HN := Lib.hid hN
    have Hs := Lib.hid hs
    clear hN hs
    go_enter Try.func26, Try.ntmps26
    go_wp2_with fail
    with_reducible refine HA.out.mono ?_
    rintro e w1 ⟨rfl, hb1⟩
    have hb1 := Lib.hid hb1
    go_wp2
    go_loopw [5, 13] (fun b i wr => ∃ k : Nat, k ≤ N ∧ i = .int .i64 k ∧ b = .int .i64 (bestN ps k : Nat) ∧ Hid (Below w.heap.size w wr)) (fun _ i _ => N - (intOf i).toNat)
    case atStart => exact ⟨0, Nat.zero_le _, rfl, rfl, hb1⟩
    case round =>
      obtain ⟨k, hk, rfl, rfl, hb⟩ := hrel
      have hjl := bestN_le ps k
      have hjl' := bestN_lt ps k
      have hy := bestN_yes (ps := ps) (k := k)
      have hno := bestN_no (ps := ps) (k := k)
      by_cases hlt : k < N
      · obtain ⟨b, off, f, s, g, r, rfl, hx, c0, c1, c2, c3⟩ := (Hs.out.below hb.out).wx HN.out hlt
        obtain ⟨b', off', f', s', g', r', e', hx', d0, d1, d2, d3⟩ := (Hs.out.below (w' := wr.alloc (.cells #[.int .i64 f, .int .i64 s, .int .i64 g, .int .i64 r] 53)) (hb.out.alloc hb.out.size _)).wx HN.out (show bestN ps k < N by omega)
        cases e'
        rw [gustN_at hx, gustN_at hx'] at hy hno
        have Hy := Lib.hid hy
        have Hno := Lib.hid hno
        clear hx hx' hy hno hjl'
        have hz : (k : Int) < (N : Int) := by omega
        generalize hj : bestN ps k = j at *
        have Hj := Lib.hid hj
        clear hj
        have hjz : (j : Int) < (N : Int) := by omega
        by_cases hg : g' < g
        · have hgd : decide (g' < g) = true := by simpa using hg
          have Hb := Lib.hid (Hy.out hg)
          go_wp2_with fail
          go_quiet (fail)
          go_wp2
          go_roundw
          case rel => exact ⟨k + 1, by omega, by go_num, by rw [Hb.out], ((hb.out.alloc hb.out.size _).trans ⟨rfl, rfl, rfl, Nat.le_refl _, fun _ _ => rfl⟩)⟩
          case measure => simp [intOf]; omega
        · have hgd : decide (g' < g) = false := by simpa using hg
          have Hb := Lib.hid (Hno.out hg)
          go_wp2_with fail
          go_quiet (fail)
          go_wp2
          go_roundw
          case rel => exact ⟨k + 1, by omega, by go_num, by rw [Hb.out], ((hb.out.alloc hb.out.size _).trans ⟨rfl, rfl, rfl, Nat.le_refl _, fun _ _ => rfl⟩)⟩
          case measure => simp [intOf]; omega
      · obtain rfl : k = N := by omega
        obtain ⟨b', off', f', s', g', r', rfl, hx', d0, d1, d2, d3⟩ := (Hs.out.below hb.out).wx HN.out (show bestN ps k < k by have := hjl' (by omega); omega)
        have Hg := Lib.hid (gustN_at hx')
        have hjk := hjl' (by omega)
        clear hx' hy hno hjl'
        generalize hj : bestN ps k = j at *
        have Hj := Lib.hid hj
        clear hj
        have hjz : (j : Int) < (k : Int) := by omega
        go_wp2_with fail
        go_quiet (fail)
        go_wp2
        exact bodyPost_ret (v := .tuple #[.int .i64 j, .int .i64 g', .bool true]) (by simp [results, Try.results26, go_sem]) rfl ⟨by rw [Hj.out, Hg.out]; rfl, (hb.out.trans ⟨rfl, rfl, rfl, Nat.le_refl _, fun _ _ => rfl⟩)⟩
end Go.Proofs.Ytabedcpibnnnhaa
