/- MeanPush, in the program and in the reference. Conditions: none; each stands at any arguments. -/
import Derived.Test.YtabedcpibnnnhaaMean
namespace Go.Proofs.Ytabedcpibnnnhaa
open Go.ChangeShapes Go.WideShapes Go.ChangeAt Go.RowKit
set_option linter.unusedVariables false
set_option linter.unusedSimpArgs false
set_option maxRecDepth 100000

/-- The mean push in lowest terms. -/
def meanR (ps : List Wx) (to : Int) : Value :=
  twoR (foreB ps && inB to 0 7) ((psum ps to ps.length).tdiv (Int.gcd (psum ps to ps.length) ps.length : Nat)) ((ps.length : Int).tdiv (Int.gcd (psum ps to ps.length) ps.length : Nat))
theorem meanR_shape (ps : List Wx) (to : Int) : ∃ m m2 c, meanR ps to = .tuple #[.int .i64 m, .int .i64 m2, .bool c] := twoR_shape _ _ _
set_option maxHeartbeats 2000000 in
theorem MeanPush_any (v : Value) (ps : List Wx) (to : Int) (w : World) (hs : Sl w 4 v ps.length (wxs ps)) :
    Calls Try.prog 25 #[v, .int .i64 to] w fun e w' => e = .returned (meanR ps to) ∧ Below w.heap.size w w' := by
  have HA := Lib.hid (IsForecast_any v ps w hs)
  obtain ⟨A, c, rfl⟩ := hs.val
  cases hF : foreB ps
  · rw [hF] at HA
    have Hr : Hid (meanR ps to = .tuple #[.int .i64 0, .int .i64 0, .bool false]) := by show _ = _; simp [meanR, hF, twoR]
    clear hs hF
    go_enter Try.func25, Try.ntmps25
    go_wp2_with (go_at_call 24; refine HA.out.mono ?_; rintro e w1 ⟨rfl, hb1⟩)
    exact bodyPost_ret (v := .tuple #[.int .i64 0, .int .i64 0, .bool false]) (by simp [results, Try.results25, go_sem]) rfl ⟨by rw [Hr.out], hb1⟩
  · rw [hF] at HA
    cases hT : inB to 0 7
    · have Hr : Hid (meanR ps to = .tuple #[.int .i64 0, .int .i64 0, .bool false]) := by show _ = _; simp [meanR, hT, twoR]
      clear hs hF
      go_enter Try.func25, Try.ntmps25
      go_wp2_with fail
      with_reducible refine HA.out.mono ?_
      rintro e w1 ⟨rfl, hb1⟩
      have hb1 := Lib.hid hb1
      go_wp2_with (go_at_call 56; refine (isDirection_any _ _).mono ?_; rintro e w' ⟨rfl, rfl⟩; rw [hT])
      exact bodyPost_ret (v := .tuple #[.int .i64 0, .int .i64 0, .bool false]) (by simp [results, Try.results25, go_sem]) rfl ⟨by rw [Hr.out], hb1.out⟩
    · obtain ⟨t0, t1⟩ := inB_iff.1 hT
      obtain ⟨n1, n2⟩ := fore_len hF
      have hbd := psum_bd (to := to) hF ps.length
      have Hr : Hid (meanR ps to = .tuple #[.int .i64 ((psum ps to ps.length).tdiv (Int.gcd (psum ps to ps.length) ps.length : Nat)), .int .i64 ((ps.length : Int).tdiv (Int.gcd (psum ps to ps.length) ps.length : Nat)), .bool true]) := by show _ = _; simp [meanR, hF, hT, twoR]
      have HS := Lib.hid fun W hW => pushes_any _ ps to W (hs.below (w' := W) hW) hF t0 t1
      have HQ := Lib.hid fun W => fraction_any (psum ps to ps.length) ps.length W (by omega) (by omega) (by omega)
      clear hs hF hbd
      generalize psum ps to ps.length = s at *
      generalize ps.length = N at *
      generalize ((Int.gcd s N : Nat) : Int) = g at *
      generalize s.tdiv g = q1 at *
      generalize (N : Int).tdiv g = q2 at *
      go_enter Try.func25, Try.ntmps25
      go_wp2_with fail
      with_reducible refine HA.out.mono ?_
      rintro e w1 ⟨rfl, hb1⟩
      have hb1 := Lib.hid hb1
      go_wp2_with (go_at_call 56; refine (isDirection_any _ _).mono ?_; rintro e w' ⟨rfl, rfl⟩; rw [hT])
      with_reducible refine (HS.out _ hb1.out).mono ?_
      rintro e w2 ⟨rfl, hb2⟩
      have hb2 := Lib.hid (grow_trans hb1.out hb2)
      go_wp2_with fail
      with_reducible refine (HQ.out _).mono ?_
      rintro e w3 ⟨rfl, hb3⟩
      have hb3 := Lib.hid (grow_trans hb2.out hb3)
      go_wp2
      exact bodyPost_ret (v := .tuple #[.int .i64 q1, .int .i64 q2, .bool true]) (by simp [results, Try.results25, go_sem]) rfl ⟨by rw [Hr.out], hb3.out⟩
set_option maxHeartbeats 2000000 in
theorem sMeanPush_any (v : Value) (ps : List Wx) (to : Int) (w : World) (hs : Sl w 4 v ps.length (wxs ps)) :
    Calls Try.prog 37 #[v, .int .i64 to] w fun e w' => e = .returned (meanR ps to) ∧ Below w.heap.size w w' := by
  have HA := Lib.hid (l5Good_any v ps w hs)
  obtain ⟨A, c, rfl⟩ := hs.val
  cases hF : foreB ps
  · rw [hF] at HA
    have Hr : Hid (meanR ps to = .tuple #[.int .i64 0, .int .i64 0, .bool false]) := by show _ = _; simp [meanR, hF, twoR]
    clear hs hF
    go_enter Try.func37, Try.ntmps37
    go_wp2_with (go_at_call 51; refine HA.out.mono ?_; rintro e w1 ⟨rfl, hb1⟩)
    exact bodyPost_ret (v := .tuple #[.int .i64 0, .int .i64 0, .bool false]) (by simp [results, Try.results37, go_sem]) rfl ⟨by rw [Hr.out], hb1⟩
  · rw [hF] at HA
    cases hT : inB to 0 7
    · have Hr : Hid (meanR ps to = .tuple #[.int .i64 0, .int .i64 0, .bool false]) := by show _ = _; simp [meanR, hT, twoR]
      clear hs hF
      go_enter Try.func37, Try.ntmps37
      go_wp2_with fail
      with_reducible refine HA.out.mono ?_
      rintro e w1 ⟨rfl, hb1⟩
      have hb1 := Lib.hid hb1
      go_wp2_with (go_at_call 65; refine (l5Way_any _ _).mono ?_; rintro e w' ⟨rfl, rfl⟩; rw [hT])
      exact bodyPost_ret (v := .tuple #[.int .i64 0, .int .i64 0, .bool false]) (by simp [results, Try.results37, go_sem]) rfl ⟨by rw [Hr.out], hb1.out⟩
    · obtain ⟨t0, t1⟩ := inB_iff.1 hT
      obtain ⟨n1, n2⟩ := fore_len hF
      have hbd := psum_bd (to := to) hF ps.length
      obtain ⟨g1, g2⟩ := gcd_bd (s := psum ps to ps.length) (n := ps.length) (by omega) (by omega)
      have Hr : Hid (meanR ps to = .tuple #[.int .i64 ((psum ps to ps.length).tdiv (Int.gcd (psum ps to ps.length) ps.length : Nat)), .int .i64 ((ps.length : Int).tdiv (Int.gcd (psum ps to ps.length) ps.length : Nat)), .bool true]) := by show _ = _; simp [meanR, hF, hT, twoR]
      have HS := Lib.hid fun W hW => l5Sum_any _ ps to W (hs.below (w' := W) hW) hF t0 t1
      have HQ : Hid (∀ W, Calls Try.prog 66 #[.int .i64 (max (psum ps to ps.length) (-(psum ps to ps.length))), .int .i64 ps.length] W fun e w' => e = .returned (.int .i64 (Int.gcd (psum ps to ps.length) ps.length : Nat)) ∧ W = w') := fun W => by
        have := l20Common_any (max (psum ps to ps.length) (-(psum ps to ps.length))) ps.length W (by omega) (by omega)
        rwa [gcd_abs] at this
      clear hs hF
      generalize psum ps to ps.length = s at *
      generalize ps.length = N at *
      generalize ((Int.gcd s N : Nat) : Int) = g at *
      have b1 := Int.natAbs_tdiv_le_natAbs s g
      have b2 := Int.natAbs_tdiv_le_natAbs N g
      have e1 : IntKind.i64.wrap (s.tdiv g) = s.tdiv g := IntWalk.i64_in _ (by omega)
      have e2 : IntKind.i64.wrap ((N : Int).tdiv g) = (N : Int).tdiv g := IntWalk.i64_in _ (by omega)
      have hg0 : g ≠ 0 := by omega
      clear b1 b2
      go_enter Try.func37, Try.ntmps37
      go_wp2_with fail
      with_reducible refine HA.out.mono ?_
      rintro e w1 ⟨rfl, hb1⟩
      have hb1 := Lib.hid hb1
      go_wp2_with (go_at_call 65; refine (l5Way_any _ _).mono ?_; rintro e w' ⟨rfl, rfl⟩; rw [hT])
      with_reducible refine (HS.out _ hb1.out).mono ?_
      rintro e w2 ⟨rfl, hb2⟩
      have hb2 := Lib.hid (grow_trans hb1.out hb2)
      go_wp2_with (first | (go_at_call 67; refine (l1Most_any _ _ _).mono ?_; rintro e w' ⟨rfl, rfl⟩) | (go_at_call 66; refine (HQ.out _).mono ?_; rintro e w' ⟨rfl, rfl⟩))
      go_quiet (fail)
      go_wp2
      exact bodyPost_ret (v := .tuple #[.int .i64 (s.tdiv g), .int .i64 ((N : Int).tdiv g), .bool true]) (by have hq : (N : Int).tdiv g = (N : Int) / g := Int.tdiv_eq_ediv_of_nonneg (by omega); simp [results, Try.results37, go_sem, hq]; have q1 := Int.ediv_nonneg (show (0 : Int) ≤ N by omega) (show 0 ≤ g by omega); have q2 := Int.ediv_le_self g (show (0 : Int) ≤ N by omega); generalize (N : Int) / g = q at *; unfold wrap64; omega) rfl ⟨by rw [Hr.out], grow_trans hb2.out (grow_drewN _ _)⟩
end Go.Proofs.Ytabedcpibnnnhaa
