/- WorstDirection, in the program and in the reference. Conditions: none; each stands at any forecast. -/
import Derived.Test.YtabedcpibnnnhaaSumP
namespace Go.Proofs.Ytabedcpibnnnhaa
open Go.ChangeShapes Go.WideShapes Go.ChangeAt Go.RowKit
set_option linter.unusedVariables false
set_option linter.unusedSimpArgs false
set_option maxRecDepth 100000

set_option maxHeartbeats 4000000 in
theorem sWorstDirection_any (v : Value) (ps : List Wx) (w : World) (hs : Sl w 4 v ps.length (wxs ps)) :
    Calls Try.prog 23 #[v] w fun e w' => e = .returned (twoR (foreB ps) (bestF (fun (t : Nat) => psum ps t ps.length) 8 : Nat) (psum ps (bestF (fun (t : Nat) => psum ps t ps.length) 8 : Nat) ps.length)) ∧ Below w.heap.size w w' := by
  have HA := Lib.hid (l5Good_any v ps w hs)
  obtain ⟨A, c, rfl⟩ := hs.val
  cases hF : foreB ps
  · rw [hF] at HA
    clear hs hF
    go_enter Try.func23, Try.ntmps23
    go_wp2_with (go_at_call 51; refine HA.out.mono ?_; rintro e w1 ⟨rfl, hb1⟩)
    exact bodyPost_ret (v := .tuple #[.int .i64 0, .int .i64 0, .bool false]) (by simp [results, Try.results23, go_sem]) rfl ⟨rfl, hb1⟩
  · rw [hF] at HA
    have HS : Hid (∀ (W : World) (t : Nat), Below w.heap.size w W → t ≤ 7 → Calls Try.prog 52 #[.slice A ps.length c, .int .i64 t] W fun e w' => e = .returned (.int .i64 (psum ps t ps.length)) ∧ Below W.heap.size W w') :=
      fun W t hW ht => l5Sum_any _ ps t W (hs.below hW) hF (by omega) (by omega)
    clear hF hs
    generalize hSd : (fun (t : Nat) => psum ps t ps.length) = S
    have HSe : Hid (∀ t : Nat, psum ps t ps.length = S t) := fun t => by rw [← hSd]
    clear hSd
    have HS' : Hid (∀ (W : World) (t : Nat), Below w.heap.size w W → t ≤ 7 → Calls Try.prog 52 #[.slice A ps.length c, .int .i64 t] W fun e w' => e = .returned (.int .i64 (S t)) ∧ Below W.heap.size W w') :=
      fun W t hW ht => by have := HS.out W t hW ht; rwa [HSe.out] at this
    clear HS
    generalize ps.length = N at *
    go_enter Try.func23, Try.ntmps23
    go_wp2_with fail
    with_reducible refine HA.out.mono ?_
    rintro e w1 ⟨rfl, hb1⟩
    have hb1 := Lib.hid hb1
    go_wp2
    go_loopw [5, 6] (fun b i wr => ∃ k : Nat, 1 ≤ k ∧k ≤ 8 ∧ i = .int .i64 k ∧ b = .int .i64 (bestF S k : Nat) ∧ Hid (Below w.heap.size w wr)) (fun _ i _ => 8 - (intOf i).toNat)
    case atStart => exact ⟨1, Nat.le_refl _, by omega, rfl, by simp [bestF_one], hb1⟩
    case round =>
      obtain ⟨k, hk1,hk, rfl, rfl, hb⟩ := hrel
      have hjl := bestF_le S k
      have hjl' := bestF_lt S k
      have hy := bestF_yes (S := S) (k := k)
      have hno := bestF_no (S := S) (k := k)
      by_cases hlt : k < 8
      · have Hj : Hid (bestF S k ≤ 7) := by show _ ≤ _; omega
        have Hy := Lib.hid hy
        have Hno := Lib.hid hno
        clear hy hno hjl' hjl
        generalize hj : bestF S k = j at *
        have Hjj := Lib.hid hj
        clear hj
        go_wp2_with fail
        with_reducible refine (HS'.out _ k hb.out (by omega)).mono ?_
        rintro e w2 ⟨rfl, hb2⟩
        have hb2 := Lib.hid (grow_trans hb.out hb2)
        go_wp2_with fail
        with_reducible refine (HS'.out _ j hb2.out Hj.out).mono ?_
        rintro e w3 ⟨rfl, hb3⟩
        have hb3 := Lib.hid (grow_trans hb2.out hb3)
        by_cases hg : S j < S k
        · have Hb := Lib.hid (Hy.out hg)
          generalize S j = Sj at *
          generalize S k = Sk at *
          go_wp2
          go_roundw
          case rel => exact ⟨k + 1, by omega,by omega, by go_num, by rw [Hb.out], hb3.out⟩
          case measure => simp [intOf]; omega
        · have Hb := Lib.hid (Hno.out (by omega))
          generalize S j = Sj at *
          generalize S k = Sk at *
          go_wp2
          go_roundw
          case rel => exact ⟨k + 1, by omega,by omega, by go_num, by rw [Hb.out], hb3.out⟩
          case measure => simp [intOf]; omega
      · obtain rfl : k = 8 := by omega
        have Hj : Hid (bestF S 8 ≤ 7) := by show _ ≤ _; have := hjl' (by omega); omega
        clear hy hno hjl' hjl
        generalize hj : bestF S 8 = j at *
        have Hjj := Lib.hid hj
        clear hj
        go_wp2_with fail
        with_reducible refine (HS'.out _ j hb.out Hj.out).mono ?_
        rintro e w3 ⟨rfl, hb3⟩
        have hb3 := Lib.hid (grow_trans hb.out hb3)
        go_wp2
        exact bodyPost_ret (v := .tuple #[.int .i64 j, .int .i64 (S j), .bool true]) (by simp [results, Try.results23, go_sem]) rfl ⟨by rw [Hjj.out, HSe.out]; rfl, hb3.out⟩
set_option maxHeartbeats 4000000 in
theorem WorstDirection_any (v : Value) (ps : List Wx) (w : World) (hs : Sl w 4 v ps.length (wxs ps)) :
    Calls Try.prog 22 #[v] w fun e w' => e = .returned (twoR (foreB ps) (bestF (fun (t : Nat) => psum ps t ps.length) 8 : Nat) (psum ps (bestF (fun (t : Nat) => psum ps t ps.length) 8 : Nat) ps.length)) ∧ Below w.heap.size w w' := by
  have HA := Lib.hid (IsForecast_any v ps w hs)
  obtain ⟨A, c, rfl⟩ := hs.val
  cases hF : foreB ps
  · rw [hF] at HA
    clear hs hF
    go_enter Try.func22, Try.ntmps22
    go_wp2_with (go_at_call 24; refine HA.out.mono ?_; rintro e w1 ⟨rfl, hb1⟩)
    exact bodyPost_ret (v := .tuple #[.int .i64 0, .int .i64 0, .bool false]) (by simp [results, Try.results22, go_sem]) rfl ⟨rfl, hb1⟩
  · rw [hF] at HA
    have HS : Hid (∀ (W : World) (t : Nat), Below w.heap.size w W → t ≤ 7 → Calls Try.prog 50 #[.slice A ps.length c, .int .i64 t] W fun e w' => e = .returned (.int .i64 (psum ps t ps.length)) ∧ Below W.heap.size W w') :=
      fun W t hW ht => pushes_any _ ps t W (hs.below hW) hF (by omega) (by omega)
    clear hF hs
    generalize hSd : (fun (t : Nat) => psum ps t ps.length) = S
    have HSe : Hid (∀ t : Nat, psum ps t ps.length = S t) := fun t => by rw [← hSd]
    clear hSd
    have HS' : Hid (∀ (W : World) (t : Nat), Below w.heap.size w W → t ≤ 7 → Calls Try.prog 50 #[.slice A ps.length c, .int .i64 t] W fun e w' => e = .returned (.int .i64 (S t)) ∧ Below W.heap.size W w') :=
      fun W t hW ht => by have := HS.out W t hW ht; rwa [HSe.out] at this
    clear HS
    generalize ps.length = N at *
    go_enter Try.func22, Try.ntmps22
    go_wp2_with fail
    with_reducible refine HA.out.mono ?_
    rintro e w1 ⟨rfl, hb1⟩
    have hb1 := Lib.hid hb1
    go_wp2
    go_loopw [5, 10] (fun b i wr => ∃ k : Nat, k ≤ 8 ∧ i = .int .i64 k ∧ b = .int .i64 (bestF S k : Nat) ∧ Hid (Below w.heap.size w wr)) (fun _ i _ => 8 - (intOf i).toNat)
    case atStart => exact ⟨0, Nat.zero_le _, rfl, rfl, hb1⟩
    case round =>
      obtain ⟨k, hk, rfl, rfl, hb⟩ := hrel
      have hjl := bestF_le S k
      have hjl' := bestF_lt S k
      have hy := bestF_yes (S := S) (k := k)
      have hno := bestF_no (S := S) (k := k)
      by_cases hlt : k < 8
      · have Hj : Hid (bestF S k ≤ 7) := by show _ ≤ _; omega
        have Hy := Lib.hid hy
        have Hno := Lib.hid hno
        clear hy hno hjl' hjl
        generalize hj : bestF S k = j at *
        have Hjj := Lib.hid hj
        clear hj
        go_wp2_with fail
        with_reducible refine (HS'.out _ k hb.out (by omega)).mono ?_
        rintro e w2 ⟨rfl, hb2⟩
        have hb2 := Lib.hid (grow_trans hb.out hb2)
        go_wp2_with fail
        with_reducible refine (HS'.out _ j hb2.out Hj.out).mono ?_
        rintro e w3 ⟨rfl, hb3⟩
        have hb3 := Lib.hid (grow_trans hb2.out hb3)
        by_cases hg : S j < S k
        · have Hb := Lib.hid (Hy.out hg)
          generalize S j = Sj at *
          generalize S k = Sk at *
          go_wp2
          go_roundw
          case rel => exact ⟨k + 1, by omega, by go_num, by rw [Hb.out], hb3.out⟩
          case measure => simp [intOf]; omega
        · have Hb := Lib.hid (Hno.out (by omega))
          generalize S j = Sj at *
          generalize S k = Sk at *
          go_wp2
          go_roundw
          case rel => exact ⟨k + 1, by omega, by go_num, by rw [Hb.out], hb3.out⟩
          case measure => simp [intOf]; omega
      · obtain rfl : k = 8 := by omega
        have Hj : Hid (bestF S 8 ≤ 7) := by show _ ≤ _; have := hjl' (by omega); omega
        clear hy hno hjl' hjl
        generalize hj : bestF S 8 = j at *
        have Hjj := Lib.hid hj
        clear hj
        go_wp2_with fail
        with_reducible refine (HS'.out _ j hb.out Hj.out).mono ?_
        rintro e w3 ⟨rfl, hb3⟩
        have hb3 := Lib.hid (grow_trans hb.out hb3)
        go_wp2
        exact bodyPost_ret (v := .tuple #[.int .i64 j, .int .i64 (S j), .bool true]) (by simp [results, Try.results22, go_sem]) rfl ⟨by rw [Hjj.out, HSe.out]; rfl, hb3.out⟩
end Go.Proofs.Ytabedcpibnnnhaa
