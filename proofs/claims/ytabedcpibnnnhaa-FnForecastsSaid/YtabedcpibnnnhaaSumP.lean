/- The sum of the pushes of a forecast; the worst direction. Conditions: as each states. -/
import Derived.Test.YtabedcpibnnnhaaStrong
import Derived.Test.YtabedcpibnnnhaaPush
namespace Go.Proofs.Ytabedcpibnnnhaa
open Go.ChangeShapes Go.WideShapes Go.ChangeAt Go.RowKit
set_option linter.unusedVariables false
set_option linter.unusedSimpArgs false
set_option maxRecDepth 100000

theorem pushN_bd {f s to : Int} (h : windB f s = true) : -12000 ≤ pushN f s to ∧ pushN f s to ≤ 12000 := by
  obtain ⟨_, ⟨s0, s1⟩, _⟩ := windB_iff.1 h
  have h1 := mul_tab_le s (turnN ((f + 4) % 8) to) s0 s1
  have h2 := tdiv_bound (s * tabN (turnN ((f + 4) % 8) to)) 100
  unfold pushN
  omega
/-- The sum of the pushes of the first k hours. -/
def psum (ps : List Wx) (to : Int) : Nat → Int
  | 0 => 0
  | k + 1 => psum ps to k + (match ps[k]? with | some x => pushN x.f x.s to | none => 0)
theorem psum_succ {ps : List Wx} {to : Int} {k : Nat} {f s g r : Int} (h : ps[k]? = some ⟨f, s, g, r⟩) : psum ps to (k + 1) = psum ps to k + pushN f s to := by simp [psum, h]
theorem fore_at {ps : List Wx} (h : foreB ps = true) {k : Nat} {x : Wx} (hx : ps[k]? = some x) : windB x.f x.s = true := by
  simp only [foreB, Bool.and_eq_true, List.all_eq_true] at h
  have := h.2 x (List.mem_of_getElem? hx)
  simp only [wxB, Bool.and_eq_true] at this
  exact this.1.1
theorem psum_bd {ps : List Wx} {to : Int} (h : foreB ps = true) (k : Nat) : -(12000 * (k : Int)) ≤ psum ps to k ∧ psum ps to k ≤ 12000 * (k : Int) := by
  induction k with
  | zero => simp [psum]
  | succ k ih =>
    cases hx : ps[k]? with
    | none => simp only [psum, hx]; omega
    | some x =>
      have := pushN_bd (to := to) (fore_at h hx)
      simp only [psum, hx]
      omega
/-- The first of the numbers below k with the greatest value. -/
def bestF (S : Nat → Int) : Nat → Nat
  | 0 => 0
  | k + 1 => if S (bestF S k) < S k then k else bestF S k
theorem bestF_one (S : Nat → Int) : bestF S 1 = 0 := by simp [bestF]
theorem bestF_le (S : Nat → Int) (k : Nat) : bestF S k ≤ k := by
  induction k with
  | zero => simp [bestF]
  | succ k ih => simp only [bestF]; split <;> omega
theorem bestF_lt (S : Nat → Int) (k : Nat) (h : 0 < k) : bestF S k < k := by
  cases k with
  | zero => omega
  | succ k => have := bestF_le S k; simp only [bestF]; split <;> omega
theorem bestF_yes {S : Nat → Int} {k : Nat} (h : S (bestF S k) < S k) : bestF S (k + 1) = k := by simp [bestF, h]
theorem bestF_no {S : Nat → Int} {k : Nat} (h : ¬ S (bestF S k) < S k) : bestF S (k + 1) = bestF S k := by simp [bestF, h]
set_option maxHeartbeats 2000000 in
theorem l5Sum_any (v : Value) (ps : List Wx) (to : Int) (w : World) (hs : Sl w 4 v ps.length (wxs ps)) (hF : foreB ps = true) (t0 : 0 ≤ to) (t1 : to ≤ 7) :
    Calls Try.prog 52 #[v, .int .i64 to] w fun e w' => e = .returned (.int .i64 (psum ps to ps.length)) ∧ Below w.heap.size w w' := by
  obtain ⟨A, c, rfl⟩ := hs.val
  obtain ⟨n1, n2⟩ := fore_len hF
  generalize hN : ps.length = N at *
  have HN := Lib.hid hN
  have Hs := Lib.hid hs
  have HF := Lib.hid hF
  clear hN hs hF
  go_enter Try.func52, Try.ntmps52
  go_wp2
  go_loopw [5, 6] (fun q i wr => ∃ k : Nat, k ≤ N ∧ i = .int .i64 k ∧ q = .int .i64 (psum ps to k) ∧ Hid (Below w.heap.size w wr)) (fun _ i _ => N - (intOf i).toNat)
  case atStart => exact ⟨0, Nat.zero_le _, rfl, rfl, Below.refl _ _⟩
  case round =>
    obtain ⟨k, hk, rfl, rfl, hb⟩ := hrel
    by_cases hlt : k < N
    · obtain ⟨b, off, f, s, g, r, rfl, hx, c0, c1, c2, c3⟩ := (Hs.out.below hb.out).wx HN.out hlt
      have hw := fore_at HF.out hx
      have hp := pushN_bd (to := to) hw
      have hpb := psum_bd (to := to) HF.out k
      obtain ⟨⟨f0, f1⟩, ⟨s0, s1⟩, _⟩ := windB_iff.1 hw
      have Hsu := Lib.hid (psum_succ (to := to) hx)
      have HA := Lib.hid (l5Push_any f s to wr f0 f1 t0 t1 s0 s1)
      clear hw hx
      generalize pushN f s to = D at *
      generalize psum ps to k = E at *
      go_wp2_with fail
      with_reducible refine HA.out.mono ?_
      rintro e w1 ⟨rfl, hb1⟩
      go_wp2
      go_roundw
      case rel => exact ⟨k + 1, by omega, by go_num, by rw [Hsu.out], grow_trans hb.out hb1⟩
      case measure => simp [intOf]; omega
    · obtain rfl : k = N := by omega
      go_wp2
      go_ret
      exact ⟨rfl, hb.out⟩
set_option maxHeartbeats 2000000 in
theorem pushes_any (v : Value) (ps : List Wx) (to : Int) (w : World) (hs : Sl w 4 v ps.length (wxs ps)) (hF : foreB ps = true) (t0 : 0 ≤ to) (t1 : to ≤ 7) :
    Calls Try.prog 50 #[v, .int .i64 to] w fun e w' => e = .returned (.int .i64 (psum ps to ps.length)) ∧ Below w.heap.size w w' := by
  obtain ⟨A, c, rfl⟩ := hs.val
  obtain ⟨n1, n2⟩ := fore_len hF
  generalize hN : ps.length = N at *
  have HN := Lib.hid hN
  have Hs := Lib.hid hs
  have HF := Lib.hid hF
  clear hN hs hF
  go_enter Try.func50, Try.ntmps50
  go_wp2
  go_loopw [5, 10] (fun q i wr => ∃ k : Nat, k ≤ N ∧ i = .int .i64 k ∧ q = .int .i64 (psum ps to k) ∧ Hid (Below w.heap.size w wr)) (fun _ i _ => N - (intOf i).toNat)
  case atStart => exact ⟨0, Nat.zero_le _, rfl, rfl, Below.refl _ _⟩
  case round =>
    obtain ⟨k, hk, rfl, rfl, hb⟩ := hrel
    by_cases hlt : k < N
    · obtain ⟨b, off, f, s, g, r, rfl, hx, c0, c1, c2, c3⟩ := (Hs.out.below hb.out).wx HN.out hlt
      have hw := fore_at HF.out hx
      have hp := pushN_bd (to := to) hw
      have hpb := psum_bd (to := to) HF.out k
      obtain ⟨⟨f0, f1⟩, ⟨s0, s1⟩, _⟩ := windB_iff.1 hw
      have Hsu := Lib.hid (psum_succ (to := to) hx)
      have HA := Lib.hid fun W => push_any f s to W f0 f1 t0 t1 s0 s1
      clear hw hx
      generalize pushN f s to = D at *
      generalize psum ps to k = E at *
      have hba := Lib.hid (hb.out.alloc hb.out.size (.cells #[.int .i64 f, .int .i64 s, .int .i64 g, .int .i64 r] 53))
      go_wp2_with fail
      with_reducible refine (HA.out _).mono ?_
      rintro e w1 ⟨rfl, hb1⟩
      go_wp2
      go_roundw
      case rel => exact ⟨k + 1, by omega, by go_num, by rw [Hsu.out], grow_trans hba.out hb1⟩
      case measure => simp [intOf]; omega
    · obtain rfl : k = N := by omega
      go_wp2
      go_ret
      exact ⟨rfl, hb.out⟩
end Go.Proofs.Ytabedcpibnnnhaa
