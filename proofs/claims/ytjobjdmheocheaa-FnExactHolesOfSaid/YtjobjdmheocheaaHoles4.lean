/- Whether a set has a cell at the edge, in the reference. Conditions: as each states. -/
import Derived.Test.YtjobjdmheocheaaHoles3
namespace Go.Proofs.Ytjobjdmheocheaa
open Go.ChangeShapes Go.WideShapes Go.ChangeAt Go.RowKit Go.Deep
set_option linter.unusedVariables false
set_option linter.unusedSimpArgs false
set_option maxRecDepth 100000

theorem any_at {l : List Int} {p : Int → Bool} {k : Nat} {z : Int} (h : l[k]? = some z) (hp : p z = true) : l.any p = true := List.any_eq_true.2 ⟨z, List.mem_of_getElem? h, hp⟩
set_option maxHeartbeats 4000000 in
theorem l6Border_any (x y : Int) (u : Value) (v : Value) (pl : List Int) (w : World) (hv : Sl w 1 v pl.length (ints pl)) (h1 : 1 ≤ x) (h2 : x ≤ 5) (y1 : 1 ≤ y) (y2 : y ≤ 5) (hp : ∀ z ∈ pl, 0 ≤ z ∧ z ≤ 25) :
    Calls Try.prog 109 #[terrV x y u, v] w fun e w' => e = .returned (.bool (pl.any (brdB x y))) ∧ Below w.heap.size w w' := by
  have hmx := hv.len
  unfold maxLen at hmx
  have Hs := Lib.hid fun W hW => hv.below (w' := W) hW
  have hTB0 : Hid (TB (w.alloc (.cells #[.int .i64 x, .int .i64 y, u] 28)) w.heap.size x y u) := by show TB _ _ _ _ _; unfold TB; simp [go_sem]
  have hb0 : Hid (Below w.heap.size w (w.alloc (.cells #[.int .i64 x, .int .i64 y, u] 28))) := grow_alloc _ _
  have Hp := Lib.hid hp
  obtain ⟨A, c, rfl⟩ := hv.val
  clear hv hp
  generalize hN : pl.length = N at *
  have HN := Lib.hid hN
  clear hN
  go_enter Try.func109, Try.ntmps109
  go_wp2
  go_loopw [5] (fun i wr => ∃ k : Nat, k ≤ N ∧ i = .int .i64 k ∧ Hid (Below w.heap.size w wr) ∧ Hid (TB wr w.heap.size x y u) ∧ Hid ((pl.take k).any (brdB x y) = false)) (fun i _ => N - (intOf i).toNat)
  case atStart => exact ⟨0, Nat.zero_le _, rfl, hb0.out, hTB0.out, by show _ = _; simp⟩
  case round =>
    obtain ⟨k, hk, rfl, hb, hT, hn⟩ := hrel
    by_cases hlt : k < N
    · obtain ⟨b, off, z, hA, hz, hcell⟩ := (Hs.out _ hb.out).at1 HN.out hlt
      subst hA
      obtain ⟨t0, t1, t2⟩ := hT.out
      have hzb := Hp.out z (List.mem_of_getElem? hz)
      obtain ⟨z1, z2, z3, z4⟩ := div_bds h1 h2 hzb.1 hzb.2
      obtain ⟨⟨p1, p2⟩, p3, p4⟩ := cell_bds h1 h2 hzb.1 hzb.2
      have hx0 : (x == 0) = false := by simpa using (show x ≠ 0 by omega)
      have hlt' : (k : Int) < (N : Int) := by omega
      have HB : Hid (brdB x y z = ((((z % x == 0) || (z / x == 0)) || (z % x == x - 1)) || (z / x == y - 1))) := rfl
      have Hany : Hid (brdB x y z = true → pl.any (brdB x y) = true) := any_at hz
      have Hstep : Hid (brdB x y z = false → (pl.take (k + 1)).any (brdB x y) = false) := fun h => by rw [any_take hz, hn.out, h]; rfl
      clear hz
      generalize brdB x y z = R at *
      generalize z % x = a at *
      generalize z / x = d at *
      cases hR : R with
      | true =>
        have Hr := Lib.hid (Hany.out hR)
        have hor : ((((a == 0) || (d == 0)) || (a == x - 1)) || (d == y - 1)) = true := by rw [← HB.out]; exact hR
        clear Hany Hstep HB hR
        cases e1 : (a == 0) <;> cases e2 : (d == 0) <;> cases e3 : (a == x - 1) <;> cases e4 : (d == y - 1) <;> simp only [e1, e2, e3, e4] at hor <;> first | (exfalso; revert hor; decide) | skip
        all_goals
          clear hor
          go_wp2_with fail
          go_quiet (fail)
          go_wp2
          go_ret
          exact ⟨by rw [Hr.out]; rfl, hb.out.trans ((grow_drewN wr _).mono hb.out.size)⟩
      | false =>
        have Hr := Lib.hid (Hstep.out hR)
        have hor : ((((a == 0) || (d == 0)) || (a == x - 1)) || (d == y - 1)) = false := by rw [← HB.out]; exact hR
        clear Hany Hstep HB hR
        simp only [Bool.or_eq_false_iff] at hor
        obtain ⟨⟨⟨e1, e2⟩, e3⟩, e4⟩ := hor
        go_wp2_with fail
        go_quiet (fail)
        go_wp2
        go_roundw
        case rel => exact ⟨k + 1, by omega, by go_num, hb.out.trans ((grow_drewN wr _).mono hb.out.size), hT.out.below (grow_drewN wr _), Hr.out⟩
        case measure => simp [intOf]; omega
    · obtain rfl : k = N := by omega
      have hall : pl.take k = pl := List.take_of_length_le (by have := HN.out; omega)
      rw [hall] at hn
      clear hall
      go_wp2
      go_ret
      exact ⟨by rw [hn.out]; rfl, hb.out⟩
end Go.Proofs.Ytjobjdmheocheaa
