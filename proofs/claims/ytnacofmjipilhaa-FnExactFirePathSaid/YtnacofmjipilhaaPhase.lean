/- Contracts of the functions on phases: copies, comparison, validity, speed, work done. Conditions: as each states. -/
import Derived.Test.YtnacofmjipilhaaInts
import Derived.Test.YtnacofmjipilhaaNum
import Derived.StillTailTactics
import Derived.Deep.QuietTactic
import Derived.BigQuiet
namespace Go.Proofs.Ytnacofmjipilhaa
open Go.ChangeShapes Go.WideShapes Go.ChangeAt Go.RowKit
set_option linter.unusedVariables false
set_option linter.unusedSimpArgs false
set_option maxRecDepth 100000

def encP (p : Int × Int) : List Value := [.int .i64 p.1, .int .i64 p.2]
theorem encP_length (p : Int × Int) : (encP p).length = 2 := rfl
abbrev phs (ps : List (Int × Int)) : List Value := ps.flatMap encP
theorem info_phase : (Try.prog.info? 123).map (fun i => (i.zero, i.size, i.bytes)) = some (some (.agg #[.int .i64 0, .int .i64 0]), 2, 16) := by kernel_rfl
/-- A phase of a slice that lies in memory: its two cells. -/
theorem Sl.ph {w : World} {A : Option Addr} {c n : Nat} {ps : List (Int × Int)} (h : Sl w 2 (.slice A n c) n (phs ps)) (hn : ps.length = n) {i : Nat} (hi : i < n) :
    ∃ b off f s, A = some ⟨b, off, none⟩ ∧ ps[i]? = some (f, s) ∧ w.cell? ⟨b, off + i * 2, none⟩ = some (.int .i64 f) ∧ w.cell? ⟨b, off + i * 2 + 1, none⟩ = some (.int .i64 s) := by
  obtain ⟨b, off, ⟨f, s⟩, rfl, hx, hc⟩ := h.at_ encP_length hn (by omega) hi
  exact ⟨b, off, f, s, rfl, hx, hc 0 _ rfl, hc 1 _ rfl⟩
section
variable {H : Type} {enc : TypeId × Value → H} {W : World} {base b0 : Nat} {v : Value} {d : DataW H} {pl : List MemPlace}
open Go.Deep
end
theorem toPhase_any (f s : Int) (w : World) :
    Calls Try.prog 116 #[.agg #[.int .i64 f, .int .i64 s]] w fun e w' => e = .returned (.agg #[.int .i64 f, .int .i64 s]) ∧ Below w.heap.size w w' := by
  go_enter Try.func116, Try.ntmps116
  go_wp2
  exact bodyPost_ret (v := .agg #[.int .i64 f, .int .i64 s]) (by simp [results, Try.results116, go_sem]) rfl ⟨rfl, grow_trans (grow_trans (grow_alloc _ _) (grow_alloc _ _)) (grow_alloc _ _)⟩
set_option maxHeartbeats 2000000 in
theorem toPhaseS_any (v : Value) (ps : List (Int × Int)) (w : World) (hs : Sl w 2 v ps.length (phs ps)) (hn : ps.length ≤ 1048576) :
    Calls Try.prog 57 #[v] w (RetOwn w 123 2 ps.length (phs ps)) := by
  obtain ⟨A, c, rfl⟩ := hs.val
  obtain ⟨i0, hi0, hz0, hz1, hz2⟩ := info_parts info_phase
  have hfl := flat_length encP_length ps
  generalize hN : ps.length = N at hs hn hfl ⊢
  have HN := Lib.hid hN
  have Hfl := Lib.hid hfl
  clear hN hfl
  have hby : i0.bytes * N ≤ 281474976710656 := by rw [hz2]; omega
  have hmx : N ≤ maxLen := by unfold maxLen; omega
  go_enter Try.func57, Try.ntmps57
  go_wp2_with (at_make; refine wpList_make_full _ rfl _ _ 81 rfl w.heap.size 123 i0 (.agg #[.int .i64 0, .int .i64 0]) 2 Try.underlying81 hi0 hz0 hz1 _ _ _ _ N rfl rfl rfl rfl hby hmx (Nat.le_refl _) ?_)
  intro w1 hown hgrow
  have hb1 : Below w.heap.size w w1 := (Below.refl _ _).grown hgrow (Nat.le_refl _) (by simp)
  have hN1 : w.heap.size < w1.heap.size ∨ N = 0 := by
    rcases Nat.eq_zero_or_pos N with h0 | h0
    · exact .inr h0
    · obtain ⟨_, _, _, hg⟩ := own_form hown
      obtain ⟨g, e, _, hg⟩ := hg h0
      simp_all
  go_wp2
  go_loopw [4] (fun i wr => ∃ k : Nat, k ≤ N ∧ i = .int .i64 k ∧ Hid (Below w.heap.size w wr) ∧ Hid (w1.heap.size ≤ wr.heap.size) ∧ Hid (∃ cs, wr.ownsRow w.heap.size 123 2 (.slice (some ⟨w.heap.size, 0, none⟩) N N) N cs ∧ ∀ j, j < k * 2 → cs[j]? = (phs ps)[j]?)) (fun i _ => N - (intOf i).toNat)
  case atStart => exact ⟨0, Nat.zero_le _, rfl, hb1, Nat.le_refl _, _, hown, fun j hj => by omega⟩
  case round =>
    obtain ⟨k, hk, rfl, hb, hsz, hcs⟩ := hrel
    by_cases hlt : k < N
    · obtain ⟨b, off, f, s, rfl, hx, hc0, hc1⟩ := (hs.below hb.out).ph HN.out hlt
      obtain ⟨cs, ho, hp⟩ := hcs.out
      have hl := ho.1
      have Hx := Lib.hid hx
      have Hp := Lib.hid hp
      have Ho := Lib.hid ho
      clear hx hp hl hcs ho
      go_wp2_with fail
      refine (toPhase_any _ _ _).mono ?_
      rintro e w2 ⟨rfl, hb2⟩
      have o2 := own_below Ho.out hb2
      have hl := o2.1
      obtain ⟨u0, hu0⟩ : ∃ u, cs[k * 2]? = some u := ⟨_, List.getElem?_eq_getElem (by omega)⟩
      obtain ⟨u1, hu1⟩ : ∃ u, cs[k * 2 + 1]? = some u := ⟨_, List.getElem?_eq_getElem (by omega)⟩
      have d0 := o2.cellAt (k * 2) (by omega)
      have d1 := o2.cellAt (k * 2 + 1) (by omega)
      rw [hu0] at d0
      rw [hu1] at d1
      have f0 := o2.frozenAt (k * 2)
      have f1 := o2.frozenAt (k * 2 + 1)
      have O2 := Lib.hid o2
      have Hl := Lib.hid hl
      clear hu0 hu1 o2 hl
      go_wp2
      go_roundw
      case rel =>
        refine ⟨k + 1, by omega, by go_num, ((grow_trans hb.out hb2).setCell (Nat.le_refl _) _).setCell (Nat.le_refl _) _, Nat.le_trans hsz.out (Nat.le_trans hb2.size (by simp)), (cs.set (k * 2) (.int .i64 f)).set (k * 2 + 1) (.int .i64 s), ((O2.out.stored (k * 2) _).1.stored (k * 2 + 1) _).1, ?_⟩
        have hk2 : (k + 1) * 2 = k * 2 + 1 + 1 := by omega
        rw [hk2]
        have e0 : (phs ps)[k * 2]? = some (.int .i64 f) := flat_at encP_length Hx.out 0 _ rfl
        have e1 : (phs ps)[k * 2 + 1]? = some (.int .i64 s) := flat_at encP_length Hx.out 1 _ rfl
        exact prefix_set (prefix_set Hp.out (by have := Hl.out; omega) e0) (by have := Hl.out; simp; omega) e1
      case measure => simp [intOf]; omega
    · obtain ⟨cs, ho, hp⟩ := hcs.out
      have hcs' : cs = phs ps := prefix_all (n := N * 2) (fun j hj => hp j (by omega)) (by have := ho.1; omega) Hfl.out
      subst hcs'
      have Ho := Lib.hid ho
      clear ho hp hcs
      go_wp2
      go_ret
      exact ⟨_, rfl, Ho.out, hb.out⟩
theorem eqPhase_any (f s : Int) (w : World) :
    Calls Try.prog 120 #[.agg #[.int .i64 f, .int .i64 s], .agg #[.int .i64 f, .int .i64 s]] w fun e w' => e = .returned (.bool true) ∧ Below w.heap.size w w' := by
  go_enter Try.func120, Try.ntmps120
  go_wp2
  go_ret
  exact ⟨rfl, grow_trans (grow_alloc _ _) (grow_alloc _ _)⟩
set_option maxHeartbeats 2000000 in
theorem eqPhaseS_any (u v : Value) (ps : List (Int × Int)) (w : World) (hu : Sl w 2 u ps.length (phs ps)) (hv : Sl w 2 v ps.length (phs ps)) :
    Calls Try.prog 61 #[u, v] w fun e w' => e = .returned (.bool true) ∧ Below w.heap.size w w' := by
  have hmx := hu.len
  unfold maxLen at hmx
  obtain ⟨A, c, rfl⟩ := hu.val
  obtain ⟨A', c', rfl⟩ := hv.val
  generalize hN : ps.length = N at hu hv hmx ⊢
  have HN := Lib.hid hN
  clear hN
  go_enter Try.func61, Try.ntmps61
  go_wp2
  go_loopw [5] (fun i wr => ∃ k : Nat, k ≤ N ∧ i = .int .i64 k ∧ Hid (Below w.heap.size w wr)) (fun i _ => N - (intOf i).toNat)
  case atStart => exact ⟨0, Nat.zero_le _, rfl, Below.refl _ _⟩
  case round =>
    obtain ⟨k, hk, rfl, hb⟩ := hrel
    by_cases hlt : k < N
    · obtain ⟨b, off, f, s, rfl, hx, c0, c1⟩ := (hu.below hb.out).ph HN.out hlt
      obtain ⟨b', off', f', s', rfl, hx', d0, d1⟩ := (hv.below hb.out).ph HN.out hlt
      obtain ⟨rfl, rfl⟩ : f = f' ∧ s = s' := by rw [hx] at hx'; simpa using hx'
      clear hx hx'
      have hlz : (k : Int) < (N : Int) := by omega
      go_wp2_with fail
      go_still_tail 8, (by kernel_rfl)
      change wpList _ _ _ _ _ wr.drew
      generalize hwd : wr.drew = wd
      have hbd : Below w.heap.size w wd := by rw [← hwd]; exact hb.out.drew
      clear hwd
      go_wp2_with (go_at_call 120; refine (eqPhase_any _ _ _).mono ?_; rintro e w2 ⟨rfl, hb2⟩)
      go_roundw
      case rel => exact ⟨k + 1, by omega, by go_num, grow_trans hbd hb2⟩
      case measure => simp [intOf]; omega
    · go_wp2
      go_ret
      exact ⟨rfl, hb.out⟩
/-- One phase of a list is well placed. -/
def phStep (ps : List (Int × Int)) (i : Nat) : Bool := match ps[i]? with
  | none => true
  | some p => inB p.1 0 9999 && inB p.2 1 9 && (match i with | 0 => p.1 == 0 | j + 1 => match ps[j]? with | none => true | some q => decide (q.1 < p.1))
/-- Phases are valid. -/
def phB (ps : List (Int × Int)) : Bool := inB ps.length 1 6 && (List.range ps.length).all (phStep ps)
theorem phB_no {ps : List (Int × Int)} {i : Nat} (hi : i < ps.length) (h : phStep ps i = false) : phB ps = false := by
  unfold phB
  rw [Bool.and_eq_false_iff]
  right
  rw [List.all_eq_false]
  exact ⟨i, by simpa using hi, by simp [h]⟩
theorem phB_yes {ps : List (Int × Int)} (h : ∀ i, i < ps.length → phStep ps i = true) : phB ps = inB ps.length 1 6 := by
  unfold phB
  have : (List.range ps.length).all (phStep ps) = true := by
    rw [List.all_eq_true]
    intro i hi
    exact h i (by simpa using hi)
  rw [this, Bool.and_true]
set_option maxHeartbeats 4000000 in
theorem l4Phases_any (v : Value) (ps : List (Int × Int)) (w : World) (hs : Sl w 2 v ps.length (phs ps)) :
    Calls Try.prog 158 #[v] w fun e w' => e = .returned (.bool (phB ps)) ∧ Below w.heap.size w w' := by
  have hmx := hs.len
  unfold maxLen at hmx
  obtain ⟨A, c, rfl⟩ := hs.val
  cases h1 : inB ps.length 1 6
  · have Hr : Hid (phB ps = false) := by show _ = _; simp [phB, h1]
    clear hs
    go_enter Try.func158, Try.ntmps158
    go_wp2_with (go_at_call 96; refine (l1In_any _ _ _ _).mono ?_; rintro e w' ⟨rfl, rfl⟩)
    go_ret
    exact ⟨by rw [Hr.out]; rfl, Below.refl _ _⟩
  · obtain ⟨n1, n2⟩ := inB_iff.1 h1
    obtain ⟨b, off, f, s, rfl, hx, c0, c1⟩ := hs.ph rfl (i := 0) (by omega)
    generalize hN : ps.length = N at *
    have HN := Lib.hid hN
    have Hx := Lib.hid hx
    have Hs := Lib.hid hs
    clear hN hx hs
    simp only [Nat.zero_mul, Nat.add_zero] at c0 c1
    by_cases hf : f = 0
    · subst hf
      go_enter Try.func158, Try.ntmps158
      go_wp2_with (go_at_call 96; refine (l1In_any _ _ _ _).mono ?_; rintro e w' ⟨rfl, rfl⟩)
      go_loopw [3] (fun i wr => ∃ k : Nat, k ≤ N ∧ i = .int .i64 k ∧ Hid (Below w.heap.size w wr) ∧ Hid (∀ j, j < k → phStep ps j = true)) (fun i _ => N - (intOf i).toNat)
      case atStart => exact ⟨0, Nat.zero_le _, rfl, Below.refl _ _, fun j hj => by omega⟩
      case round =>
        obtain ⟨k, hk, rfl, hb, hst⟩ := hrel
        by_cases hlt : k < N
        · obtain ⟨b1, off1, f1, s1, e1, hx1, d0, d1⟩ := (Hs.out.below hb.out).ph HN.out hlt
          obtain ⟨rfl, rfl⟩ : b = b1 ∧ off = off1 := by simpa using e1
          have Hx1 := Lib.hid hx1
          have hlz : (k : Int) < (N : Int) := by omega
          clear hx1 e1 c0 c1
          cases a1 : inB f1 0 9999
          · have Hr : Hid (phB ps = false) := by show _ = _; exact phB_no (i := k) (by have := HN.out; omega) (by simp [phStep, Hx1.out, a1])
            go_wp2_with fail
            go_quiet (((first | (go_at_call 122; with_reducible exact quiet_same (l4Tick_any _ _)) | (go_at_call 96; with_reducible exact quiet_same (l1In_any _ _ _ _)))))
            go_wp2
            go_ret
            exact ⟨by rw [Hr.out]; rfl, hb.out.trans (grow_drewN _ _ |>.mono hb.out.size)⟩
          cases a2 : inB s1 1 9
          · have Hr : Hid (phB ps = false) := by show _ = _; exact phB_no (i := k) (by have := HN.out; omega) (by simp [phStep, Hx1.out, a1, a2])
            go_wp2_with fail
            go_quiet (((first | (go_at_call 122; with_reducible exact quiet_same (l4Tick_any _ _)) | (go_at_call 96; with_reducible exact quiet_same (l1In_any _ _ _ _)))))
            go_wp2
            go_ret
            exact ⟨by rw [Hr.out]; rfl, hb.out.trans (grow_drewN _ _ |>.mono hb.out.size)⟩
          by_cases hpos : 0 < k
          · obtain ⟨j, rfl⟩ : ∃ j, k = j + 1 := ⟨k - 1, by omega⟩
            obtain ⟨b2, off2, f0, s0, e2, hx2, g0, g1⟩ := (Hs.out.below hb.out).ph HN.out (i := j) (by omega)
            obtain ⟨rfl, rfl⟩ : b = b2 ∧ off = off2 := by simpa using e2
            have Hx2 := Lib.hid hx2
            clear hx2 e2 hpos
            have hk0 : decide ((0 : Int) < (j : Int) + 1) = true := by simp
            have hk1 : (j : Int) < (N : Int) := by omega
            by_cases hr : f0 < f1
            · have hr' : decide (f1 ≤ f0) = false := by simp; omega
              go_wp2_with fail
              go_quiet (((first | (go_at_call 122; with_reducible exact quiet_same (l4Tick_any _ _)) | (go_at_call 96; with_reducible exact quiet_same (l1In_any _ _ _ _)))))
              go_wp2
              go_roundw
              case rel =>
                refine ⟨j + 1 + 1, by omega, by go_num, hb.out.trans (grow_drewN _ _ |>.mono hb.out.size), fun i hi => ?_⟩
                by_cases e : i = j + 1
                · subst e
                  simp [phStep, Hx1.out, Hx2.out, a1, a2, hr]
                · exact hst.out i (by omega)
              case measure => simp [intOf]; omega
            · have hr' : decide (f1 ≤ f0) = true := by simp; omega
              have Hr : Hid (phB ps = false) := by show _ = _; exact phB_no (i := j + 1) (by have := HN.out; omega) (by simp [phStep, Hx1.out, Hx2.out, a1, a2]; omega)
              go_wp2_with fail
              go_quiet (((first | (go_at_call 122; with_reducible exact quiet_same (l4Tick_any _ _)) | (go_at_call 96; with_reducible exact quiet_same (l1In_any _ _ _ _)))))
              go_wp2
              go_ret
              exact ⟨by rw [Hr.out]; rfl, hb.out.trans (grow_drewN _ _ |>.mono hb.out.size)⟩
          · have hk0 : decide ((0 : Int) < (k : Int)) = false := by simp; omega
            have hk00 : decide (0 < k) = false := by simp; omega
            have Hz : Hid (k = 0) := by show _ = _; omega
            clear hpos
            go_wp2_with fail
            go_quiet (((first | (go_at_call 122; with_reducible exact quiet_same (l4Tick_any _ _)) | (go_at_call 96; with_reducible exact quiet_same (l1In_any _ _ _ _)))))
            go_wp2
            go_roundw
            case rel =>
              refine ⟨k + 1, by omega, by go_num, hb.out.trans (grow_drewN _ _ |>.mono hb.out.size), fun j hj => ?_⟩
              obtain rfl : j = 0 := by have := Hz.out; omega
              have h0 := Hz.out
              subst h0
              have h1 := Hx1.out
              rw [Hx.out] at h1
              simp only [Option.some.injEq, Prod.mk.injEq] at h1
              obtain ⟨rfl, rfl⟩ := h1
              simp [phStep, Hx.out, a2]
              decide
            case measure => simp [intOf]; omega
        · have Hr : Hid (phB ps = true) := by
            show _ = _
            rw [phB_yes (fun i hi => hst.out i (by have := HN.out; omega)), HN.out]
            exact h1
          go_wp2
          go_ret
          exact ⟨by rw [Hr.out]; rfl, hb.out⟩
    · have hf' : (f != 0) = true := by simp [hf]
      have Hr : Hid (phB ps = false) := by
        show _ = _
        exact phB_no (i := 0) (by have := HN.out; omega) (by simp [phStep, Hx.out, hf])
      go_enter Try.func158, Try.ntmps158
      go_wp2_with (go_at_call 96; refine (l1In_any _ _ _ _).mono ?_; rintro e w' ⟨rfl, rfl⟩)
      go_ret
      exact ⟨by rw [Hr.out]; rfl, Below.refl _ _⟩
set_option maxHeartbeats 4000000 in
theorem ArePhases_any (v : Value) (ps : List (Int × Int)) (w : World) (hs : Sl w 2 v ps.length (phs ps)) :
    Calls Try.prog 166 #[v] w fun e w' => e = .returned (.bool (phB ps)) ∧ Below w.heap.size w w' := by
  have hmx := hs.len
  unfold maxLen at hmx
  obtain ⟨A, c, rfl⟩ := hs.val
  generalize hN : ps.length = N at *
  have HN := Lib.hid hN
  have Hs := Lib.hid hs
  clear hN hs
  go_enter Try.func166, Try.ntmps166
  go_wp2
  go_loopw [7] (fun i wr => ∃ k : Nat, k ≤ N ∧ i = .int .i64 k ∧ Hid (Below w.heap.size w wr) ∧ Hid (∀ j, j < k → phStep ps j = true)) (fun i _ => N - (intOf i).toNat)
  case atStart => exact ⟨0, Nat.zero_le _, rfl, Below.refl _ _, fun j hj => by omega⟩
  case round =>
    obtain ⟨k, hk, rfl, hb, hst⟩ := hrel
    by_cases hlt : k < N
    · obtain ⟨b, off, f1, s1, rfl, hx1, d0, d1⟩ := (Hs.out.below hb.out).ph HN.out hlt
      have hbl := World.block_lt_of_cell? wr _ d0
      simp only at hbl
      have Hx1 := Lib.hid hx1
      have hlz : (k : Int) < (N : Int) := by omega
      clear hx1
      cases a1 : inB f1 0 9999
      · have Hr : Hid (phB ps = false) := by show _ = _; exact phB_no (i := k) (by have := HN.out; omega) (by simp [phStep, Hx1.out, a1])
        go_wp2_with fail
        go_quiet (((first | (go_at_call 124; with_reducible exact quiet_same (isTick_any _ _)) | (go_at_call 95; with_reducible exact quiet_same (in_any _ _ _ _)))))
        go_wp2
        go_ret
        exact ⟨by rw [Hr.out]; rfl, grow_trans (grow_trans hb.out (grow_alloc _ _)) (grow_drewN _ _)⟩
      cases a2 : inB s1 1 9
      · have Hr : Hid (phB ps = false) := by show _ = _; exact phB_no (i := k) (by have := HN.out; omega) (by simp [phStep, Hx1.out, a1, a2])
        go_wp2_with fail
        go_quiet (((first | (go_at_call 124; with_reducible exact quiet_same (isTick_any _ _)) | (go_at_call 95; with_reducible exact quiet_same (in_any _ _ _ _)))))
        go_wp2
        go_ret
        exact ⟨by rw [Hr.out]; rfl, grow_trans (grow_trans hb.out (grow_alloc _ _)) (grow_drewN _ _)⟩
      by_cases hpos : 0 < k
      · obtain ⟨j, rfl⟩ : ∃ j, k = j + 1 := ⟨k - 1, by omega⟩
        obtain ⟨b2, off2, f0, s0, e2, hx2, g0, g1⟩ := (Hs.out.below hb.out).ph HN.out (i := j) (by omega)
        obtain ⟨rfl, rfl⟩ : b = b2 ∧ off = off2 := by simpa using e2
        have Hx2 := Lib.hid hx2
        clear hx2 e2 hpos
        have hk0 : decide ((0 : Int) < (j : Int) + 1) = true := by simp
        have hk1 : (j : Int) < (N : Int) := by omega
        have hk2 : ((j : Int) + 1 == 0) = false := by simp; omega
        by_cases hr : f0 < f1
        · have hr' : decide (f1 ≤ f0) = false := by simp; omega
          go_wp2_with fail
          go_quiet (((first | (go_at_call 124; with_reducible exact quiet_same (isTick_any _ _)) | (go_at_call 95; with_reducible exact quiet_same (in_any _ _ _ _)))))
          go_wp2
          go_roundw
          case rel =>
            refine ⟨j + 1 + 1, by omega, by go_num, grow_trans (grow_trans hb.out (grow_alloc _ _)) (grow_drewN _ _), fun i hi => ?_⟩
            by_cases e : i = j + 1
            · subst e
              simp [phStep, Hx1.out, Hx2.out, a1, a2, hr]
            · exact hst.out i (by omega)
          case measure => simp [intOf]; omega
        · have hr' : decide (f1 ≤ f0) = true := by simp; omega
          have Hr : Hid (phB ps = false) := by show _ = _; exact phB_no (i := j + 1) (by have := HN.out; omega) (by simp [phStep, Hx1.out, Hx2.out, a1, a2]; omega)
          go_wp2_with fail
          go_quiet (((first | (go_at_call 124; with_reducible exact quiet_same (isTick_any _ _)) | (go_at_call 95; with_reducible exact quiet_same (in_any _ _ _ _)))))
          go_wp2
          go_ret
          exact ⟨by rw [Hr.out]; rfl, grow_trans (grow_trans hb.out (grow_alloc _ _)) (grow_drewN _ _)⟩
      · have hk0 : decide ((0 : Int) < (k : Int)) = false := by simp; omega
        have hk00 : decide (0 < k) = false := by simp; omega
        have hk1 : ((k : Int) == 0) = true := by simp; omega
        have hk2 : (k == 0) = true := by simp; omega
        have Hz : Hid (k = 0) := by show _ = _; omega
        clear hpos
        by_cases hf : f1 = 0
        · have hf1 : (f1 != 0) = false := by simp [hf]
          have Hf := Lib.hid hf
          clear hf
          go_wp2_with fail
          go_quiet (((first | (go_at_call 124; with_reducible exact quiet_same (isTick_any _ _)) | (go_at_call 95; with_reducible exact quiet_same (in_any _ _ _ _)))))
          go_wp2
          go_roundw
          case rel =>
            refine ⟨k + 1, by omega, by go_num, grow_trans (grow_trans hb.out (grow_alloc _ _)) (grow_drewN _ _), fun j hj => ?_⟩
            obtain rfl : j = 0 := by have := Hz.out; omega
            have h0 := Hz.out
            subst h0
            have h1 := Hf.out
            subst h1
            simp [phStep, Hx1.out, a2]
            decide
          case measure => simp [intOf]; omega
        · have hf1 : (f1 != 0) = true := by simp [hf]
          have Hr : Hid (phB ps = false) := by
            show _ = _
            have h0 := Hz.out
            subst h0
            exact phB_no (i := 0) (by have := HN.out; omega) (by simp [phStep, Hx1.out, hf])
          clear hf
          go_wp2_with fail
          go_quiet (((first | (go_at_call 124; with_reducible exact quiet_same (isTick_any _ _)) | (go_at_call 95; with_reducible exact quiet_same (in_any _ _ _ _)))))
          go_wp2
          go_ret
          exact ⟨by rw [Hr.out]; rfl, grow_trans (grow_trans hb.out (grow_alloc _ _)) (grow_drewN _ _)⟩
    · have Hr : Hid (phB ps = inB N 1 6) := by
        show _ = _
        rw [phB_yes (fun i hi => hst.out i (by have := HN.out; omega)), HN.out]
      go_wp2_with (go_at_call 95; refine (in_any _ _ _ _).mono ?_; rintro e w' ⟨rfl, rfl⟩)
      go_ret
      exact ⟨by rw [Hr.out]; rfl, hb.out⟩
end Go.Proofs.Ytnacofmjipilhaa
