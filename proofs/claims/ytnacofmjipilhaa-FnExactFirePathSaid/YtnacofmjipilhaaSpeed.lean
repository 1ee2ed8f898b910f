/- Contracts of the speed at a tick and of work done, the program's and the reference's. Conditions: valid phases where the reference's search is concerned. -/
import Derived.Test.YtnacofmjipilhaaPhase
namespace Go.Proofs.Ytnacofmjipilhaa
open Go.ChangeShapes Go.WideShapes Go.ChangeAt Go.RowKit
set_option linter.unusedVariables false
set_option linter.unusedSimpArgs false
set_option maxRecDepth 100000

/-- The speed from a tick on. -/
def spd (ps : List (Int × Int)) (t : Int) : Int := ps.foldl (fun o p => if p.1 ≤ t then p.2 else o) 0
theorem spd_snoc (ps : List (Int × Int)) (p : Int × Int) (t : Int) : spd (ps ++ [p]) t = if p.1 ≤ t then p.2 else spd ps t := by simp [spd]
theorem take_snoc' {α : Type} {xs : List α} {k : Nat} {x : α} (h : xs[k]? = some x) : xs.take (k + 1) = xs.take k ++ [x] := by
  obtain ⟨hk, rfl⟩ := List.getElem?_eq_some_iff.1 h
  rw [List.take_succ_eq_append_getElem hk]
/-- What validity says of each phase. -/
theorem phB_step {ps : List (Int × Int)} (h : phB ps = true) {i : Nat} (hi : i < ps.length) : phStep ps i = true := by
  unfold phB at h
  rw [Bool.and_eq_true, List.all_eq_true] at h
  exact h.2 i (by simpa using hi)
theorem phB_len {ps : List (Int × Int)} (h : phB ps = true) : 1 ≤ ps.length ∧ ps.length ≤ 6 := by
  unfold phB at h
  rw [Bool.and_eq_true, inB_iff] at h
  omega
theorem phB_at {ps : List (Int × Int)} (h : phB ps = true) {i : Nat} {f s : Int} (hx : ps[i]? = some (f, s)) : 0 ≤ f ∧ f ≤ 9999 ∧ 1 ≤ s ∧ s ≤ 9 := by
  have hs := phB_step h (List.getElem?_eq_some_iff.1 hx).1
  simp only [phStep, hx, Bool.and_eq_true, inB_iff] at hs
  omega
theorem phB_first {ps : List (Int × Int)} (h : phB ps = true) {f s : Int} (hx : ps[0]? = some (f, s)) : f = 0 := by
  have hs := phB_step h (List.getElem?_eq_some_iff.1 hx).1
  simp only [phStep, hx, Bool.and_eq_true, beq_iff_eq] at hs
  exact hs.2
theorem phB_next {ps : List (Int × Int)} (h : phB ps = true) {i : Nat} {f s f' s' : Int} (hx : ps[i]? = some (f, s)) (hy : ps[i + 1]? = some (f', s')) : f < f' := by
  have hs := phB_step h (List.getElem?_eq_some_iff.1 hy).1
  simp only [phStep, hx, hy, Bool.and_eq_true, decide_eq_true_eq] at hs
  exact hs.2
theorem phB_mono {ps : List (Int × Int)} (h : phB ps = true) {i : Nat} {f s : Int} (hx : ps[i]? = some (f, s)) : ∀ d {f' s' : Int}, ps[i + d]? = some (f', s') → f ≤ f'
  | 0, f', s', hy => by rw [Nat.add_zero, hx] at hy; cases hy; exact Int.le_refl _
  | d + 1, f', s', hy => by
    have hd : i + d < ps.length := by have := (List.getElem?_eq_some_iff.1 hy).1; omega
    obtain ⟨⟨f1, s1⟩, h1⟩ : ∃ p, ps[i + d]? = some p := ⟨_, List.getElem?_eq_getElem hd⟩
    have a := phB_mono h hx d h1
    have b := phB_next h h1 hy
    omega
/-- The speed is that of the last phase that has begun. -/
theorem spd_at {ps : List (Int × Int)} (h : phB ps = true) {t : Int} {i : Nat} {f s : Int} (hx : ps[i]? = some (f, s)) (hf : f ≤ t) (hn : ∀ f' s', ps[i + 1]? = some (f', s') → t < f') : spd ps t = s := by
  have hlt := (List.getElem?_eq_some_iff.1 hx).1
  have key : ∀ d, i + 1 + d ≤ ps.length → spd (ps.take (i + 1 + d)) t = s := by
    intro d
    induction d with
    | zero => intro _; rw [Nat.add_zero, take_snoc' hx, spd_snoc, if_pos hf]
    | succ d ih =>
      intro hd
      obtain ⟨⟨f1, s1⟩, h1⟩ : ∃ p, ps[i + 1 + d]? = some p := ⟨_, List.getElem?_eq_getElem (by omega)⟩
      obtain ⟨⟨f2, s2⟩, h2⟩ : ∃ p, ps[i + 1]? = some p := ⟨_, List.getElem?_eq_getElem (by omega)⟩
      have a := phB_mono h h2 d h1
      have b := hn f2 s2 h2
      rw [← Nat.add_assoc, take_snoc' h1, spd_snoc, if_neg (by show ¬ f1 ≤ t; omega)]
      exact ih (by omega)
  have := key (ps.length - (i + 1)) (by omega)
  rwa [show i + 1 + (ps.length - (i + 1)) = ps.length by omega, List.take_length] at this
theorem spd_bd {ps : List (Int × Int)} (h : phB ps = true) {t : Int} (ht : 0 ≤ t) : 1 ≤ spd ps t ∧ spd ps t ≤ 9 := by
  obtain ⟨l1, l2⟩ := phB_len h
  obtain ⟨⟨f0, s0⟩, h0⟩ : ∃ p, ps[0]? = some p := ⟨_, List.getElem?_eq_getElem (by omega)⟩
  have key : ∀ d, d + 1 ≤ ps.length → 1 ≤ spd (ps.take (d + 1)) t ∧ spd (ps.take (d + 1)) t ≤ 9 := by
    intro d
    induction d with
    | zero =>
      intro _
      have a := phB_at h h0
      have b := phB_first h h0
      rw [take_snoc' h0, spd_snoc, if_pos (by show f0 ≤ t; omega)]
      exact ⟨a.2.2.1, a.2.2.2⟩
    | succ d ih =>
      intro hd
      obtain ⟨⟨f1, s1⟩, h1⟩ : ∃ p, ps[d + 1]? = some p := ⟨_, List.getElem?_eq_getElem (by omega)⟩
      have a := phB_at h h1
      rw [take_snoc' h1, spd_snoc]
      split
      · exact ⟨a.2.2.1, a.2.2.2⟩
      · exact ih (by omega)
  have := key (ps.length - 1) (by omega)
  rwa [show ps.length - 1 + 1 = ps.length by omega, List.take_length] at this
theorem spd_min {ps : List (Int × Int)} (h : phB ps = true) (t : Int) : spd ps (min t 9999) = spd ps t := by
  have key : ∀ d, d ≤ ps.length → spd (ps.take d) (min t 9999) = spd (ps.take d) t := by
    intro d
    induction d with
    | zero => intro _; rfl
    | succ d ih =>
      intro hd
      obtain ⟨⟨f1, s1⟩, h1⟩ : ∃ p, ps[d]? = some p := ⟨_, List.getElem?_eq_getElem (by omega)⟩
      have a := phB_at h h1
      rw [take_snoc' h1, spd_snoc, spd_snoc, ih (by omega)]
      by_cases e : f1 ≤ t
      · rw [if_pos (by show f1 ≤ min t 9999; omega), if_pos e]
      · rw [if_neg (by show ¬ f1 ≤ min t 9999; omega), if_neg e]
  have := key ps.length (Nat.le_refl _)
  rwa [List.take_length] at this

set_option maxHeartbeats 2000000 in
theorem speedAt_any (v : Value) (ps : List (Int × Int)) (t : Int) (w : World) (hs : Sl w 2 v ps.length (phs ps)) :
    Calls Try.prog 175 #[v, .int .i64 t] w fun e w' => e = .returned (.int .i64 (spd ps t)) ∧ Below w.heap.size w w' := by
  have hmx := hs.len
  unfold maxLen at hmx
  obtain ⟨A, c, rfl⟩ := hs.val
  generalize hN : ps.length = N at *
  have HN := Lib.hid hN
  have Hs := Lib.hid hs
  clear hN hs
  go_enter Try.func175, Try.ntmps175
  go_wp2
  go_loopw [5, 10] (fun o i wr => ∃ k : Nat, k ≤ N ∧ i = .int .i64 k ∧ o = .int .i64 (spd (ps.take k) t) ∧ Hid (Below w.heap.size w wr)) (fun _ i _ => N - (intOf i).toNat)
  case atStart => exact ⟨0, Nat.zero_le _, rfl, rfl, Below.refl _ _⟩
  case round =>
    obtain ⟨k, hk, rfl, rfl, hb⟩ := hrel
    by_cases hlt : k < N
    · obtain ⟨b, off, f1, s1, rfl, hx1, d0, d1⟩ := (Hs.out.below hb.out).ph HN.out hlt
      have hbl := World.block_lt_of_cell? wr _ d0
      simp only at hbl
      have Ht := Lib.hid (show spd (ps.take (k + 1)) t = if f1 ≤ t then s1 else spd (ps.take k) t by rw [take_snoc' hx1, spd_snoc])
      clear hx1
      by_cases ht : f1 ≤ t
      · go_wp2
        go_roundw
        case rel => exact ⟨k + 1, by omega, by go_num, by rw [Ht.out, if_pos ht], grow_trans hb.out (grow_alloc _ _)⟩
        case measure => simp [intOf]; omega
      · go_wp2
        go_roundw
        case rel => exact ⟨k + 1, by omega, by go_num, by rw [Ht.out, if_neg ht], grow_trans hb.out (grow_alloc _ _)⟩
        case measure => simp [intOf]; omega
    · have Hr : Hid (spd (ps.take k) t = spd ps t) := by show _ = _; rw [List.take_of_length_le (by have := HN.out; omega)]
      go_wp2
      go_ret
      exact ⟨ret_int Hr.out, hb.out⟩
set_option maxHeartbeats 2000000 in
theorem l4Speed_any (v : Value) (ps : List (Int × Int)) (t : Int) (w : World) (hs : Sl w 2 v ps.length (phs ps)) (hp : phB ps = true) (ht0 : 0 ≤ t) :
    Calls Try.prog 193 #[v, .int .i64 t] w fun e w' => e = .returned (.int .i64 (spd ps t)) ∧ w = w' := by
  obtain ⟨l1, l2⟩ := phB_len hp
  obtain ⟨A, c, rfl⟩ := hs.val
  have h0 : ∃ f s, ps[0]? = some (f, s) ∧ f ≤ t := by
    obtain ⟨⟨f0, s0⟩, h0⟩ : ∃ p, ps[0]? = some p := ⟨_, List.getElem?_eq_getElem (by omega)⟩
    exact ⟨f0, s0, h0, by have := phB_first hp h0; omega⟩
  generalize hN : ps.length = N at *
  have HN := Lib.hid hN
  have Hs := Lib.hid hs
  have Hp := Lib.hid hp
  have H0 := Lib.hid h0
  clear hN hs hp h0
  go_enter Try.func193, Try.ntmps193
  go_wp2
  go_loop [5] (fun i => ∃ k : Nat, k + 1 ≤ N ∧ i = .int .i64 k ∧ Hid (∃ f s, ps[k]? = some (f, s) ∧ f ≤ t)) (fun i => N - (intOf i).toNat)
  case atStart => exact ⟨0, by omega, rfl, H0.out⟩
  case round =>
    obtain ⟨k, hk, rfl, hf⟩ := hrel
    obtain ⟨b, off, f1, s1, rfl, hx1, c0, c1⟩ := Hs.out.ph HN.out (i := k) (by omega)
    have Hx1 := Lib.hid hx1
    clear hx1
    have hk1 : (k : Int) < (N : Int) := by omega
    by_cases hlt : k + 1 < N
    · obtain ⟨b2, off2, f2, s2, e2, hx2, g0, g1⟩ := Hs.out.ph HN.out (i := k + 1) hlt
      obtain ⟨rfl, rfl⟩ : b = b2 ∧ off = off2 := by simpa using e2
      have Hx2 := Lib.hid hx2
      clear hx2 e2
      have hk2 : (k : Int) + 1 < (N : Int) := by omega
      by_cases hle : f2 ≤ t
      · go_wp2
        go_round
        case rel => exact ⟨k + 1, by omega, by go_num, ⟨f2, s2, Hx2.out, hle⟩⟩
        case measure => simp [intOf]; omega
      · have Hr : Hid (spd ps t = s1) := by
          show _ = _
          obtain ⟨f, s, h1, h2⟩ := hf.out
          rw [Hx1.out] at h1
          cases h1
          exact spd_at Hp.out Hx1.out h2 (fun f' s' h => by rw [Hx2.out] at h; cases h; omega)
        go_wp2
        go_ret
        exact ⟨ret_int Hr.out.symm, rfl⟩
    · have Hr : Hid (spd ps t = s1) := by
        show _ = _
        obtain ⟨f, s, h1, h2⟩ := hf.out
        rw [Hx1.out] at h1
        cases h1
        exact spd_at Hp.out Hx1.out h2 (fun f' s' h => by have := (List.getElem?_eq_some_iff.1 h).1; have := HN.out; omega)
      have hk2 : decide ((k : Int) + 1 < (N : Int)) = false := by simp; omega
      go_wp2
      go_ret
      exact ⟨ret_int Hr.out.symm, rfl⟩
/-- The tick at which work is done. -/
def doneF (ps : List (Int × Int)) (t w : Int) : Int := if 0 < w then doneF ps (t + 1) (w - max 1 (spd ps t)) else t
termination_by w.toNat
decreasing_by omega
theorem doneF_pos {ps : List (Int × Int)} (h : phB ps = true) {t w : Int} (ht : 0 ≤ t) (hw : 0 < w) : doneF ps t w = doneF ps (t + 1) (w - spd ps t) := by
  have := spd_bd h ht
  rw [doneF, if_pos hw, show max 1 (spd ps t) = spd ps t by omega]
theorem doneF_zero {ps : List (Int × Int)} {t w : Int} (hw : ¬ 0 < w) : doneF ps t w = t := by
  rw [doneF, if_neg hw]
theorem doneF_ge (ps : List (Int × Int)) : ∀ (n : Nat) (t w : Int), w.toNat ≤ n → t ≤ doneF ps t w ∧ doneF ps t w ≤ t + max 0 w
  | 0, t, w, h => by rw [doneF_zero (by omega)]; omega
  | n + 1, t, w, h => by
    by_cases hw : 0 < w
    · rw [doneF, if_pos hw]
      have := doneF_ge ps n (t + 1) (w - max 1 (spd ps t)) (by omega)
      omega
    · rw [doneF_zero hw]; omega
theorem doneF_bd (ps : List (Int × Int)) (t w : Int) : t ≤ doneF ps t w ∧ doneF ps t w ≤ t + max 0 w := doneF_ge ps w.toNat t w (Nat.le_refl _)
set_option maxHeartbeats 2000000 in
theorem l4Done_any (v : Value) (ps : List (Int × Int)) (t x : Int) (w : World) (hs : Sl w 2 v ps.length (phs ps)) (hp : phB ps = true) (ht0 : 0 ≤ t) (ht1 : t ≤ 100000) (hx0 : -100000 ≤ x) (hx : x ≤ 100000) :
    Calls Try.prog 163 #[v, .int .i64 t, .int .i64 x] w fun e w' => e = .returned (.int .i64 (doneF ps t x)) ∧ Below w.heap.size w w' := by
  have Hs := Lib.hid fun W hW => hs.below (w' := W) hW
  have Hp := Lib.hid hp
  clear hs hp
  go_enter Try.func163, Try.ntmps163
  go_wp2
  go_loopw [1, 2] (fun T X wr => ∃ a b : Int, T = .int .i64 a ∧ X = .int .i64 b ∧ t ≤ a ∧ a + max 0 b ≤ t + max 0 x ∧ -100000 ≤ b ∧ b ≤ 100000 ∧ Hid (doneF ps t x = doneF ps a b) ∧ Hid (Below w.heap.size w wr)) (fun _ X _ => (intOf X).toNat)
  case atStart => exact ⟨t, x, rfl, rfl, by omega, by omega, by omega, by omega, rfl, Below.refl _ _⟩
  case round =>
    obtain ⟨a, b, rfl, rfl, h1, h2, h3, h4, hd, hb⟩ := hrel
    by_cases hlt : 0 < b
    · have hq := spd_bd Hp.out (t := a) (by omega)
      have hd' := hd.out
      rw [doneF_pos Hp.out (by omega) hlt] at hd'
      have Hd := Lib.hid hd'
      have hsm := spd_min Hp.out a
      have Hm := Lib.hid hsm
      clear hd' hd hsm
      go_wp2_with fail
      refine (l4Speed_any _ ps _ _ (Hs.out _ hb.out) Hp.out (by omega)).mono ?_
      rintro e w1 ⟨rfl, rfl⟩
      have hb1 := Below.refl wr.heap.size wr
      generalize spd ps a = q at hq Hd Hm ⊢
      obtain ⟨q1, q2⟩ := hq
      go_wp2
      go_roundw
      case rel => exact ⟨a + 1, b - q, rfl, rfl, by omega, by omega, by omega, by omega, Hd.out, grow_trans hb.out hb1⟩
      case measure => simp [intOf]; omega
    · have hd' := hd.out
      rw [doneF_zero hlt] at hd'
      have Hd := Lib.hid hd'
      clear hd' hd
      go_wp2
      go_ret
      exact ⟨ret_int Hd.out.symm, hb.out⟩
set_option maxHeartbeats 2000000 in
theorem done_any (v : Value) (ps : List (Int × Int)) (t x : Int) (w : World) (hs : Sl w 2 v ps.length (phs ps)) (hp : phB ps = true) (ht0 : 0 ≤ t) (ht1 : t ≤ 100000) (hx0 : -100000 ≤ x) (hx : x ≤ 100000) :
    Calls Try.prog 132 #[v, .int .i64 t, .int .i64 x] w fun e w' => e = .returned (.int .i64 (doneF ps t x)) ∧ Below w.heap.size w w' := by
  have Hs := Lib.hid fun W hW => hs.below (w' := W) hW
  have Hp := Lib.hid hp
  clear hs hp
  go_enter Try.func132, Try.ntmps132
  go_wp2
  go_loopw [1, 2] (fun T X wr => ∃ a b : Int, T = .int .i64 a ∧ X = .int .i64 b ∧ t ≤ a ∧ a + max 0 b ≤ t + max 0 x ∧ -100000 ≤ b ∧ b ≤ 100000 ∧ Hid (doneF ps t x = doneF ps a b) ∧ Hid (Below w.heap.size w wr)) (fun _ X _ => (intOf X).toNat)
  case atStart => exact ⟨t, x, rfl, rfl, by omega, by omega, by omega, by omega, rfl, Below.refl _ _⟩
  case round =>
    obtain ⟨a, b, rfl, rfl, h1, h2, h3, h4, hd, hb⟩ := hrel
    by_cases hlt : 0 < b
    · have hq := spd_bd Hp.out (t := a) (by omega)
      have hd' := hd.out
      rw [doneF_pos Hp.out (by omega) hlt] at hd'
      have Hd := Lib.hid hd'
      have hsm := spd_min Hp.out a
      have Hm := Lib.hid hsm
      clear hd' hd hsm
      by_cases ha : a ≤ 9999
      · clear Hm
        go_wp2_with fail
        refine (speedAt_any _ ps _ _ (Hs.out _ hb.out)).mono ?_
        rintro e w1 ⟨rfl, hb1⟩
        generalize spd ps a = q at hq Hd ⊢
        obtain ⟨q1, q2⟩ := hq
        go_wp2
        go_roundw
        case rel => exact ⟨a + 1, b - q, rfl, rfl, by omega, by omega, by omega, by omega, Hd.out, grow_trans hb.out hb1⟩
        case measure => simp [intOf]; omega
      · have hm : spd ps 9999 = spd ps a := by have := Hm.out; rwa [show min a 9999 = 9999 by omega] at this
        have HM := Lib.hid hm
        clear hm Hm
        go_wp2_with fail
        refine (speedAt_any _ ps _ _ (Hs.out _ hb.out)).mono ?_
        rintro e w1 ⟨rfl, hb1⟩
        rw [HM.out]
        clear HM
        generalize spd ps a = q at hq Hd ⊢
        obtain ⟨q1, q2⟩ := hq
        go_wp2
        go_roundw
        case rel => exact ⟨a + 1, b - q, rfl, rfl, by omega, by omega, by omega, by omega, Hd.out, grow_trans hb.out hb1⟩
        case measure => simp [intOf]; omega
    · have hd' := hd.out
      rw [doneF_zero hlt] at hd'
      have Hd := Lib.hid hd'
      clear hd' hd
      go_wp2
      go_ret
      exact ⟨ret_int Hd.out.symm, hb.out⟩
theorem l4Speed_grow (v : Value) (ps : List (Int × Int)) (t : Int) (w : World) (hs : Sl w 2 v ps.length (phs ps)) (hp : phB ps = true) (ht0 : 0 ≤ t) :
    Calls Try.prog 193 #[v, .int .i64 t] w fun e w' => e = .returned (.int .i64 (spd ps t)) ∧ Below w.heap.size w w' :=
  (l4Speed_any v ps t w hs hp ht0).mono fun e w' ⟨h1, h2⟩ => ⟨h1, h2 ▸ Below.refl _ _⟩
theorem szPhaseS_any (v : Value) (k : Int) (n : Nat) (cs : List Value) (w : World) (h : Sl w 2 v n cs) (h1 : 0 ≤ k) (h2 : k ≤ 1048576) :
    Calls Try.prog 54 #[v, .int .i64 k] w fun e w' => e = .returned (.int .i64 (szN' k n)) ∧ Below w.heap.size w w' := by
  have hmx := h.len
  unfold maxLen at hmx
  obtain ⟨A, c, rfl⟩ := h.val
  clear h
  go_enter Try.func54, Try.ntmps54
  go_wp2
  all_goals
    go_ret
    exact ⟨by unfold szN'; first | (rw [if_pos (by omega)]; rfl) | (rw [if_neg (by omega)]; rfl), Below.refl _ _⟩
theorem szPhaseS_ok (u : Value) (k : Int) (n : Nat) (cs : List Value) (w : World) (h : Sl w 2 u n cs) (h1 : 0 ≤ k) (h2 : k ≤ 1048576) (h3 : (n : Int) ≤ k) :
    Calls Try.prog 54 #[u, .int .i64 k] w fun e w' => e = .returned (.int .i64 (k - n)) ∧ Below w.heap.size w w' := by
  have := szPhaseS_any u k n cs w h h1 h2
  rwa [show szN' k n = k - n by unfold szN'; rw [if_neg (by omega)]] at this
theorem szPhaseS_no (u : Value) (k : Int) (n : Nat) (cs : List Value) (w : World) (h : Sl w 2 u n cs) (h1 : 0 ≤ k) (h2 : k ≤ 1048576) (h3 : ¬ (n : Int) ≤ k) :
    Calls Try.prog 54 #[u, .int .i64 k] w fun e w' => e = .returned (.int .i64 (-1)) ∧ Below w.heap.size w w' := by
  have := szPhaseS_any u k n cs w h h1 h2
  rwa [show szN' k n = -1 by unfold szN'; rw [if_pos (by omega)]] at this
/-- The result of WorkDone. -/
def workO (ps : List (Int × Int)) (t x : Int) : Option Int := if phB ps && inB t 0 9999 && inB x 0 1000 && inB (doneF ps t x) 0 9999 then some (doneF ps t x) else none
end Go.Proofs.Ytnacofmjipilhaa
