/- LastArrival and BurnedBy in the program and in the reference. Conditions: as each states. -/
import Derived.Test.YtnacofmjipilhaaArr4
import Derived.Test.YtnacofmjipilhaaCell2
namespace Go.Proofs.Ytnacofmjipilhaa
open Go.ChangeShapes Go.WideShapes Go.ChangeAt Go.RowKit Go.Deep
set_option linter.unusedVariables false
set_option linter.unusedSimpArgs false
set_option maxRecDepth 100000

/-- The greatest of the first ticks. -/
def mxF (L : List Int) : Nat → Int
  | 0 => -1
  | k + 1 => max (mxF L k) (tm L k)
theorem mxF_ge (L : List Int) : ∀ k, -1 ≤ mxF L k
  | 0 => Int.le_refl _
  | k + 1 => by have := mxF_ge L k; unfold mxF; omega
theorem mxF_le {L : List Int} (h : ∀ c, tm L c ≤ 4000) : ∀ k, mxF L k ≤ 4000
  | 0 => by unfold mxF; omega
  | k + 1 => by have := mxF_le h k; have := h k; unfold mxF; omega
/-- The result of LastArrival. -/
noncomputable def lastR (x y : Int) (zs : List Int) (ps : List (Int × Int)) (srcs : List Int) (s : Int) : Value :=
  okR (fireB x y zs ps srcs s && decide (mxF (arrL x zs ps srcs s) zs.length ≠ -1)) (mxF (arrL x zs ps srcs s) zs.length)
theorem last_no {x y : Int} {zs : List Int} {ps : List (Int × Int)} {srcs : List Int} {s : Int} (h : fireB x y zs ps srcs s = false) : lastR x y zs ps srcs s = .tuple #[.int .i64 0, .bool false] := by
  unfold lastR; rw [h]; rfl
theorem last_yes {x y : Int} {zs : List Int} {ps : List (Int × Int)} {srcs : List Int} {s : Int} (h : fireB x y zs ps srcs s = true) : lastR x y zs ps srcs s = if mxF (arrL x zs ps srcs s) zs.length = -1 then .tuple #[.int .i64 0, .bool false] else .tuple #[.int .i64 (mxF (arrL x zs ps srcs s) zs.length), .bool true] := by
  unfold lastR; rw [h]
  by_cases e : mxF (arrL x zs ps srcs s) zs.length = -1
  · rw [if_pos e]; simp [e, okR]
  · rw [if_neg e]; simp [e, okR]
/-- The cells in which fire arrives up to a tick. -/
noncomputable def burL (x : Int) (zs : List Int) (ps : List (Int × Int)) (srcs : List Int) (s t : Int) : List Int := selN (fun k => inB (tm (arrL x zs ps srcs s) k) 0 t) zs.length
theorem own_tm {w : World} {base g c N : Nat} {L : List Int} (h : w.ownsRow base 3 1 (.slice (some ⟨g, 0, none⟩) N c) N (ints L)) (hl : L.length = N) {k : Nat} (hk : k < N) : w.cell? ⟨g, k, none⟩ = some (.int .i64 (tm L k)) := by
  rw [h.cellAt k (by omega)]
  simp [tm_get (show k < L.length by omega)]
set_option maxHeartbeats 2000000 in
theorem Max_int_any (g c N : Nat) (L : List Int) (base : Nat) (w : World) (h : w.ownsRow base 3 1 (.slice (some ⟨g, 0, none⟩) N c) N (ints L)) (hl : L.length = N) (h0 : 0 < N) (hN : N ≤ 25) (hge : ∀ k, -1 ≤ tm L k) :
    Calls Try.prog 121 #[.slice (some ⟨g, 0, none⟩) N c] w fun e w' => e = .returned (.int .i64 (mxF L N)) ∧ w = w' := by
  have H := Lib.hid fun k hk => own_tm (k := k) h hl hk
  have c0 := H.out 0 h0
  have hM : Hid (mxF L 1 = tm L 0) := by show _ = _; have := hge 0; unfold mxF mxF; omega
  have HS : Hid (∀ k, mxF L (k + 1) = max (mxF L k) (tm L k)) := fun k => rfl
  clear h hl hge
  go_enter Try.func121, Try.ntmps121
  go_wp2
  go_loop [3, 4] (fun m i => ∃ k : Nat, 1 ≤ k ∧ k ≤ N ∧ i = .int .i64 k ∧ m = .int .i64 (mxF L k)) (fun _ i => N - (intOf i).toNat)
  case atStart => exact ⟨1, Nat.le_refl _, h0, rfl, by rw [hM.out]⟩
  case round =>
    obtain ⟨k, hk1, hk, rfl, rfl⟩ := hrel
    by_cases hlt : k < N
    · have hlz : (k : Int) < (N : Int) := by omega
      have ck := H.out k hlt
      have Hk := Lib.hid (HS.out k)
      generalize mxF L k = m at *
      generalize tm L k = t at *
      go_wp2
      all_goals
        go_round
        case rel => exact ⟨k + 1, by omega, by omega, by go_num, by rw [Hk.out]; first | rfl | (congr 1; omega)⟩
        case measure => simp [intOf]; omega
    · obtain rfl : k = N := by omega
      go_wp2
      go_ret
      exact ⟨rfl, rfl⟩
set_option maxHeartbeats 4000000 in
theorem sLastArrival_any (x y : Int) (u : Value) (zs : List Int) (v : Value) (ps : List (Int × Int)) (r : Value) (srcs : List Int) (s : Int) (w : World) (h : Sl w 1 u zs.length (ints zs)) (hps : Sl w 2 v ps.length (phs ps)) (hr : Sl w 1 r srcs.length (ints srcs)) (hsl : srcs.length ≤ 1048576) :
    Calls Try.prog 63 #[terrV x y u, v, r, .int .i64 s] w fun e w' => e = .returned (lastR x y zs ps srcs s) ∧ Below w.heap.size w w' := by
  have hbx : Below w.heap.size w (w.alloc (.cells #[.int .i64 x, .int .i64 y, u] 79)) := grow_alloc _ _
  have HA := Lib.hid (l4Asked_any x y u zs v ps r srcs s _ (h.below hbx) (hps.below hbx) (hr.below hbx))
  have HR : Hid (fireB x y zs ps srcs s = true → 0 < zs.length ∧ zs.length ≤ 25 ∧ (0 ≤ s ∧ s ≤ 1000) ∧ ∀ W, Below w.heap.size w W → Calls Try.prog 115 #[terrV x y u, v, r, .int .i64 s] W (RetArr W x zs ps srcs s)) := fun hf => by
    obtain ⟨f1, f2, f3, f4, _⟩ := fire_facts hf
    obtain ⟨hx, hy, hxy, h25⟩ := terr_dims f1
    have : 0 < x * y := Int.mul_pos (by omega) (by omega)
    exact ⟨by omega, by omega, f3, fun W hW => l4Arrivals_any x y u zs v ps r srcs s W (h.below hW) (hps.below hW) (hr.below hW) f1 f2 f3.1 f3.2⟩
  have hc : ∀ w1, Below (w.alloc (.cells #[.int .i64 x, .int .i64 y, u] 79)).heap.size (w.alloc (.cells #[.int .i64 x, .int .i64 y, u] 79)) w1 → TB w1 w.heap.size x y u := fun w1 hb => TB.below (by unfold TB; simp [go_sem]) hb
  have Hc := Lib.hid hc
  have hbx := Lib.hid hbx
  have HY : Hid (fireB x y zs ps srcs s = true → lastR x y zs ps srcs s = if mxF (arrL x zs ps srcs s) zs.length = -1 then .tuple #[.int .i64 0, .bool false] else .tuple #[.int .i64 (mxF (arrL x zs ps srcs s) zs.length), .bool true]) := last_yes
  have HNo : Hid (fireB x y zs ps srcs s = false → lastR x y zs ps srcs s = .tuple #[.int .i64 0, .bool false]) := last_no
  clear hps hr hc
  cases hf : fireB x y zs ps srcs s with
  | false =>
    have hV := Lib.hid (HNo.out hf)
    rw [hf] at HA
    clear HR hf HY HNo h
    generalize lastR x y zs ps srcs s = V at *
    go_enter Try.func63, Try.ntmps63
    go_wp2_with fail
    with_reducible refine HA.out.mono ?_
    rintro e w1 ⟨rfl, hb1⟩
    have hb1 := Lib.hid (grow_trans hbx.out hb1)
    go_wp2
    go_ret2
    exact ⟨by rw [hV.out]; rfl, hb1.out⟩
  | true =>
    obtain ⟨hN0, h25, hs01, HR⟩ := HR.out hf
    have HR := Lib.hid HR
    have hV := Lib.hid (HY.out hf)
    rw [hf] at HA
    clear hf HY HNo h
    generalize lastR x y zs ps srcs s = V at *
    have HS : Hid (∀ k, mxF (arrL x zs ps srcs s) (k + 1) = max (mxF (arrL x zs ps srcs s) k) (tm (arrL x zs ps srcs s) k)) := fun k => rfl
    unfold RetArr at HR
    generalize arrL x zs ps srcs s = R at *
    generalize hNN : zs.length = N at *
    clear hNN
    go_enter Try.func63, Try.ntmps63
    go_wp2_with fail
    with_reducible refine HA.out.mono ?_
    rintro e w1 ⟨rfl, hb1⟩
    obtain ⟨t0, t1, t2⟩ := Hc.out _ hb1
    have hb1 := Lib.hid (grow_trans hbx.out hb1)
    go_wp2_with fail
    with_reducible refine (HR.out _ hb1.out).mono ?_
    intro e w9 hra
    obtain ⟨⟨rv, rfl, ho, hb9⟩, hlf, hbd⟩ := hra
    have hl : Hid (R.length = N) := by have := ho.1; show _ = _; simp at this; omega
    have hs9 := hb1.out.size
    have ho := Lib.hid ho
    have hbd := Lib.hid hbd
    have hb9 := Lib.hid (grow_trans hb1.out hb9)
    obtain ⟨_, cv, rfl, hg⟩ := own_form ho.out
    obtain ⟨g, rfl, hg1, hg2⟩ := hg hN0
    clear hg hlf
    go_wp2
    go_loop [10, 12] (fun m i => ∃ k : Nat, k ≤ N ∧ i = .int .i64 k ∧ m = .int .i64 (mxF R k)) (fun _ i => N - (intOf i).toNat)
    case atStart => exact ⟨0, Nat.zero_le _, rfl, rfl⟩
    case round =>
      obtain ⟨k, hk, rfl, rfl⟩ := hrel
      by_cases hlt : k < N
      · have hlz : (k : Int) < (N : Int) := by omega
        have ck := own_tm ho.out hl.out hlt
        have Hk := Lib.hid (HS.out k)
        generalize mxF R k = m at *
        generalize tm R k = t at *
        go_wp2_with fail
        with_reducible refine (l1Most_any m t _).mono ?_
        rintro e w2 ⟨rfl, rfl⟩
        go_wp2
        go_round
        case rel => exact ⟨k + 1, by omega, by go_num, by rw [Hk.out]⟩
        case measure => simp [intOf]; omega
      · obtain rfl : k = N := by omega
        generalize mxF R k = m at *
        by_cases hm : m = -1
        · have hV2 : Hid (V = .tuple #[.int .i64 0, .bool false]) := by show _ = _; rw [hV.out, if_pos hm]
          subst hm
          go_wp2
          go_ret2
          exact ⟨by rw [hV2.out]; rfl, hb9.out⟩
        · have hV2 : Hid (V = .tuple #[.int .i64 m, .bool true]) := by show _ = _; rw [hV.out, if_neg hm]
          have hm' : (m == -1) = false := by simpa using hm
          go_wp2
          go_ret2
          exact ⟨by rw [hV2.out]; rfl, hb9.out⟩
set_option maxHeartbeats 4000000 in
theorem LastArrival_any (x y : Int) (u : Value) (zs : List Int) (v : Value) (ps : List (Int × Int)) (r : Value) (srcs : List Int) (s : Int) (w : World) (h : Sl w 1 u zs.length (ints zs)) (hps : Sl w 2 v ps.length (phs ps)) (hr : Sl w 1 r srcs.length (ints srcs)) (hsl : srcs.length ≤ 1048576) :
    Calls Try.prog 64 #[terrV x y u, v, r, .int .i64 s] w fun e w' => e = .returned (lastR x y zs ps srcs s) ∧ Below w.heap.size w w' := by
  have hbx : Below w.heap.size w (w.alloc (.cells #[.int .i64 x, .int .i64 y, u] 79)) := grow_alloc _ _
  have HA := Lib.hid (isFire_any x y u zs v ps r srcs s _ (h.below hbx) (hps.below hbx) (hr.below hbx))
  have HR : Hid (fireB x y zs ps srcs s = true → 0 < zs.length ∧ zs.length ≤ 25 ∧ (0 ≤ s ∧ s ≤ 1000) ∧ ∀ W, Below w.heap.size w W → Calls Try.prog 119 #[terrV x y u, v, r, .int .i64 s] W (RetArr W x zs ps srcs s)) := fun hf => by
    obtain ⟨f1, f2, f3, f4, _⟩ := fire_facts hf
    obtain ⟨hx, hy, hxy, h25⟩ := terr_dims f1
    have : 0 < x * y := Int.mul_pos (by omega) (by omega)
    exact ⟨by omega, by omega, f3, fun W hW => arrivals_any x y u zs v ps r srcs s W (h.below hW) (hps.below hW) (hr.below hW) f1 f2 f3.1 f3.2 f4 hsl⟩
  have hc : ∀ w1, Below (w.alloc (.cells #[.int .i64 x, .int .i64 y, u] 79)).heap.size (w.alloc (.cells #[.int .i64 x, .int .i64 y, u] 79)) w1 → TB w1 w.heap.size x y u := fun w1 hb => TB.below (by unfold TB; simp [go_sem]) hb
  have Hc := Lib.hid hc
  have hbx := Lib.hid hbx
  have HY : Hid (fireB x y zs ps srcs s = true → lastR x y zs ps srcs s = if mxF (arrL x zs ps srcs s) zs.length = -1 then .tuple #[.int .i64 0, .bool false] else .tuple #[.int .i64 (mxF (arrL x zs ps srcs s) zs.length), .bool true]) := last_yes
  have HNo : Hid (fireB x y zs ps srcs s = false → lastR x y zs ps srcs s = .tuple #[.int .i64 0, .bool false]) := last_no
  clear hps hr hc
  cases hf : fireB x y zs ps srcs s with
  | false =>
    have hV := Lib.hid (HNo.out hf)
    rw [hf] at HA
    clear HR hf HY HNo h
    generalize lastR x y zs ps srcs s = V at *
    go_enter Try.func64, Try.ntmps64
    go_wp2_with fail
    with_reducible refine HA.out.mono ?_
    rintro e w1 ⟨rfl, hb1⟩
    have hb1 := Lib.hid (grow_trans hbx.out hb1)
    go_wp2
    go_ret2
    exact ⟨by rw [hV.out]; rfl, hb1.out⟩
  | true =>
    obtain ⟨hN0, h25, hs01, HR⟩ := HR.out hf
    have HR := Lib.hid HR
    have hV := Lib.hid (HY.out hf)
    rw [hf] at HA
    clear hf HY HNo h
    generalize lastR x y zs ps srcs s = V at *
    have HS : Hid (∀ k, mxF (arrL x zs ps srcs s) (k + 1) = max (mxF (arrL x zs ps srcs s) k) (tm (arrL x zs ps srcs s) k)) := fun k => rfl
    unfold RetArr at HR
    generalize arrL x zs ps srcs s = R at *
    generalize hNN : zs.length = N at *
    clear hNN
    go_enter Try.func64, Try.ntmps64
    go_wp2_with fail
    with_reducible refine HA.out.mono ?_
    rintro e w1 ⟨rfl, hb1⟩
    obtain ⟨t0, t1, t2⟩ := Hc.out _ hb1
    have hb1 := Lib.hid (grow_trans hbx.out hb1)
    go_wp2_with fail
    with_reducible refine (HR.out _ hb1.out).mono ?_
    intro e w9 hra
    obtain ⟨⟨rv, rfl, ho, hb9⟩, hlf, hbd⟩ := hra
    have hl : Hid (R.length = N) := by have := ho.1; show _ = _; simp at this; omega
    have hs9 := hb1.out.size
    have ho := Lib.hid ho
    have hbd := Lib.hid hbd
    have hb9 := Lib.hid (grow_trans hb1.out hb9)
    obtain ⟨_, cv, rfl, hg⟩ := own_form ho.out
    obtain ⟨g, rfl, hg1, hg2⟩ := hg hN0
    clear hg hlf
    have HM := Lib.hid (Max_int_any g cv N R _ w9 ho.out hl.out hN0 h25 (fun k => (hbd.out k).1))
    generalize mxF R N = m at *
    go_wp2_with fail
    with_reducible refine HM.out.mono ?_
    rintro e w2 ⟨rfl, rfl⟩
    by_cases hm : m = -1
    · have hV2 : Hid (V = .tuple #[.int .i64 0, .bool false]) := by show _ = _; rw [hV.out, if_pos hm]
      subst hm
      go_wp2
      go_ret2
      exact ⟨by rw [hV2.out]; rfl, hb9.out⟩
    · have hV2 : Hid (V = .tuple #[.int .i64 m, .bool true]) := by show _ = _; rw [hV.out, if_neg hm]
      have hm' : (m == -1) = false := by simpa using hm
      go_wp2
      go_ret2
      exact ⟨by rw [hV2.out]; rfl, hb9.out⟩
set_option maxHeartbeats 2000000 in
theorem l4Burned_any (g c N : Nat) (L : List Int) (t : Int) (base : Nat) (w : World) (h : w.ownsRow base 3 1 (.slice (some ⟨g, 0, none⟩) N c) N (ints L)) (hl : L.length = N) (hN : N ≤ 25) :
    Calls Try.prog 123 #[.slice (some ⟨g, 0, none⟩) N c, .int .i64 t] w (RetOwn w 3 1 (selN (fun k => inB (tm L k) 0 t) N).length (ints (selN (fun k => inB (tm L k) 0 t) N))) := by
  obtain ⟨i0, hi, hz0, hz1, hz2⟩ := info_parts info_int
  have H := Lib.hid fun W (hW : Below w.heap.size w W) k hk => own_tm (k := k) (own_below h hW) hl hk
  have ho0 : Hid ((w.alloc (.cells #[] 3)).ownsRow w.heap.size 3 1 (.slice (some ⟨w.heap.size, 0, none⟩) 0 0) 0 []) := by
    show World.ownsRow _ _ _ _ _ _ _
    have := World.ownsRow_lit (base := w.heap.size) (e := 3) (size := 1) w #[] 0 (Nat.le_refl _) (by unfold maxLen; omega) rfl
    simpa using this
  clear h hl
  go_enter Try.func123, Try.ntmps123
  go_wp2
  go_loopw [5, 6] (fun v i wr => ∃ k : Nat, k ≤ N ∧ i = .int .i64 k ∧ Hid (Below w.heap.size w wr) ∧ Hid (wr.ownsRow w.heap.size 3 1 v (selN (fun k => inB (tm L k) 0 t) k).length (ints (selN (fun k => inB (tm L k) 0 t) k)))) (fun _ i _ => N - (intOf i).toNat)
  case atStart => exact ⟨0, Nat.zero_le _, rfl, grow_alloc _ _, ho0.out⟩
  case round =>
    obtain ⟨k, hk, rfl, hb, ho⟩ := hrel
    by_cases hlt : k < N
    · have hlz : (k : Int) < (N : Int) := by omega
      have ck := H.out wr hb.out k hlt
      have hle := selN_le (fun k => inB (tm L k) 0 t) k
      have hsz := hb.out.size
      cases hq : inB (tm L k) 0 t with
      | true =>
        have Hq : Hid ((fun k => inB (tm L k) 0 t) k = true) := hq
        generalize (fun k => inB (tm L k) 0 t) = p at *
        have HC := Lib.hid (l1In_any (tm L k) 0 t)
        rw [hq] at HC
        generalize tm L k = z at *
        clear hq
        go_wp2_with fail
        refine (HC.out _).mono ?_
        rintro e w3 ⟨rfl, rfl⟩
        go_wp2_with ((at_builtin; refine wpList_append_own _ rfl _ _ 67 rfl w.heap.size 3 i0 (.int .i64 0) 1 8 Try.underlying67 hi hz0 hz1 hz2 rfl (by decide) _ _ _ rfl (ho.out.alloc _) ⟨wr.heap.size, 0, none⟩ 1 1 [.int .i64 k] rfl rfl ?c1 ?c2 ?c3 ?c4 ?c5 ?_))
        try (case c1 => (intro j u hj; match j, hj with | 0, hj => simp at hj; subst hj; simp [Addr.add]))
        case c2 => first | rfl | (intro u hu; simp at hu; subst hu; rfl)
        case c3 => unfold maxLen; omega
        case c4 => omega
        case c5 => simp; omega
        intro v' w2 hown' hgrow _
        have hb2 := Lib.hid (grow_put ho.out hb.out hb.out.size hgrow)
        have ho2 := Lib.hid (own_put Hq.out hown')
        clear hown' hgrow
        go_wp2
        go_roundw
        case rel => exact ⟨k + 1, by omega, by go_num, hb2.out, ho2.out⟩
        case measure => simp [intOf]; omega
      | false =>
        have Hq : Hid ((fun k => inB (tm L k) 0 t) k = false) := hq
        generalize (fun k => inB (tm L k) 0 t) = p at *
        have HC := Lib.hid (l1In_any (tm L k) 0 t)
        rw [hq] at HC
        generalize tm L k = z at *
        clear hq
        go_wp2_with fail
        refine (HC.out _).mono ?_
        rintro e w3 ⟨rfl, rfl⟩
        go_wp2
        go_roundw
        case rel => exact ⟨k + 1, by omega, by go_num, hb.out, by show _; rw [selN_no Hq.out]; exact ho.out⟩
        case measure => simp [intOf]; omega
    · obtain rfl : k = N := by omega
      go_wp2
      go_ret
      exact ⟨_, rfl, ho.out, hb.out⟩
theorem callFunc_burned1 : ∀ args w, (callFunc 171 args).run Try.prog w = .ok (.enter 171 args) w := fun _ _ => by rfl
theorem burned1_any (g c N k P Q : Nat) (z t : Int) (w : World) (hp : w.cell? ⟨P, 0, none⟩ = some (.slice (some ⟨g, 0, none⟩) N c)) (hq : w.cell? ⟨Q, 0, none⟩ = some (.int .i64 t)) (hc : w.cell? ⟨g, k, none⟩ = some (.int .i64 z)) (hk : k < N) (hN : N ≤ 25) :
    Calls Try.prog 171 #[.int .i64 k, .pointer (some ⟨P, 0, none⟩), .pointer (some ⟨Q, 0, none⟩)] w fun e w' => e = .returned (.bool (inB z 0 t)) ∧ Below w.heap.size w w' := by
  have hkz : (k : Int) < (N : Int) := by omega
  go_enter Try.func171, Try.ntmps171
  go_wp2_with fail
  go_quiet ((go_at_call 95; with_reducible exact quiet_same (in_any _ _ _ _)))
  go_wp2
  go_ret
  exact ⟨rfl, grow_drewN _ _⟩
set_option maxHeartbeats 4000000 in
theorem burned_any (x y : Int) (u : Value) (zs : List Int) (v : Value) (ps : List (Int × Int)) (r : Value) (srcs : List Int) (s t : Int) (w : World) (h : Sl w 1 u zs.length (ints zs)) (hN0 : 0 < zs.length) (h25 : zs.length ≤ 25)
    (HR : ∀ W, Below w.heap.size w W → Calls Try.prog 119 #[terrV x y u, v, r, .int .i64 s] W (RetArr W x zs ps srcs s)) :
    Calls Try.prog 125 #[terrV x y u, v, r, .int .i64 s, .int .i64 t] w (RetOwn w 3 1 (burL x zs ps srcs s t).length (ints (burL x zs ps srcs s t))) := by
  have HR := Lib.hid HR
  have Hu := Lib.hid fun W hW => h.below (w' := W) hW
  obtain ⟨A, c, rfl⟩ := h.val
  have hT0 : Hid (TB ((w.alloc (.cells #[.int .i64 x, .int .i64 y, .slice A zs.length c] 79)).alloc (.cells #[.int .i64 t] 3)) w.heap.size x y (.slice A zs.length c)) := by show TB _ _ _ _ _; unfold TB; simp [go_sem]
  have hq0 : Hid (((w.alloc (.cells #[.int .i64 x, .int .i64 y, .slice A zs.length c] 79)).alloc (.cells #[.int .i64 t] 3)).cell? ⟨w.heap.size + 1, 0, none⟩ = some (.int .i64 t)) := by show _ = _; simp [go_sem]
  have hb0 : Hid (Below w.heap.size w ((w.alloc (.cells #[.int .i64 x, .int .i64 y, .slice A zs.length c] 79)).alloc (.cells #[.int .i64 t] 3))) := two_news _ _ _
  have HB : Hid (burL x zs ps srcs s t = selN (fun k => inB (tm (arrL x zs ps srcs s) k) 0 t) zs.length) := rfl
  have HCl : Hid (∀ W (g cv : Nat) (base : Nat), Below w.heap.size w W → World.ownsRow W base 3 1 (.slice (some ⟨g, 0, none⟩) zs.length cv) zs.length (ints (arrL x zs ps srcs s)) → (arrL x zs ps srcs s).length = zs.length → ∀ P, W.cell? ⟨P, 0, none⟩ = some (.slice (some ⟨g, 0, none⟩) zs.length cv) → W.cell? ⟨w.heap.size + 1, 0, none⟩ = some (.int .i64 t) →
      Calls Try.prog 170 #[terrV x y (.slice A zs.length c), .func (.func 171) #[] #[.pointer (some ⟨P, 0, none⟩), .pointer (some ⟨w.heap.size + 1, 0, none⟩)]] W (RetOwn W 3 1 (burL x zs ps srcs s t).length (ints (burL x zs ps srcs s t)))) := by
    show ∀ W, _
    intro W g cv base hW ho hl P hp hq
    have := cellsThat_any x y (.slice A zs.length c) zs 171 #[] #[.pointer (some ⟨P, 0, none⟩), .pointer (some ⟨w.heap.size + 1, 0, none⟩)] (fun k => inB (tm (arrL x zs ps srcs s) k) 0 t) W (h.below hW) (by omega) callFunc_burned1
      (fun W' k hk hW' => by
        have := burned1_any g cv zs.length k P (w.heap.size + 1) _ t W' (cell_below hp hW') (cell_below hq hW') (cell_below (own_tm ho hl hk) hW') hk h25
        simpa using this)
    exact this
  clear h
  generalize burL x zs ps srcs s t = S at *
  unfold RetArr at HR
  generalize arrL x zs ps srcs s = R at *
  generalize hNN : zs.length = N at *
  clear hNN
  have hN := h25
  go_enter Try.func125, Try.ntmps125
  go_wp2_with fail
  with_reducible refine (HR.out _ hb0.out).mono ?_
  intro e w9 hra
  obtain ⟨⟨rv, rfl, ho, hb9⟩, hlf, hbd⟩ := hra
  have hl : Hid (R.length = N) := by have := ho.1; show _ = _; simp at this; omega
  obtain ⟨_, cv, rfl, hg⟩ := own_form ho
  obtain ⟨g, rfl, hg1, hg2⟩ := hg hN0
  have hT9 := (hT0.out.below hb9).below (grow_alloc w9 (.cells #[.slice (some ⟨g, 0, none⟩) N cv] 67))
  obtain ⟨t0, t1, t2⟩ := hT9
  have hp9 : (w9.alloc (.cells #[.slice (some ⟨g, 0, none⟩) N cv] 67)).cell? ⟨w9.heap.size, 0, none⟩ = some (.slice (some ⟨g, 0, none⟩) N cv) := by simp [go_sem]
  have hb10 := Lib.hid (grow_trans (grow_trans hb0.out hb9) (grow_alloc w9 (.cells #[.slice (some ⟨g, 0, none⟩) N cv] 67)))
  have HC := Lib.hid (HCl.out _ g cv _ hb10.out (own_below ho (grow_alloc w9 (.cells #[.slice (some ⟨g, 0, none⟩) N cv] 67))) hl.out _ hp9 (cell_below (cell_below hq0.out hb9) (grow_alloc w9 _)))
  clear hg hlf hbd ho hb9 hp9
  go_wp2_with fail
  with_reducible refine HC.out.mono ?_
  rintro e w11 ⟨sv, rfl, hso, hb11⟩
  have hso := Lib.hid (own_base hso hb10.out.size)
  have hb11 := Lib.hid (grow_trans hb10.out hb11)
  go_wp2
  go_ret
  exact ⟨_, rfl, hso.out, hb11.out⟩
set_option maxHeartbeats 4000000 in
theorem sBurnedBy_any (x y : Int) (u : Value) (zs : List Int) (v : Value) (ps : List (Int × Int)) (r : Value) (srcs : List Int) (s : Int) (t : Int) (w : World) (h : Sl w 1 u zs.length (ints zs)) (hps : Sl w 2 v ps.length (phs ps)) (hr : Sl w 1 r srcs.length (ints srcs)) (hsl : srcs.length ≤ 1048576) :
    Calls Try.prog 71 #[terrV x y u, v, r, .int .i64 s, .int .i64 t] w (RetSel w (selR (fireB x y zs ps srcs s && inB t 0 9999) (burL x zs ps srcs s t)) (fireB x y zs ps srcs s && inB t 0 9999)) := by
  have hbx : Below w.heap.size w (w.alloc (.cells #[.int .i64 x, .int .i64 y, u] 79)) := grow_alloc _ _
  have HA := Lib.hid (l4Asked_any x y u zs v ps r srcs s _ (h.below hbx) (hps.below hbx) (hr.below hbx))
  have HR : Hid (fireB x y zs ps srcs s = true → 0 < zs.length ∧ zs.length ≤ 25 ∧ (0 ≤ s ∧ s ≤ 1000) ∧ ∀ W, Below w.heap.size w W → Calls Try.prog 115 #[terrV x y u, v, r, .int .i64 s] W (RetArr W x zs ps srcs s)) := fun hf => by
    obtain ⟨f1, f2, f3, f4, _⟩ := fire_facts hf
    obtain ⟨hx, hy, hxy, h25⟩ := terr_dims f1
    have : 0 < x * y := Int.mul_pos (by omega) (by omega)
    exact ⟨by omega, by omega, f3, fun W hW => l4Arrivals_any x y u zs v ps r srcs s W (h.below hW) (hps.below hW) (hr.below hW) f1 f2 f3.1 f3.2⟩
  have hc : ∀ w1, Below (w.alloc (.cells #[.int .i64 x, .int .i64 y, u] 79)).heap.size (w.alloc (.cells #[.int .i64 x, .int .i64 y, u] 79)) w1 → TB w1 w.heap.size x y u := fun w1 hb => TB.below (by unfold TB; simp [go_sem]) hb
  have Hc := Lib.hid hc
  have hbx := Lib.hid hbx
  clear hps hr hc
  have HK := Lib.hid fun W => l4Tick_any t W
  cases hf : fireB x y zs ps srcs s with
  | false =>
    rw [hf] at HA
    clear HR hf h
    generalize burL x zs ps srcs s t = S at *
    go_enter Try.func71, Try.ntmps71
    go_wp2_with fail
    with_reducible refine HA.out.mono ?_
    rintro e w1 ⟨rfl, hb1⟩
    have hb1 := Lib.hid (grow_trans hbx.out hb1)
    have ho := World.ownsRow_lit (base := w.heap.size) (e := 3) (size := 1) w1 #[] 0 hb1.out.size (by unfold maxLen; omega) rfl
    have ho : Hid ((w1.alloc (.cells #[] 3)).ownsRow w.heap.size 3 1 (.slice (some ⟨w1.heap.size, 0, none⟩) 0 0) 0 []) := by show World.ownsRow _ _ _ _ _ _ _; simpa using ho
    have hb2 := Lib.hid (grow_trans hb1.out (grow_alloc w1 (.cells #[] 3)))
    go_wp2
    exact bodyPost_ret (v := .tuple #[.slice (some ⟨w1.heap.size, 0, none⟩) 0 0, .bool false]) (by simp [results, Try.results71, go_sem]) rfl ⟨_, rfl, ho.out, hb2.out⟩
  | true =>
    rw [hf] at HA
    cases ht : inB t 0 9999 with
    | false =>
      rw [ht] at HK
      clear HR hf h
      generalize burL x zs ps srcs s t = S at *
      go_enter Try.func71, Try.ntmps71
      go_wp2_with fail
      with_reducible refine HA.out.mono ?_
      rintro e w1 ⟨rfl, hb1⟩
      have hb1 := Lib.hid (grow_trans hbx.out hb1)
      go_wp2_with fail
      refine (HK.out _).mono ?_
      rintro e w2 ⟨rfl, rfl⟩
      have ho := World.ownsRow_lit (base := w.heap.size) (e := 3) (size := 1) w1 #[] 0 hb1.out.size (by unfold maxLen; omega) rfl
      have ho : Hid ((w1.alloc (.cells #[] 3)).ownsRow w.heap.size 3 1 (.slice (some ⟨w1.heap.size, 0, none⟩) 0 0) 0 []) := by show World.ownsRow _ _ _ _ _ _ _; simpa using ho
      have hb2 := Lib.hid (grow_trans hb1.out (grow_alloc w1 (.cells #[] 3)))
      go_wp2
      exact bodyPost_ret (v := .tuple #[.slice (some ⟨w1.heap.size, 0, none⟩) 0 0, .bool false]) (by simp [results, Try.results71, go_sem]) rfl ⟨_, rfl, ho.out, hb2.out⟩
    | true =>
      obtain ⟨hN0, h25, hs01, HR⟩ := HR.out hf
      have HR := Lib.hid HR
      rw [ht] at HK
      clear hf
      have HBu : Hid (burL x zs ps srcs s t = selN (fun k => inB (tm (arrL x zs ps srcs s) k) 0 t) zs.length) := rfl
      clear h
      generalize burL x zs ps srcs s t = S at *
      unfold RetArr at HR
      generalize arrL x zs ps srcs s = R at *
      generalize hNN : zs.length = N at *
      clear hNN
      go_enter Try.func71, Try.ntmps71
      go_wp2_with fail
      with_reducible refine HA.out.mono ?_
      rintro e w1 ⟨rfl, hb1⟩
      obtain ⟨t0, t1, t2⟩ := Hc.out _ hb1
      have hb1 := Lib.hid (grow_trans hbx.out hb1)
      go_wp2_with fail
      refine (HK.out _).mono ?_
      rintro e w2 ⟨rfl, rfl⟩
      go_wp2_with fail
      with_reducible refine (HR.out _ hb1.out).mono ?_
      intro e w9 hra
      obtain ⟨⟨rv, rfl, ho, hb9⟩, hlf, hbd⟩ := hra
      have hl : Hid (R.length = N) := by have := ho.1; show _ = _; simp at this; omega
      have hs9 := hb1.out.size
      have ho := Lib.hid ho
      have hbd := Lib.hid hbd
      have hb9 := Lib.hid (grow_trans hb1.out hb9)
      obtain ⟨_, cv, rfl, hg⟩ := own_form ho.out
      obtain ⟨g, rfl, hg1, hg2⟩ := hg hN0
      clear hg hlf
      have HL := Lib.hid (l4Burned_any g cv N R t _ w9 ho.out hl.out h25)
      rw [← HBu.out] at HL
      go_wp2_with fail
      with_reducible refine HL.out.mono ?_
      rintro e w10 ⟨sv, rfl, hso, hb10⟩
      have hso := Lib.hid (own_base hso hb9.out.size)
      have hb10 := Lib.hid (grow_trans hb9.out hb10)
      go_wp2
      exact bodyPost_ret (v := .tuple #[sv, .bool true]) (by simp [results, Try.results71, go_sem]) rfl ⟨_, rfl, hso.out, hb10.out⟩
set_option maxHeartbeats 4000000 in
theorem BurnedBy_any (x y : Int) (u : Value) (zs : List Int) (v : Value) (ps : List (Int × Int)) (r : Value) (srcs : List Int) (s : Int) (t : Int) (w : World) (h : Sl w 1 u zs.length (ints zs)) (hps : Sl w 2 v ps.length (phs ps)) (hr : Sl w 1 r srcs.length (ints srcs)) (hsl : srcs.length ≤ 1048576) :
    Calls Try.prog 72 #[terrV x y u, v, r, .int .i64 s, .int .i64 t] w (RetSel w (selR (fireB x y zs ps srcs s && inB t 0 9999) (burL x zs ps srcs s t)) (fireB x y zs ps srcs s && inB t 0 9999)) := by
  have hbx : Below w.heap.size w (w.alloc (.cells #[.int .i64 x, .int .i64 y, u] 79)) := grow_alloc _ _
  have HA := Lib.hid (isFire_any x y u zs v ps r srcs s _ (h.below hbx) (hps.below hbx) (hr.below hbx))
  have HR : Hid (fireB x y zs ps srcs s = true → 0 < zs.length ∧ zs.length ≤ 25 ∧ (0 ≤ s ∧ s ≤ 1000) ∧ ∀ W, Below w.heap.size w W → Calls Try.prog 119 #[terrV x y u, v, r, .int .i64 s] W (RetArr W x zs ps srcs s)) := fun hf => by
    obtain ⟨f1, f2, f3, f4, _⟩ := fire_facts hf
    obtain ⟨hx, hy, hxy, h25⟩ := terr_dims f1
    have : 0 < x * y := Int.mul_pos (by omega) (by omega)
    exact ⟨by omega, by omega, f3, fun W hW => arrivals_any x y u zs v ps r srcs s W (h.below hW) (hps.below hW) (hr.below hW) f1 f2 f3.1 f3.2 f4 hsl⟩
  have hc : ∀ w1, Below (w.alloc (.cells #[.int .i64 x, .int .i64 y, u] 79)).heap.size (w.alloc (.cells #[.int .i64 x, .int .i64 y, u] 79)) w1 → TB w1 w.heap.size x y u := fun w1 hb => TB.below (by unfold TB; simp [go_sem]) hb
  have Hc := Lib.hid hc
  have hbx := Lib.hid hbx
  clear hps hr hc
  have HK := Lib.hid fun W => isTick_any t W
  cases hf : fireB x y zs ps srcs s with
  | false =>
    rw [hf] at HA
    clear HR hf h
    generalize burL x zs ps srcs s t = S at *
    go_enter Try.func72, Try.ntmps72
    go_wp2_with fail
    with_reducible refine HA.out.mono ?_
    rintro e w1 ⟨rfl, hb1⟩
    have hb1 := Lib.hid (grow_trans hbx.out hb1)
    go_wp2
    exact bodyPost_ret (v := .tuple #[.slice none 0 0, .bool false]) (by simp [results, Try.results72, go_sem]) rfl ⟨_, rfl, own_nil _ _ _ _, hb1.out⟩
  | true =>
    rw [hf] at HA
    cases ht : inB t 0 9999 with
    | false =>
      rw [ht] at HK
      clear HR hf h
      generalize burL x zs ps srcs s t = S at *
      go_enter Try.func72, Try.ntmps72
      go_wp2_with fail
      with_reducible refine HA.out.mono ?_
      rintro e w1 ⟨rfl, hb1⟩
      have hb1 := Lib.hid (grow_trans hbx.out hb1)
      go_wp2_with fail
      refine (HK.out _).mono ?_
      rintro e w2 ⟨rfl, rfl⟩
      go_wp2
      exact bodyPost_ret (v := .tuple #[.slice none 0 0, .bool false]) (by simp [results, Try.results72, go_sem]) rfl ⟨_, rfl, own_nil _ _ _ _, hb1.out⟩
    | true =>
      obtain ⟨hN0, h25, hs01, HR⟩ := HR.out hf
      have HR := Lib.hid HR
      rw [ht] at HK
      clear hf
      have HBu := Lib.hid fun W (hW : Below w.heap.size w W) => burned_any x y u zs v ps r srcs s t W (h.below hW) hN0 h25 (fun W' hW' => HR.out W' (grow_trans hW hW'))
      clear h
      generalize burL x zs ps srcs s t = S at *
      go_enter Try.func72, Try.ntmps72
      go_wp2_with fail
      with_reducible refine HA.out.mono ?_
      rintro e w1 ⟨rfl, hb1⟩
      obtain ⟨t0, t1, t2⟩ := Hc.out _ hb1
      have hb1 := Lib.hid (grow_trans hbx.out hb1)
      go_wp2_with fail
      refine (HK.out _).mono ?_
      rintro e w2 ⟨rfl, rfl⟩
      go_wp2_with fail
      with_reducible refine (HBu.out _ hb1.out).mono ?_
      rintro e w10 ⟨sv, rfl, hso, hb10⟩
      have hso := Lib.hid (own_base hso hb1.out.size)
      have hb10 := Lib.hid (grow_trans hb1.out hb10)
      go_wp2
      exact bodyPost_ret (v := .tuple #[sv, .bool true]) (by simp [results, Try.results72, go_sem]) rfl ⟨_, rfl, hso.out, hb10.out⟩
end Go.Proofs.Ytnacofmjipilhaa
