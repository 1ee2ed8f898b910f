/- MinutesAhead in the program and in the reference. Conditions: as each states. -/
import Derived.Test.YtnacofmjipilhaaArr5
namespace Go.Proofs.Ytnacofmjipilhaa
open Go.ChangeShapes Go.WideShapes Go.ChangeAt Go.RowKit Go.Deep
set_option linter.unusedVariables false
set_option linter.unusedSimpArgs false
set_option maxRecDepth 100000

/-- The first tick of some cells; -1 where there is none. -/
def mnF (L cs : List Int) : Nat → Int
  | 0 => -1
  | k + 1 => if tm L (cs.getD k 0).toNat ≠ -1 ∧ (mnF L cs k = -1 ∨ tm L (cs.getD k 0).toNat < mnF L cs k) then tm L (cs.getD k 0).toNat else mnF L cs k
theorem mnF_bd {L : List Int} (cs : List Int) (h : ∀ c, -1 ≤ tm L c ∧ tm L c ≤ 4000) : ∀ k, -1 ≤ mnF L cs k ∧ mnF L cs k ≤ 4000
  | 0 => by unfold mnF; omega
  | k + 1 => by
    have h1 := mnF_bd cs h k
    have h2 := h (cs.getD k 0).toNat
    unfold mnF
    split <;> omega
theorem mnF_at {L cs : List Int} {k c : Nat} (h : cs[k]? = some (c : Int)) : mnF L cs (k + 1) = if tm L c ≠ -1 ∧ (mnF L cs k = -1 ∨ tm L c < mnF L cs k) then tm L c else mnF L cs k := by
  have e : cs.getD k 0 = (c : Int) := by rw [List.getD_eq_getElem?_getD, h]; rfl
  conv => lhs; unfold mnF
  rw [e, Int.toNat_natCast]
/-- The result of MinutesAhead. -/
noncomputable def minR (x y : Int) (zs : List Int) (ps : List (Int × Int)) (srcs : List Int) (s : Int) (cs : List Int) : Value :=
  okR (fireB x y zs ps srcs s && setB cs 0 ((zs.length : Int) - 1) && decide (mnF (arrL x zs ps srcs s) cs cs.length ≠ -1)) (mnF (arrL x zs ps srcs s) cs cs.length - s)
theorem min_no {x y : Int} {zs : List Int} {ps : List (Int × Int)} {srcs : List Int} {s : Int} {cs : List Int} (h : (fireB x y zs ps srcs s && setB cs 0 ((zs.length : Int) - 1)) = false) : minR x y zs ps srcs s cs = .tuple #[.int .i64 0, .bool false] := by
  unfold minR; rw [h]; rfl
theorem min_yes {x y : Int} {zs : List Int} {ps : List (Int × Int)} {srcs : List Int} {s : Int} {cs : List Int} (h : (fireB x y zs ps srcs s && setB cs 0 ((zs.length : Int) - 1)) = true) : minR x y zs ps srcs s cs = if mnF (arrL x zs ps srcs s) cs cs.length = -1 then .tuple #[.int .i64 0, .bool false] else .tuple #[.int .i64 (mnF (arrL x zs ps srcs s) cs cs.length - s), .bool true] := by
  unfold minR; rw [h]
  by_cases e : mnF (arrL x zs ps srcs s) cs cs.length = -1
  · rw [if_pos e]; simp [e, okR]
  · rw [if_neg e]; simp [e, okR]
set_option maxHeartbeats 4000000 in
theorem sMinutesAhead_any (x y : Int) (u : Value) (zs : List Int) (v : Value) (ps : List (Int × Int)) (r : Value) (srcs : List Int) (s : Int) (vc : Value) (cs : List Int) (w : World) (h : Sl w 1 u zs.length (ints zs)) (hps : Sl w 2 v ps.length (phs ps)) (hr : Sl w 1 r srcs.length (ints srcs)) (hcs : Sl w 1 vc cs.length (ints cs)) (hsl : srcs.length ≤ 1048576) :
    Calls Try.prog 55 #[terrV x y u, v, r, .int .i64 s, vc] w fun e w' => e = .returned (minR x y zs ps srcs s cs) ∧ Below w.heap.size w w' := by
  have hbx : Below w.heap.size w (w.alloc (.cells #[.int .i64 x, .int .i64 y, u] 79)) := grow_alloc _ _
  have HA := Lib.hid (l4Asked_any x y u zs v ps r srcs s _ (h.below hbx) (hps.below hbx) (hr.below hbx))
  have HR : Hid (fireB x y zs ps srcs s = true → 0 < zs.length ∧ zs.length ≤ 25 ∧ (0 ≤ s ∧ s ≤ 1000) ∧ ∀ W, Below w.heap.size w W → Calls Try.prog 115 #[terrV x y u, v, r, .int .i64 s] W (RetArr W x zs ps srcs s)) := fun hf => by
    obtain ⟨f1, f2, f3, f4, _⟩ := fire_facts hf
    obtain ⟨hx, hy, hxy, h25⟩ := terr_dims f1
    have : 0 < x * y := Int.mul_pos (by omega) (by omega)
    exact ⟨by omega, by omega, f3, fun W hW => l4Arrivals_any x y u zs v ps r srcs s W (h.below hW) (hps.below hW) (hr.below hW) f1 f2 f3.1 f3.2⟩
  have hc : ∀ w1, Below (w.alloc (.cells #[.int .i64 x, .int .i64 y, u] 79)).heap.size (w.alloc (.cells #[.int .i64 x, .int .i64 y, u] 79)) w1 → TB w1 w.heap.size x y u := fun w1 hb => TB.below (by unfold TB; simp [go_sem]) hb
  have Hc := Lib.hid hc
  have hbx := Lib.hid hbx
  have HY : Hid ((fireB x y zs ps srcs s && setB cs 0 ((zs.length : Int) - 1)) = true → minR x y zs ps srcs s cs = if mnF (arrL x zs ps srcs s) cs cs.length = -1 then .tuple #[.int .i64 0, .bool false] else .tuple #[.int .i64 (mnF (arrL x zs ps srcs s) cs cs.length - s), .bool true]) := min_yes
  have HNo : Hid ((fireB x y zs ps srcs s && setB cs 0 ((zs.length : Int) - 1)) = false → minR x y zs ps srcs s cs = .tuple #[.int .i64 0, .bool false]) := min_no
  have HSt := Lib.hid fun W hW => l2Set_any x y u zs vc cs W (h.below (w' := W) hW) (hcs.below hW)
  have HCs := Lib.hid fun W hW => hcs.below (w' := W) hW
  have Hin : Hid (setB cs 0 ((zs.length : Int) - 1) = true → ∀ z ∈ cs, 0 ≤ z ∧ z ≤ (zs.length : Int) - 1) := fun h => (setB_rise h).2
  have hmc := hcs.len
  unfold maxLen at hmc
  obtain ⟨Ac, cc, rfl⟩ := hcs.val
  clear hps hr hc
  cases hf : fireB x y zs ps srcs s with
  | false =>
    have hV := Lib.hid (HNo.out (by rw [hf]; rfl))
    rw [hf] at HA
    clear HR hf HY HNo h hcs
    generalize minR x y zs ps srcs s cs = V at *
    go_enter Try.func55, Try.ntmps55
    go_wp2_with fail
    with_reducible refine HA.out.mono ?_
    rintro e w1 ⟨rfl, hb1⟩
    have hb1 := Lib.hid (grow_trans hbx.out hb1)
    go_wp2
    go_ret2
    exact ⟨by rw [hV.out]; rfl, hb1.out⟩
  | true =>
    obtain ⟨hN0, h25, hs01, HR⟩ := HR.out hf
    have HR := Lib.hid HR
    rw [(fire_facts hf).1, Bool.true_and] at HSt
    rw [hf] at HA
    cases hc2 : setB cs 0 ((zs.length : Int) - 1) with
    | false =>
      have hV := Lib.hid (HNo.out (by rw [hf, hc2]; rfl))
      rw [hc2] at HSt
      clear hf HY HNo h hcs
      generalize minR x y zs ps srcs s cs = V at *
      go_enter Try.func55, Try.ntmps55
      go_wp2_with fail
      with_reducible refine HA.out.mono ?_
      rintro e w1 ⟨rfl, hb1⟩
      obtain ⟨t0, t1, t2⟩ := Hc.out _ hb1
      have hb1 := Lib.hid (grow_trans hbx.out hb1)
      go_wp2_with fail
      with_reducible refine (HSt.out _ hb1.out).mono ?_
      rintro e w2 ⟨rfl, hb2⟩
      have hb2 := Lib.hid (grow_trans hb1.out hb2)
      go_wp2
      go_ret2
      exact ⟨by rw [hV.out]; rfl, hb2.out⟩
    | true =>
      have hV := Lib.hid (HY.out (by rw [hf, hc2]; rfl))
      have Hin := Lib.hid (Hin.out hc2)
      rw [hc2] at HSt
      clear hf HY HNo h hcs hc2
      generalize minR x y zs ps srcs s cs = V at *
      unfold RetArr at HR
      generalize arrL x zs ps srcs s = R at *
      have HS : Hid (∀ (k c : Nat), cs[k]? = some (c : Int) → mnF R cs (k + 1) = if tm R c ≠ -1 ∧ (mnF R cs k = -1 ∨ tm R c < mnF R cs k) then tm R c else mnF R cs k) := fun k c => mnF_at
      have HBd : Hid ((∀ c, -1 ≤ tm R c ∧ tm R c ≤ 4000) → ∀ k, -1 ≤ mnF R cs k ∧ mnF R cs k ≤ 4000) := mnF_bd cs
      generalize hNN : zs.length = N at *
      clear hNN
      generalize hM : cs.length = M at *
      have HM := Lib.hid hM
      clear hM
      go_enter Try.func55, Try.ntmps55
      go_wp2_with fail
      with_reducible refine HA.out.mono ?_
      rintro e w1 ⟨rfl, hb1⟩
      have hT1 := Lib.hid (Hc.out _ hb1)
      obtain ⟨t0, t1, t2⟩ := hT1.out
      have hb1 := Lib.hid (grow_trans hbx.out hb1)
      go_wp2_with fail
      with_reducible refine (HSt.out _ hb1.out).mono ?_
      rintro e w2 ⟨rfl, hb2⟩
      clear t0 t1 t2
      obtain ⟨t0, t1, t2⟩ := hT1.out.below hb2
      have hb2 := Lib.hid (grow_trans hb1.out hb2)
      go_wp2_with fail
      with_reducible refine (HR.out _ hb2.out).mono ?_
      intro e w9 hra
      obtain ⟨⟨rv, rfl, ho, hb9⟩, hlf, hbd⟩ := hra
      have hl : Hid (R.length = N) := by have := ho.1; show _ = _; simp at this; omega
      have hs9 := hb2.out.size
      have ho := Lib.hid ho
      have hbd := Lib.hid hbd
      have hb9 := Lib.hid (grow_trans hb2.out hb9)
      obtain ⟨_, cv, rfl, hg⟩ := own_form ho.out
      obtain ⟨g, rfl, hg1, hg2⟩ := hg hN0
      clear hg hlf
      have HCs9 := Lib.hid (HCs.out w9 hb9.out)
      go_wp2
      go_loop [12, 14] (fun m i => ∃ k : Nat, k ≤ M ∧ i = .int .i64 k ∧ m = .int .i64 (mnF R cs k)) (fun _ i => M - (intOf i).toNat)
      case atStart => exact ⟨0, Nat.zero_le _, rfl, rfl⟩
      case round =>
        obtain ⟨k, hk, rfl, rfl⟩ := hrel
        by_cases hlt : k < M
        · have hlz : (k : Int) < (M : Int) := by omega
          obtain ⟨bc, ofc, z, rfl, hz, hcz⟩ := HCs9.out.at1 HM.out hlt
          have hzb := Hin.out z (List.mem_of_getElem? hz)
          obtain ⟨q, rfl⟩ := Int.eq_ofNat_of_zero_le hzb.1
          have hqN : q < N := by omega
          have hqz : (q : Int) < (N : Int) := by omega
          have cq := own_tm ho.out hl.out hqN
          have Hk := Lib.hid (HS.out k q hz)
          clear hz hzb
          generalize mnF R cs k = m at *
          generalize tm R q = t at *
          by_cases ht : t = -1
          · subst ht
            go_wp2
            go_round
            case rel => exact ⟨k + 1, by omega, by go_num, by rw [Hk.out, if_neg (fun e => e.1 rfl)]⟩
            case measure => simp [intOf]; omega
          · have ht' : (t == -1) = false := by simpa using ht
            by_cases hm : m = -1
            · subst hm
              go_wp2
              go_round
              case rel => exact ⟨k + 1, by omega, by go_num, by rw [Hk.out, if_pos ⟨ht, Or.inl rfl⟩]⟩
              case measure => simp [intOf]; omega
            · have hm' : (m == -1) = false := by simpa using hm
              by_cases htm : t < m
              · go_wp2
                go_round
                case rel => exact ⟨k + 1, by omega, by go_num, by rw [Hk.out, if_pos ⟨ht, Or.inr htm⟩]⟩
                case measure => simp [intOf]; omega
              · go_wp2
                go_round
                case rel => exact ⟨k + 1, by omega, by go_num, by rw [Hk.out, if_neg (fun e => e.2.elim hm htm)]⟩
                case measure => simp [intOf]; omega
        · obtain rfl : k = M := by omega
          obtain ⟨hmb1, hmb2⟩ := HBd.out hbd.out k
          generalize mnF R cs k = m at *
          by_cases hm : m = -1
          · have hV2 : Hid (V = .tuple #[.int .i64 0, .bool false]) := by show _ = _; rw [hV.out, if_pos hm]
            subst hm
            go_wp2
            go_ret2
            exact ⟨by rw [hV2.out]; rfl, hb9.out⟩
          · have hV2 : Hid (V = .tuple #[.int .i64 (m - s), .bool true]) := by show _ = _; rw [hV.out, if_neg hm]
            have hm' : (m == -1) = false := by simpa using hm
            go_wp2
            go_ret2
            exact ⟨by rw [hV2.out]; rfl, hb9.out⟩
set_option maxHeartbeats 4000000 in
theorem MinutesAhead_any (x y : Int) (u : Value) (zs : List Int) (v : Value) (ps : List (Int × Int)) (r : Value) (srcs : List Int) (s : Int) (vc : Value) (cs : List Int) (w : World) (h : Sl w 1 u zs.length (ints zs)) (hps : Sl w 2 v ps.length (phs ps)) (hr : Sl w 1 r srcs.length (ints srcs)) (hcs : Sl w 1 vc cs.length (ints cs)) (hsl : srcs.length ≤ 1048576) :
    Calls Try.prog 59 #[terrV x y u, v, r, .int .i64 s, vc] w fun e w' => e = .returned (minR x y zs ps srcs s cs) ∧ Below w.heap.size w w' := by
  have hbx : Below w.heap.size w (w.alloc (.cells #[.int .i64 x, .int .i64 y, u] 79)) := grow_alloc _ _
  have HA := Lib.hid (isFire_any x y u zs v ps r srcs s _ (h.below hbx) (hps.below hbx) (hr.below hbx))
  have HR : Hid (fireB x y zs ps srcs s = true → 0 < zs.length ∧ zs.length ≤ 25 ∧ (0 ≤ s ∧ s ≤ 1000) ∧ ∀ W, Below w.heap.size w W → Calls Try.prog 119 #[terrV x y u, v, r, .int .i64 s] W (RetArr W x zs ps srcs s)) := fun hf => by
    obtain ⟨f1, f2, f3, f4, _⟩ := fire_facts hf
    obtain ⟨hx, hy, hxy, h25⟩ := terr_dims f1
    have : 0 < x * y := Int.mul_pos (by omega) (by omega)
    exact ⟨by omega, by omega, f3, fun W hW => arrivals_any x y u zs v ps r srcs s W (h.below hW) (hps.below hW) (hr.below hW) f1 f2 f3.1 f3.2 f4 hsl⟩
  have hc : ∀ w1, Below (w.alloc (.cells #[.int .i64 x, .int .i64 y, u] 79)).heap.size (w.alloc (.cells #[.int .i64 x, .int .i64 y, u] 79)) w1 → TB w1 w.heap.size x y u := fun w1 hb => TB.below (by unfold TB; simp [go_sem]) hb
  have Hc := Lib.hid hc
  have hbx := Lib.hid hbx
  have HY : Hid ((fireB x y zs ps srcs s && setB cs 0 ((zs.length : Int) - 1)) = true → minR x y zs ps srcs s cs = if mnF (arrL x zs ps srcs s) cs cs.length = -1 then .tuple #[.int .i64 0, .bool false] else .tuple #[.int .i64 (mnF (arrL x zs ps srcs s) cs cs.length - s), .bool true]) := min_yes
  have HNo : Hid ((fireB x y zs ps srcs s && setB cs 0 ((zs.length : Int) - 1)) = false → minR x y zs ps srcs s cs = .tuple #[.int .i64 0, .bool false]) := min_no
  have HSt := Lib.hid fun W hW => isSet_any x y u zs.length (ints zs) vc cs W (h.below (w' := W) hW) (hcs.below hW)
  have HCs := Lib.hid fun W hW => hcs.below (w' := W) hW
  have Hin : Hid (setB cs 0 ((zs.length : Int) - 1) = true → ∀ z ∈ cs, 0 ≤ z ∧ z ≤ (zs.length : Int) - 1) := fun h => (setB_rise h).2
  have hmc := hcs.len
  unfold maxLen at hmc
  obtain ⟨Ac, cc, rfl⟩ := hcs.val
  rw [reg_set] at HSt
  clear hps hr hc
  cases hf : fireB x y zs ps srcs s with
  | false =>
    have hV := Lib.hid (HNo.out (by rw [hf]; rfl))
    rw [hf] at HA
    clear HR hf HY HNo h hcs
    generalize minR x y zs ps srcs s cs = V at *
    go_enter Try.func59, Try.ntmps59
    go_wp2_with fail
    with_reducible refine HA.out.mono ?_
    rintro e w1 ⟨rfl, hb1⟩
    have hb1 := Lib.hid (grow_trans hbx.out hb1)
    go_wp2
    go_ret2
    exact ⟨by rw [hV.out]; rfl, hb1.out⟩
  | true =>
    obtain ⟨hN0, h25, hs01, HR⟩ := HR.out hf
    have HR := Lib.hid HR
    skip
    rw [hf] at HA
    cases hc2 : setB cs 0 ((zs.length : Int) - 1) with
    | false =>
      have hV := Lib.hid (HNo.out (by rw [hf, hc2]; rfl))
      rw [hc2] at HSt
      clear hf HY HNo h hcs
      generalize minR x y zs ps srcs s cs = V at *
      go_enter Try.func59, Try.ntmps59
      go_wp2_with fail
      with_reducible refine HA.out.mono ?_
      rintro e w1 ⟨rfl, hb1⟩
      obtain ⟨t0, t1, t2⟩ := Hc.out _ hb1
      have hb1 := Lib.hid (grow_trans hbx.out hb1)
      go_wp2_with fail
      with_reducible refine (HSt.out _ hb1.out).mono ?_
      rintro e w2 ⟨rfl, hb2⟩
      have hb2 := Lib.hid (grow_trans hb1.out hb2)
      go_wp2
      go_ret2
      exact ⟨by rw [hV.out]; rfl, hb2.out⟩
    | true =>
      have hV := Lib.hid (HY.out (by rw [hf, hc2]; rfl))
      have Hin := Lib.hid (Hin.out hc2)
      rw [hc2] at HSt
      clear hf HY HNo h hcs hc2
      generalize minR x y zs ps srcs s cs = V at *
      unfold RetArr at HR
      generalize arrL x zs ps srcs s = R at *
      have HS : Hid (∀ (k c : Nat), cs[k]? = some (c : Int) → mnF R cs (k + 1) = if tm R c ≠ -1 ∧ (mnF R cs k = -1 ∨ tm R c < mnF R cs k) then tm R c else mnF R cs k) := fun k c => mnF_at
      have HBd : Hid ((∀ c, -1 ≤ tm R c ∧ tm R c ≤ 4000) → ∀ k, -1 ≤ mnF R cs k ∧ mnF R cs k ≤ 4000) := mnF_bd cs
      generalize hNN : zs.length = N at *
      clear hNN
      generalize hM : cs.length = M at *
      have HM := Lib.hid hM
      clear hM
      go_enter Try.func59, Try.ntmps59
      go_wp2_with fail
      with_reducible refine HA.out.mono ?_
      rintro e w1 ⟨rfl, hb1⟩
      have hT1 := Lib.hid (Hc.out _ hb1)
      obtain ⟨t0, t1, t2⟩ := hT1.out
      have hb1 := Lib.hid (grow_trans hbx.out hb1)
      go_wp2_with fail
      with_reducible refine (HSt.out _ hb1.out).mono ?_
      rintro e w2 ⟨rfl, hb2⟩
      clear t0 t1 t2
      obtain ⟨t0, t1, t2⟩ := hT1.out.below hb2
      have hb2 := Lib.hid (grow_trans hb1.out hb2)
      go_wp2_with fail
      with_reducible refine (HR.out _ hb2.out).mono ?_
      intro e w9 hra
      obtain ⟨⟨rv, rfl, ho, hb9⟩, hlf, hbd⟩ := hra
      have hl : Hid (R.length = N) := by have := ho.1; show _ = _; simp at this; omega
      have hs9 := hb2.out.size
      have ho := Lib.hid ho
      have hbd := Lib.hid hbd
      have hb9 := Lib.hid (grow_trans hb2.out hb9)
      obtain ⟨_, cv, rfl, hg⟩ := own_form ho.out
      obtain ⟨g, rfl, hg1, hg2⟩ := hg hN0
      clear hg hlf
      have HCs9 := Lib.hid (HCs.out w9 hb9.out)
      go_wp2
      go_loop [12, 36] (fun m i => ∃ k : Nat, k ≤ M ∧ i = .int .i64 k ∧ m = .int .i64 (mnF R cs k)) (fun _ i => M - (intOf i).toNat)
      case atStart => exact ⟨0, Nat.zero_le _, rfl, rfl⟩
      case round =>
        obtain ⟨k, hk, rfl, rfl⟩ := hrel
        by_cases hlt : k < M
        · have hlz : (k : Int) < (M : Int) := by omega
          obtain ⟨bc, ofc, z, rfl, hz, hcz⟩ := HCs9.out.at1 HM.out hlt
          have hzb := Hin.out z (List.mem_of_getElem? hz)
          obtain ⟨q, rfl⟩ := Int.eq_ofNat_of_zero_le hzb.1
          have hqN : q < N := by omega
          have hqz : (q : Int) < (N : Int) := by omega
          have cq := own_tm ho.out hl.out hqN
          have Hk := Lib.hid (HS.out k q hz)
          clear hz hzb
          generalize mnF R cs k = m at *
          generalize tm R q = t at *
          by_cases ht : t = -1
          · subst ht
            go_wp2
            go_round
            case rel => exact ⟨k + 1, by omega, by go_num, by rw [Hk.out, if_neg (fun e => e.1 rfl)]⟩
            case measure => simp [intOf]; omega
          · have ht' : (t == -1) = false := by simpa using ht
            by_cases hm : m = -1
            · subst hm
              go_wp2
              go_round
              case rel => exact ⟨k + 1, by omega, by go_num, by rw [Hk.out, if_pos ⟨ht, Or.inl rfl⟩]⟩
              case measure => simp [intOf]; omega
            · have hm' : (m == -1) = false := by simpa using hm
              by_cases htm : t < m
              · go_wp2
                go_round
                case rel => exact ⟨k + 1, by omega, by go_num, by rw [Hk.out, if_pos ⟨ht, Or.inr htm⟩]⟩
                case measure => simp [intOf]; omega
              · go_wp2
                go_round
                case rel => exact ⟨k + 1, by omega, by go_num, by rw [Hk.out, if_neg (fun e => e.2.elim hm htm)]⟩
                case measure => simp [intOf]; omega
        · obtain rfl : k = M := by omega
          obtain ⟨hmb1, hmb2⟩ := HBd.out hbd.out k
          generalize mnF R cs k = m at *
          by_cases hm : m = -1
          · have hV2 : Hid (V = .tuple #[.int .i64 0, .bool false]) := by show _ = _; rw [hV.out, if_pos hm]
            subst hm
            go_wp2
            go_ret2
            exact ⟨by rw [hV2.out]; rfl, hb9.out⟩
          · have hV2 : Hid (V = .tuple #[.int .i64 (m - s), .bool true]) := by show _ = _; rw [hV.out, if_neg hm]
            have hm' : (m == -1) = false := by simpa using hm
            go_wp2
            go_ret2
            exact ⟨by rw [hV2.out]; rfl, hb9.out⟩
end Go.Proofs.Ytnacofmjipilhaa
