/- FnSpeeds returns true for all codes: fire is not faster in damper fuel nor slower on a steeper slope upwards, the dampest moisture is fast enough, and the program answers as the reference. Conditions: none. -/
import Derived.Test.YtnacofmjipilhaaDrF2
import Derived.Test.YtnacofmjipilhaaSpdP
import Derived.Test.YtnacofmjipilhaaFuel2
namespace Go.Proofs.Ytnacofmjipilhaa.lFnSpeeds
open Go.ChangeShapes Go.WideShapes Go.ChangeAt Go.RowKit Go.Proofs.Ytnacofmjipilhaa
set_option linter.unusedVariables false
set_option linter.unusedSimpArgs false
set_option maxRecDepth 100000

/-- What the three speeds tell. -/
theorem sp_laws (i : Int) (n : List UInt8) (r l o m s : Int) : ∃ a0 c0 a1 c1 a2 c2,
    okR (fuelB i n r l o && inB m 0 400 && inB s (-45) 45) (speedN r l m s) = .tuple #[.int .i64 a0, .bool c0] ∧
    okR (fuelB i n r l o && inB (m + 1) 0 400 && inB s (-45) 45) (speedN r l (m + 1) s) = .tuple #[.int .i64 a1, .bool c1] ∧
    okR (fuelB i n r l o && inB m 0 400 && inB (s + 1) (-45) 45) (speedN r l m (s + 1)) = .tuple #[.int .i64 a2, .bool c2] ∧
    (c0 = true → c1 = true → a1 ≤ a0) ∧ (c0 = true → c2 = true → a0 ≤ a2) := by
  generalize hA : (fuelB i n r l o && inB m 0 400 && inB s (-45) 45) = A
  generalize hB : (fuelB i n r l o && inB (m + 1) 0 400 && inB s (-45) 45) = B
  generalize hC : (fuelB i n r l o && inB m 0 400 && inB (s + 1) (-45) 45) = C
  cases A with
  | false => cases B <;> cases C <;> exact ⟨_, _, _, _, _, _, rfl, rfl, rfl, (by intro h; cases h), (by intro h; cases h)⟩
  | true =>
    simp only [Bool.and_eq_true] at hA
    obtain ⟨⟨hf, hm⟩, hs⟩ := hA
    obtain ⟨_, _, ⟨r1, r2⟩, ⟨l1, l2⟩, _⟩ := fuelB_iff.1 hf
    obtain ⟨m1, m2⟩ := inB_iff.1 hm
    obtain ⟨s1, s2⟩ := inB_iff.1 hs
    have h1 := speed_damp (r := r) (l := l) (m := m) (s := s) r1 r2 l1 l2 m1 s1
    have h2 := speed_steep (r := r) (l := l) (m := m) (s := s) r1 r2 l1 l2 m1 s1
    cases B <;> cases C
    · exact ⟨_, _, _, _, _, _, rfl, rfl, rfl, (by intro _ h; cases h), (by intro _ h; cases h)⟩
    · exact ⟨_, _, _, _, _, _, rfl, rfl, rfl, (by intro _ h; cases h), fun _ _ => h2⟩
    · exact ⟨_, _, _, _, _, _, rfl, rfl, rfl, fun _ _ => h1, (by intro _ h; cases h)⟩
    · exact ⟨_, _, _, _, _, _, rfl, rfl, rfl, fun _ _ => h1, fun _ _ => h2⟩
/-- What the dampest moisture tells. -/
theorem dp_laws (i : Int) (n : List UInt8) (r l o s v : Int) : ∃ k c,
    optR (if fuelB i n r l o && inB s (-45) 45 && inB v 1 10000 then dampAt r l s v 400 else none) = .tuple #[.int .i64 k, .bool c] ∧
    (c = true → (0 ≤ k ∧ k ≤ 400) ∧ (∃ a, okR (fuelB i n r l o && inB k 0 400 && inB s (-45) 45) (speedN r l k s) = .tuple #[.int .i64 a, .bool true] ∧ v ≤ a) ∧
      ∃ a d, okR (fuelB i n r l o && inB (k + 1) 0 400 && inB s (-45) 45) (speedN r l (k + 1) s) = .tuple #[.int .i64 a, .bool d] ∧ (d = true → a < v)) := by
  split
  · rename_i h
    simp only [Bool.and_eq_true] at h
    obtain ⟨⟨hf, hs⟩, hv⟩ := h
    cases hd : dampAt r l s v 400 with
    | none => exact ⟨_, _, rfl, (by intro h; cases h)⟩
    | some k =>
      unfold dampAt at hd
      rw [if_neg (by omega)] at hd
      obtain ⟨k0, k1, k2, k3⟩ := damp_some hd
      refine ⟨_, _, rfl, fun _ => ⟨⟨k0, by omega⟩, ⟨speedN r l k s, ?_, k2⟩, ?_⟩⟩
      · rw [hf, hs, inB_iff.2 ⟨k0, by omega⟩]; rfl
      · generalize hB : (fuelB i n r l o && inB (k + 1) 0 400 && inB s (-45) 45) = B
        cases B with
        | false => exact ⟨_, _, rfl, (by intro h; cases h)⟩
        | true =>
          refine ⟨_, _, rfl, fun _ => ?_⟩
          simp only [Bool.and_eq_true] at hB
          have := inB_iff.1 hB.1.2
          have := k3 (by omega)
          omega
  · exact ⟨_, _, rfl, (by intro h; cases h)⟩
theorem rBig_any (v : Value) (N : Nat) (cs : List Value) (w : World) (h : Sl w 1 v N cs) : Calls Try.prog 26 #[v] w fun e w' => e = .returned (.bool (decide ((65536 : Int) < (N : Int)))) ∧ w = w' := by
  have := h.len
  obtain ⟨A, c, rfl⟩ := h.val
  unfold maxLen at this
  clear h
  go_enter Try.func26, Try.ntmps26
  go_wp2
  go_ret
  exact ⟨rfl, rfl⟩
set_option maxHeartbeats 16000000 in
theorem walk (W : World) (v0 : Value) (z0 : List Int) (k0 : Sl W 1 v0 z0.length (octs z0) ∧ ∀ z ∈ z0, 0 ≤ z ∧ z ≤ 255) :
    Calls Try.prog 5 #[v0] W fun e w' => e = .returned (.bool true) ∧ Below W.heap.size W w' := by
  have HB := Lib.hid (rBig_any v0 _ _ W k0.1)
  by_cases hbig : (65536 : Int) < (z0.length : Int)
  case pos =>
    rw [decide_eq_true hbig] at HB
    go_enter Try.func5, Try.ntmps5
    go_wp2_with fail
    with_reducible refine HB.out.mono ?_
    rintro e w1 ⟨rfl, rfl⟩
    go_wp2
    go_ret
    exact ⟨rfl, Below.refl _ _⟩
  rw [decide_eq_false hbig] at HB
  have D1 := Lib.hid fun w' (hW : Below W.heap.size W w') => DrawSpeedIn_any v0 z0 w' (k0.1.below hW) k0.2
  have D2 := Lib.hid fun w' (hW : Below W.heap.size W w') => DrawDampestFor_any v0 z0 w' (k0.1.below hW) k0.2
  have D3 := Lib.hid fun w' (hW : Below W.heap.size W w') => DrawHeatOf_any v0 z0 w' (k0.1.below hW) k0.2
  have hb : Hid (Below W.heap.size W W) := Below.refl _ _
  clear k0
  go_enter Try.func5, Try.ntmps5
  go_wp2_with fail
  with_reducible refine HB.out.mono ?_
  rintro e w1 ⟨rfl, rfl⟩
  clear HB
  go_wp2_with fail
  refine (D1.out _ hb.out).mono ?_
  rintro e w2 ⟨i, n, r, l, o, m, s, rfl, hFS, ⟨m0, m1⟩, ⟨s0, s1⟩, hb'⟩
  have hn : n.size ≤ maxLen := by have := hFS.2.1; unfold maxLen; omega
  replace hb := Lib.hid (grow_trans hb.out (grow_trans hb' (grow_alloc w2 (.cells #[.int .i64 i, .string n, .int .i64 r, .int .i64 l, .int .i64 o] 39))))
  have hX : Hid (Bx (w2.alloc (.cells #[.int .i64 i, .string n, .int .i64 r, .int .i64 l, .int .i64 o] 39)) 39 w2.heap.size (fuC i n r l o)) := Bx.new w2 (fuC i n r l o) _
  have hsz' := hFS
  clear hb' hFS hsz'
  obtain ⟨a0, c0, a1, c1, a2, c2, e0, e1, e2, q1, q2⟩ := sp_laws i n.data.toList r l o m s
  have I0 := fun W => SpeedIn_any i n r l o m s W hn
  have S0 := fun W => sSpeedIn_any i n r l o m s W hn
  have I1 := fun W => SpeedIn_any i n r l o (m + 1) s W hn
  have I2 := fun W => SpeedIn_any i n r l o m (s + 1) W hn
  rw [e0] at I0 S0; rw [e1] at I1; rw [e2] at I2
  replace I0 := Lib.hid I0; replace S0 := Lib.hid S0; replace I1 := Lib.hid I1; replace I2 := Lib.hid I2
  have q1 := Lib.hid q1; have q2 := Lib.hid q2
  clear e0 e1 e2
  obtain ⟨⟨x0, x1, x2, x3, x4⟩, _⟩ := fu_cells hX.out
  go_wp2_with fail
  with_reducible refine (I0.out _).mono ?_
  rintro e w3 ⟨rfl, hb'⟩
  replace hb := Lib.hid (grow_trans hb.out hb')
  replace hX := Lib.hid (hX.out.below hb')
  clear hb' x0 x1 x2 x3 x4
  obtain ⟨⟨x0, x1, x2, x3, x4⟩, _⟩ := fu_cells hX.out
  go_wp2_with fail
  with_reducible refine (S0.out _).mono ?_
  rintro e w4 ⟨rfl, hb'⟩
  replace hb := Lib.hid (grow_trans hb.out hb')
  replace hX := Lib.hid (hX.out.below hb')
  clear hb' x0 x1 x2 x3 x4
  obtain ⟨⟨x0, x1, x2, x3, x4⟩, _⟩ := fu_cells hX.out
  go_wp2_with fail
  with_reducible refine (I1.out _).mono ?_
  rintro e w5 ⟨rfl, hb'⟩
  replace hb := Lib.hid (grow_trans hb.out hb')
  replace hX := Lib.hid (hX.out.below hb')
  clear hb' x0 x1 x2 x3 x4
  obtain ⟨⟨x0, x1, x2, x3, x4⟩, _⟩ := fu_cells hX.out
  cases c0 with
  | false =>
    go_wp2_with fail
    with_reducible refine (I2.out _).mono ?_
    rintro e w6 ⟨rfl, hb'⟩
    replace hb := Lib.hid (grow_trans hb.out hb')
    replace hX := Lib.hid (hX.out.below hb')
    clear hb' x0 x1 x2 x3 x4
    obtain ⟨⟨x0, x1, x2, x3, x4⟩, _⟩ := fu_cells hX.out
    clear x0 x1 x2 x3 x4
    clear hX q1 q2 I0 S0 I1 I2
    clear m0 m1 s0 s1 hn
    go_wp2_with fail
    refine (D2.out _ hb.out).mono ?_
    rintro e w7 ⟨i, n, r, l, o, s, v, rfl, hFS, ⟨s0, s1⟩, ⟨u0, u1⟩, hb'⟩
    have hn : n.size ≤ maxLen := by have := hFS.2.1; unfold maxLen; omega
    replace hb := Lib.hid (grow_trans hb.out (grow_trans hb' (grow_alloc w7 (.cells #[.int .i64 i, .string n, .int .i64 r, .int .i64 l, .int .i64 o] 39))))
    have hX : Hid (Bx (w7.alloc (.cells #[.int .i64 i, .string n, .int .i64 r, .int .i64 l, .int .i64 o] 39)) 39 w7.heap.size (fuC i n r l o)) := Bx.new w7 (fuC i n r l o) _
    have hsz' := hFS
    clear hb' hFS hsz'
    obtain ⟨kk, c, e0, q⟩ := dp_laws i n.data.toList r l o s v
    have I0 := fun W => DampestFor_any i n r l o s v W hn
    have S0 := fun W => sDampestFor_any i n r l o s v W hn
    rw [e0] at I0 S0
    replace I0 := Lib.hid I0
    replace S0 := Lib.hid S0
    replace q := Lib.hid q
    clear e0
    obtain ⟨⟨x0, x1, x2, x3, x4⟩, _⟩ := fu_cells hX.out
    go_wp2_with fail
    with_reducible refine (I0.out _).mono ?_
    rintro e w8 ⟨rfl, hb'⟩
    replace hb := Lib.hid (grow_trans hb.out hb')
    replace hX := Lib.hid (hX.out.below hb')
    clear hb' x0 x1 x2 x3 x4
    obtain ⟨⟨x0, x1, x2, x3, x4⟩, _⟩ := fu_cells hX.out
    go_wp2_with fail
    with_reducible refine (S0.out _).mono ?_
    rintro e w9 ⟨rfl, hb'⟩
    replace hb := Lib.hid (grow_trans hb.out hb')
    replace hX := Lib.hid (hX.out.below hb')
    clear hb' x0 x1 x2 x3 x4
    obtain ⟨⟨x0, x1, x2, x3, x4⟩, _⟩ := fu_cells hX.out
    cases c with
    | false =>
      clear hX q I0 S0 x0 x1 x2 x3 x4 hn s0 s1 u0 u1
      go_wp2_with fail
      refine (D3.out _ hb.out).mono ?_
      rintro e w10 ⟨i, n, r, l, o, m, rfl, hFS, ⟨m0, m1⟩, hb'⟩
      have hn : n.size ≤ maxLen := by have := hFS.2.1; unfold maxLen; omega
      replace hb := Lib.hid (grow_trans hb.out (grow_trans hb' (grow_alloc w10 (.cells #[.int .i64 i, .string n, .int .i64 r, .int .i64 l, .int .i64 o] 39))))
      have hX : Hid (Bx (w10.alloc (.cells #[.int .i64 i, .string n, .int .i64 r, .int .i64 l, .int .i64 o] 39)) 39 w10.heap.size (fuC i n r l o)) := Bx.new w10 (fuC i n r l o) _
      have hsz' := hFS
      clear hb' hFS hsz'
      have I0 := fun W => HeatOf_any i n r l o m W hn
      have S0 := fun W => sHeatOf_any i n r l o m W hn
      obtain ⟨a, c, e0⟩ := okR_shape (fuelB i n.data.toList r l o && inB m 0 10000) (o * m / 20)
      rw [e0] at I0 S0
      replace I0 := Lib.hid I0
      replace S0 := Lib.hid S0
      clear e0
      obtain ⟨⟨x0, x1, x2, x3, x4⟩, _⟩ := fu_cells hX.out
      go_wp2_with fail
      with_reducible refine (I0.out _).mono ?_
      rintro e w11 ⟨rfl, hb'⟩
      replace hb := Lib.hid (grow_trans hb.out hb')
      replace hX := Lib.hid (hX.out.below hb')
      clear hb' x0 x1 x2 x3 x4
      obtain ⟨⟨x0, x1, x2, x3, x4⟩, _⟩ := fu_cells hX.out
      go_wp2_with fail
      with_reducible refine (S0.out _).mono ?_
      rintro e w12 ⟨rfl, hb'⟩
      replace hb := Lib.hid (grow_trans hb.out hb')
      replace hX := Lib.hid (hX.out.below hb')
      clear hb' x0 x1 x2 x3 x4
      clear hX
      go_wp2
      all_goals go_ret
      all_goals exact ⟨by simp, hb.out⟩
    | true =>
      obtain ⟨⟨g0, g1⟩, ⟨b0, e1, g2⟩, b1, d, e2, g3⟩ := q.out (by trivial)
      have J0 := fun W => SpeedIn_any i n r l o kk s W hn
      have J1 := fun W => SpeedIn_any i n r l o (kk + 1) s W hn
      rw [e1] at J0
      rw [e2] at J1
      replace J0 := Lib.hid J0
      replace J1 := Lib.hid J1
      clear e1 e2 q I0 S0
      go_wp2_with fail
      with_reducible refine (J0.out _).mono ?_
      rintro e w13 ⟨rfl, hb'⟩
      replace hb := Lib.hid (grow_trans hb.out hb')
      replace hX := Lib.hid (hX.out.below hb')
      clear hb' x0 x1 x2 x3 x4
      obtain ⟨⟨x0, x1, x2, x3, x4⟩, _⟩ := fu_cells hX.out
      go_wp2_with fail
      with_reducible refine (J1.out _).mono ?_
      rintro e w14 ⟨rfl, hb'⟩
      replace hb := Lib.hid (grow_trans hb.out hb')
      replace hX := Lib.hid (hX.out.below hb')
      clear hb' x0 x1 x2 x3 x4
      clear hX
      cases d with
      | false =>
        clear g3 g2 J0 J1 hn s0 s1
        go_wp2_with fail
        refine (D3.out _ hb.out).mono ?_
        rintro e w15 ⟨i, n, r, l, o, m, rfl, hFS, ⟨m0, m1⟩, hb'⟩
        have hn : n.size ≤ maxLen := by have := hFS.2.1; unfold maxLen; omega
        replace hb := Lib.hid (grow_trans hb.out (grow_trans hb' (grow_alloc w15 (.cells #[.int .i64 i, .string n, .int .i64 r, .int .i64 l, .int .i64 o] 39))))
        have hX : Hid (Bx (w15.alloc (.cells #[.int .i64 i, .string n, .int .i64 r, .int .i64 l, .int .i64 o] 39)) 39 w15.heap.size (fuC i n r l o)) := Bx.new w15 (fuC i n r l o) _
        have hsz' := hFS
        clear hb' hFS hsz'
        have I0 := fun W => HeatOf_any i n r l o m W hn
        have S0 := fun W => sHeatOf_any i n r l o m W hn
        obtain ⟨a, c, e0⟩ := okR_shape (fuelB i n.data.toList r l o && inB m 0 10000) (o * m / 20)
        rw [e0] at I0 S0
        replace I0 := Lib.hid I0
        replace S0 := Lib.hid S0
        clear e0
        obtain ⟨⟨x0, x1, x2, x3, x4⟩, _⟩ := fu_cells hX.out
        go_wp2_with fail
        with_reducible refine (I0.out _).mono ?_
        rintro e w16 ⟨rfl, hb'⟩
        replace hb := Lib.hid (grow_trans hb.out hb')
        replace hX := Lib.hid (hX.out.below hb')
        clear hb' x0 x1 x2 x3 x4
        obtain ⟨⟨x0, x1, x2, x3, x4⟩, _⟩ := fu_cells hX.out
        go_wp2_with fail
        with_reducible refine (S0.out _).mono ?_
        rintro e w17 ⟨rfl, hb'⟩
        replace hb := Lib.hid (grow_trans hb.out hb')
        replace hX := Lib.hid (hX.out.below hb')
        clear hb' x0 x1 x2 x3 x4
        clear hX
        go_wp2
        all_goals go_ret
        all_goals exact ⟨by simp, hb.out⟩
      | true =>
        replace g3 := g3 (by trivial)
        clear J0 J1 hn s0 s1
        go_wp2_with fail
        refine (D3.out _ hb.out).mono ?_
        rintro e w18 ⟨i, n, r, l, o, m, rfl, hFS, ⟨m0, m1⟩, hb'⟩
        have hn : n.size ≤ maxLen := by have := hFS.2.1; unfold maxLen; omega
        replace hb := Lib.hid (grow_trans hb.out (grow_trans hb' (grow_alloc w18 (.cells #[.int .i64 i, .string n, .int .i64 r, .int .i64 l, .int .i64 o] 39))))
        have hX : Hid (Bx (w18.alloc (.cells #[.int .i64 i, .string n, .int .i64 r, .int .i64 l, .int .i64 o] 39)) 39 w18.heap.size (fuC i n r l o)) := Bx.new w18 (fuC i n r l o) _
        have hsz' := hFS
        clear hb' hFS hsz'
        have I0 := fun W => HeatOf_any i n r l o m W hn
        have S0 := fun W => sHeatOf_any i n r l o m W hn
        obtain ⟨a, c, e0⟩ := okR_shape (fuelB i n.data.toList r l o && inB m 0 10000) (o * m / 20)
        rw [e0] at I0 S0
        replace I0 := Lib.hid I0
        replace S0 := Lib.hid S0
        clear e0
        obtain ⟨⟨x0, x1, x2, x3, x4⟩, _⟩ := fu_cells hX.out
        go_wp2_with fail
        with_reducible refine (I0.out _).mono ?_
        rintro e w19 ⟨rfl, hb'⟩
        replace hb := Lib.hid (grow_trans hb.out hb')
        replace hX := Lib.hid (hX.out.below hb')
        clear hb' x0 x1 x2 x3 x4
        obtain ⟨⟨x0, x1, x2, x3, x4⟩, _⟩ := fu_cells hX.out
        go_wp2_with fail
        with_reducible refine (S0.out _).mono ?_
        rintro e w20 ⟨rfl, hb'⟩
        replace hb := Lib.hid (grow_trans hb.out hb')
        replace hX := Lib.hid (hX.out.below hb')
        clear hb' x0 x1 x2 x3 x4
        clear hX
        go_wp2
        all_goals go_ret
        all_goals exact ⟨by simp, hb.out⟩
  | true =>
    cases c1 with
    | false =>
      go_wp2_with fail
      with_reducible refine (I2.out _).mono ?_
      rintro e w6 ⟨rfl, hb'⟩
      replace hb := Lib.hid (grow_trans hb.out hb')
      replace hX := Lib.hid (hX.out.below hb')
      clear hb' x0 x1 x2 x3 x4
      obtain ⟨⟨x0, x1, x2, x3, x4⟩, _⟩ := fu_cells hX.out
      clear x0 x1 x2 x3 x4
      cases c2 with
      | false =>
        clear hX q1 q2 I0 S0 I1 I2
        clear m0 m1 s0 s1 hn
        go_wp2_with fail
        refine (D2.out _ hb.out).mono ?_
        rintro e w7 ⟨i, n, r, l, o, s, v, rfl, hFS, ⟨s0, s1⟩, ⟨u0, u1⟩, hb'⟩
        have hn : n.size ≤ maxLen := by have := hFS.2.1; unfold maxLen; omega
        replace hb := Lib.hid (grow_trans hb.out (grow_trans hb' (grow_alloc w7 (.cells #[.int .i64 i, .string n, .int .i64 r, .int .i64 l, .int .i64 o] 39))))
        have hX : Hid (Bx (w7.alloc (.cells #[.int .i64 i, .string n, .int .i64 r, .int .i64 l, .int .i64 o] 39)) 39 w7.heap.size (fuC i n r l o)) := Bx.new w7 (fuC i n r l o) _
        have hsz' := hFS
        clear hb' hFS hsz'
        obtain ⟨kk, c, e0, q⟩ := dp_laws i n.data.toList r l o s v
        have I0 := fun W => DampestFor_any i n r l o s v W hn
        have S0 := fun W => sDampestFor_any i n r l o s v W hn
        rw [e0] at I0 S0
        replace I0 := Lib.hid I0
        replace S0 := Lib.hid S0
        replace q := Lib.hid q
        clear e0
        obtain ⟨⟨x0, x1, x2, x3, x4⟩, _⟩ := fu_cells hX.out
        go_wp2_with fail
        with_reducible refine (I0.out _).mono ?_
        rintro e w8 ⟨rfl, hb'⟩
        replace hb := Lib.hid (grow_trans hb.out hb')
        replace hX := Lib.hid (hX.out.below hb')
        clear hb' x0 x1 x2 x3 x4
        obtain ⟨⟨x0, x1, x2, x3, x4⟩, _⟩ := fu_cells hX.out
        go_wp2_with fail
        with_reducible refine (S0.out _).mono ?_
        rintro e w9 ⟨rfl, hb'⟩
        replace hb := Lib.hid (grow_trans hb.out hb')
        replace hX := Lib.hid (hX.out.below hb')
        clear hb' x0 x1 x2 x3 x4
        obtain ⟨⟨x0, x1, x2, x3, x4⟩, _⟩ := fu_cells hX.out
        cases c with
        | false =>
          clear hX q I0 S0 x0 x1 x2 x3 x4 hn s0 s1 u0 u1
          go_wp2_with fail
          refine (D3.out _ hb.out).mono ?_
          rintro e w10 ⟨i, n, r, l, o, m, rfl, hFS, ⟨m0, m1⟩, hb'⟩
          have hn : n.size ≤ maxLen := by have := hFS.2.1; unfold maxLen; omega
          replace hb := Lib.hid (grow_trans hb.out (grow_trans hb' (grow_alloc w10 (.cells #[.int .i64 i, .string n, .int .i64 r, .int .i64 l, .int .i64 o] 39))))
          have hX : Hid (Bx (w10.alloc (.cells #[.int .i64 i, .string n, .int .i64 r, .int .i64 l, .int .i64 o] 39)) 39 w10.heap.size (fuC i n r l o)) := Bx.new w10 (fuC i n r l o) _
          have hsz' := hFS
          clear hb' hFS hsz'
          have I0 := fun W => HeatOf_any i n r l o m W hn
          have S0 := fun W => sHeatOf_any i n r l o m W hn
          obtain ⟨a, c, e0⟩ := okR_shape (fuelB i n.data.toList r l o && inB m 0 10000) (o * m / 20)
          rw [e0] at I0 S0
          replace I0 := Lib.hid I0
          replace S0 := Lib.hid S0
          clear e0
          obtain ⟨⟨x0, x1, x2, x3, x4⟩, _⟩ := fu_cells hX.out
          go_wp2_with fail
          with_reducible refine (I0.out _).mono ?_
          rintro e w11 ⟨rfl, hb'⟩
          replace hb := Lib.hid (grow_trans hb.out hb')
          replace hX := Lib.hid (hX.out.below hb')
          clear hb' x0 x1 x2 x3 x4
          obtain ⟨⟨x0, x1, x2, x3, x4⟩, _⟩ := fu_cells hX.out
          go_wp2_with fail
          with_reducible refine (S0.out _).mono ?_
          rintro e w12 ⟨rfl, hb'⟩
          replace hb := Lib.hid (grow_trans hb.out hb')
          replace hX := Lib.hid (hX.out.below hb')
          clear hb' x0 x1 x2 x3 x4
          clear hX
          go_wp2
          all_goals go_ret
          all_goals exact ⟨by simp, hb.out⟩
        | true =>
          obtain ⟨⟨g0, g1⟩, ⟨b0, e1, g2⟩, b1, d, e2, g3⟩ := q.out (by trivial)
          have J0 := fun W => SpeedIn_any i n r l o kk s W hn
          have J1 := fun W => SpeedIn_any i n r l o (kk + 1) s W hn
          rw [e1] at J0
          rw [e2] at J1
          replace J0 := Lib.hid J0
          replace J1 := Lib.hid J1
          clear e1 e2 q I0 S0
          go_wp2_with fail
          with_reducible refine (J0.out _).mono ?_
          rintro e w13 ⟨rfl, hb'⟩
          replace hb := Lib.hid (grow_trans hb.out hb')
          replace hX := Lib.hid (hX.out.below hb')
          clear hb' x0 x1 x2 x3 x4
          obtain ⟨⟨x0, x1, x2, x3, x4⟩, _⟩ := fu_cells hX.out
          go_wp2_with fail
          with_reducible refine (J1.out _).mono ?_
          rintro e w14 ⟨rfl, hb'⟩
          replace hb := Lib.hid (grow_trans hb.out hb')
          replace hX := Lib.hid (hX.out.below hb')
          clear hb' x0 x1 x2 x3 x4
          clear hX
          cases d with
          | false =>
            clear g3 g2 J0 J1 hn s0 s1
            go_wp2_with fail
            refine (D3.out _ hb.out).mono ?_
            rintro e w15 ⟨i, n, r, l, o, m, rfl, hFS, ⟨m0, m1⟩, hb'⟩
            have hn : n.size ≤ maxLen := by have := hFS.2.1; unfold maxLen; omega
            replace hb := Lib.hid (grow_trans hb.out (grow_trans hb' (grow_alloc w15 (.cells #[.int .i64 i, .string n, .int .i64 r, .int .i64 l, .int .i64 o] 39))))
            have hX : Hid (Bx (w15.alloc (.cells #[.int .i64 i, .string n, .int .i64 r, .int .i64 l, .int .i64 o] 39)) 39 w15.heap.size (fuC i n r l o)) := Bx.new w15 (fuC i n r l o) _
            have hsz' := hFS
            clear hb' hFS hsz'
            have I0 := fun W => HeatOf_any i n r l o m W hn
            have S0 := fun W => sHeatOf_any i n r l o m W hn
            obtain ⟨a, c, e0⟩ := okR_shape (fuelB i n.data.toList r l o && inB m 0 10000) (o * m / 20)
            rw [e0] at I0 S0
            replace I0 := Lib.hid I0
            replace S0 := Lib.hid S0
            clear e0
            obtain ⟨⟨x0, x1, x2, x3, x4⟩, _⟩ := fu_cells hX.out
            go_wp2_with fail
            with_reducible refine (I0.out _).mono ?_
            rintro e w16 ⟨rfl, hb'⟩
            replace hb := Lib.hid (grow_trans hb.out hb')
            replace hX := Lib.hid (hX.out.below hb')
            clear hb' x0 x1 x2 x3 x4
            obtain ⟨⟨x0, x1, x2, x3, x4⟩, _⟩ := fu_cells hX.out
            go_wp2_with fail
            with_reducible refine (S0.out _).mono ?_
            rintro e w17 ⟨rfl, hb'⟩
            replace hb := Lib.hid (grow_trans hb.out hb')
            replace hX := Lib.hid (hX.out.below hb')
            clear hb' x0 x1 x2 x3 x4
            clear hX
            go_wp2
            all_goals go_ret
            all_goals exact ⟨by simp, hb.out⟩
          | true =>
            replace g3 := g3 (by trivial)
            clear J0 J1 hn s0 s1
            go_wp2_with fail
            refine (D3.out _ hb.out).mono ?_
            rintro e w18 ⟨i, n, r, l, o, m, rfl, hFS, ⟨m0, m1⟩, hb'⟩
            have hn : n.size ≤ maxLen := by have := hFS.2.1; unfold maxLen; omega
            replace hb := Lib.hid (grow_trans hb.out (grow_trans hb' (grow_alloc w18 (.cells #[.int .i64 i, .string n, .int .i64 r, .int .i64 l, .int .i64 o] 39))))
            have hX : Hid (Bx (w18.alloc (.cells #[.int .i64 i, .string n, .int .i64 r, .int .i64 l, .int .i64 o] 39)) 39 w18.heap.size (fuC i n r l o)) := Bx.new w18 (fuC i n r l o) _
            have hsz' := hFS
            clear hb' hFS hsz'
            have I0 := fun W => HeatOf_any i n r l o m W hn
            have S0 := fun W => sHeatOf_any i n r l o m W hn
            obtain ⟨a, c, e0⟩ := okR_shape (fuelB i n.data.toList r l o && inB m 0 10000) (o * m / 20)
            rw [e0] at I0 S0
            replace I0 := Lib.hid I0
            replace S0 := Lib.hid S0
            clear e0
            obtain ⟨⟨x0, x1, x2, x3, x4⟩, _⟩ := fu_cells hX.out
            go_wp2_with fail
            with_reducible refine (I0.out _).mono ?_
            rintro e w19 ⟨rfl, hb'⟩
            replace hb := Lib.hid (grow_trans hb.out hb')
            replace hX := Lib.hid (hX.out.below hb')
            clear hb' x0 x1 x2 x3 x4
            obtain ⟨⟨x0, x1, x2, x3, x4⟩, _⟩ := fu_cells hX.out
            go_wp2_with fail
            with_reducible refine (S0.out _).mono ?_
            rintro e w20 ⟨rfl, hb'⟩
            replace hb := Lib.hid (grow_trans hb.out hb')
            replace hX := Lib.hid (hX.out.below hb')
            clear hb' x0 x1 x2 x3 x4
            clear hX
            go_wp2
            all_goals go_ret
            all_goals exact ⟨by simp, hb.out⟩
      | true =>
        have q4 := q2.out (by trivial) (by trivial)
        clear hX q1 q2 I0 S0 I1 I2
        clear m0 m1 s0 s1 hn
        go_wp2_with fail
        refine (D2.out _ hb.out).mono ?_
        rintro e w7 ⟨i, n, r, l, o, s, v, rfl, hFS, ⟨s0, s1⟩, ⟨u0, u1⟩, hb'⟩
        have hn : n.size ≤ maxLen := by have := hFS.2.1; unfold maxLen; omega
        replace hb := Lib.hid (grow_trans hb.out (grow_trans hb' (grow_alloc w7 (.cells #[.int .i64 i, .string n, .int .i64 r, .int .i64 l, .int .i64 o] 39))))
        have hX : Hid (Bx (w7.alloc (.cells #[.int .i64 i, .string n, .int .i64 r, .int .i64 l, .int .i64 o] 39)) 39 w7.heap.size (fuC i n r l o)) := Bx.new w7 (fuC i n r l o) _
        have hsz' := hFS
        clear hb' hFS hsz'
        obtain ⟨kk, c, e0, q⟩ := dp_laws i n.data.toList r l o s v
        have I0 := fun W => DampestFor_any i n r l o s v W hn
        have S0 := fun W => sDampestFor_any i n r l o s v W hn
        rw [e0] at I0 S0
        replace I0 := Lib.hid I0
        replace S0 := Lib.hid S0
        replace q := Lib.hid q
        clear e0
        obtain ⟨⟨x0, x1, x2, x3, x4⟩, _⟩ := fu_cells hX.out
        go_wp2_with fail
        with_reducible refine (I0.out _).mono ?_
        rintro e w8 ⟨rfl, hb'⟩
        replace hb := Lib.hid (grow_trans hb.out hb')
        replace hX := Lib.hid (hX.out.below hb')
        clear hb' x0 x1 x2 x3 x4
        obtain ⟨⟨x0, x1, x2, x3, x4⟩, _⟩ := fu_cells hX.out
        go_wp2_with fail
        with_reducible refine (S0.out _).mono ?_
        rintro e w9 ⟨rfl, hb'⟩
        replace hb := Lib.hid (grow_trans hb.out hb')
        replace hX := Lib.hid (hX.out.below hb')
        clear hb' x0 x1 x2 x3 x4
        obtain ⟨⟨x0, x1, x2, x3, x4⟩, _⟩ := fu_cells hX.out
        cases c with
        | false =>
          clear hX q I0 S0 x0 x1 x2 x3 x4 hn s0 s1 u0 u1
          go_wp2_with fail
          refine (D3.out _ hb.out).mono ?_
          rintro e w10 ⟨i, n, r, l, o, m, rfl, hFS, ⟨m0, m1⟩, hb'⟩
          have hn : n.size ≤ maxLen := by have := hFS.2.1; unfold maxLen; omega
          replace hb := Lib.hid (grow_trans hb.out (grow_trans hb' (grow_alloc w10 (.cells #[.int .i64 i, .string n, .int .i64 r, .int .i64 l, .int .i64 o] 39))))
          have hX : Hid (Bx (w10.alloc (.cells #[.int .i64 i, .string n, .int .i64 r, .int .i64 l, .int .i64 o] 39)) 39 w10.heap.size (fuC i n r l o)) := Bx.new w10 (fuC i n r l o) _
          have hsz' := hFS
          clear hb' hFS hsz'
          have I0 := fun W => HeatOf_any i n r l o m W hn
          have S0 := fun W => sHeatOf_any i n r l o m W hn
          obtain ⟨a, c, e0⟩ := okR_shape (fuelB i n.data.toList r l o && inB m 0 10000) (o * m / 20)
          rw [e0] at I0 S0
          replace I0 := Lib.hid I0
          replace S0 := Lib.hid S0
          clear e0
          obtain ⟨⟨x0, x1, x2, x3, x4⟩, _⟩ := fu_cells hX.out
          go_wp2_with fail
          with_reducible refine (I0.out _).mono ?_
          rintro e w11 ⟨rfl, hb'⟩
          replace hb := Lib.hid (grow_trans hb.out hb')
          replace hX := Lib.hid (hX.out.below hb')
          clear hb' x0 x1 x2 x3 x4
          obtain ⟨⟨x0, x1, x2, x3, x4⟩, _⟩ := fu_cells hX.out
          go_wp2_with fail
          with_reducible refine (S0.out _).mono ?_
          rintro e w12 ⟨rfl, hb'⟩
          replace hb := Lib.hid (grow_trans hb.out hb')
          replace hX := Lib.hid (hX.out.below hb')
          clear hb' x0 x1 x2 x3 x4
          clear hX
          go_wp2
          all_goals go_ret
          all_goals exact ⟨by simp, hb.out⟩
        | true =>
          obtain ⟨⟨g0, g1⟩, ⟨b0, e1, g2⟩, b1, d, e2, g3⟩ := q.out (by trivial)
          have J0 := fun W => SpeedIn_any i n r l o kk s W hn
          have J1 := fun W => SpeedIn_any i n r l o (kk + 1) s W hn
          rw [e1] at J0
          rw [e2] at J1
          replace J0 := Lib.hid J0
          replace J1 := Lib.hid J1
          clear e1 e2 q I0 S0
          go_wp2_with fail
          with_reducible refine (J0.out _).mono ?_
          rintro e w13 ⟨rfl, hb'⟩
          replace hb := Lib.hid (grow_trans hb.out hb')
          replace hX := Lib.hid (hX.out.below hb')
          clear hb' x0 x1 x2 x3 x4
          obtain ⟨⟨x0, x1, x2, x3, x4⟩, _⟩ := fu_cells hX.out
          go_wp2_with fail
          with_reducible refine (J1.out _).mono ?_
          rintro e w14 ⟨rfl, hb'⟩
          replace hb := Lib.hid (grow_trans hb.out hb')
          replace hX := Lib.hid (hX.out.below hb')
          clear hb' x0 x1 x2 x3 x4
          clear hX
          cases d with
          | false =>
            clear g3 g2 J0 J1 hn s0 s1
            go_wp2_with fail
            refine (D3.out _ hb.out).mono ?_
            rintro e w15 ⟨i, n, r, l, o, m, rfl, hFS, ⟨m0, m1⟩, hb'⟩
            have hn : n.size ≤ maxLen := by have := hFS.2.1; unfold maxLen; omega
            replace hb := Lib.hid (grow_trans hb.out (grow_trans hb' (grow_alloc w15 (.cells #[.int .i64 i, .string n, .int .i64 r, .int .i64 l, .int .i64 o] 39))))
            have hX : Hid (Bx (w15.alloc (.cells #[.int .i64 i, .string n, .int .i64 r, .int .i64 l, .int .i64 o] 39)) 39 w15.heap.size (fuC i n r l o)) := Bx.new w15 (fuC i n r l o) _
            have hsz' := hFS
            clear hb' hFS hsz'
            have I0 := fun W => HeatOf_any i n r l o m W hn
            have S0 := fun W => sHeatOf_any i n r l o m W hn
            obtain ⟨a, c, e0⟩ := okR_shape (fuelB i n.data.toList r l o && inB m 0 10000) (o * m / 20)
            rw [e0] at I0 S0
            replace I0 := Lib.hid I0
            replace S0 := Lib.hid S0
            clear e0
            obtain ⟨⟨x0, x1, x2, x3, x4⟩, _⟩ := fu_cells hX.out
            go_wp2_with fail
            with_reducible refine (I0.out _).mono ?_
            rintro e w16 ⟨rfl, hb'⟩
            replace hb := Lib.hid (grow_trans hb.out hb')
            replace hX := Lib.hid (hX.out.below hb')
            clear hb' x0 x1 x2 x3 x4
            obtain ⟨⟨x0, x1, x2, x3, x4⟩, _⟩ := fu_cells hX.out
            go_wp2_with fail
            with_reducible refine (S0.out _).mono ?_
            rintro e w17 ⟨rfl, hb'⟩
            replace hb := Lib.hid (grow_trans hb.out hb')
            replace hX := Lib.hid (hX.out.below hb')
            clear hb' x0 x1 x2 x3 x4
            clear hX
            go_wp2
            all_goals go_ret
            all_goals exact ⟨by simp, hb.out⟩
          | true =>
            replace g3 := g3 (by trivial)
            clear J0 J1 hn s0 s1
            go_wp2_with fail
            refine (D3.out _ hb.out).mono ?_
            rintro e w18 ⟨i, n, r, l, o, m, rfl, hFS, ⟨m0, m1⟩, hb'⟩
            have hn : n.size ≤ maxLen := by have := hFS.2.1; unfold maxLen; omega
            replace hb := Lib.hid (grow_trans hb.out (grow_trans hb' (grow_alloc w18 (.cells #[.int .i64 i, .string n, .int .i64 r, .int .i64 l, .int .i64 o] 39))))
            have hX : Hid (Bx (w18.alloc (.cells #[.int .i64 i, .string n, .int .i64 r, .int .i64 l, .int .i64 o] 39)) 39 w18.heap.size (fuC i n r l o)) := Bx.new w18 (fuC i n r l o) _
            have hsz' := hFS
            clear hb' hFS hsz'
            have I0 := fun W => HeatOf_any i n r l o m W hn
            have S0 := fun W => sHeatOf_any i n r l o m W hn
            obtain ⟨a, c, e0⟩ := okR_shape (fuelB i n.data.toList r l o && inB m 0 10000) (o * m / 20)
            rw [e0] at I0 S0
            replace I0 := Lib.hid I0
            replace S0 := Lib.hid S0
            clear e0
            obtain ⟨⟨x0, x1, x2, x3, x4⟩, _⟩ := fu_cells hX.out
            go_wp2_with fail
            with_reducible refine (I0.out _).mono ?_
            rintro e w19 ⟨rfl, hb'⟩
            replace hb := Lib.hid (grow_trans hb.out hb')
            replace hX := Lib.hid (hX.out.below hb')
            clear hb' x0 x1 x2 x3 x4
            obtain ⟨⟨x0, x1, x2, x3, x4⟩, _⟩ := fu_cells hX.out
            go_wp2_with fail
            with_reducible refine (S0.out _).mono ?_
            rintro e w20 ⟨rfl, hb'⟩
            replace hb := Lib.hid (grow_trans hb.out hb')
            replace hX := Lib.hid (hX.out.below hb')
            clear hb' x0 x1 x2 x3 x4
            clear hX
            go_wp2
            all_goals go_ret
            all_goals exact ⟨by simp, hb.out⟩
    | true =>
      have q3 := q1.out (by trivial) (by trivial)
      go_wp2_with fail
      with_reducible refine (I2.out _).mono ?_
      rintro e w6 ⟨rfl, hb'⟩
      replace hb := Lib.hid (grow_trans hb.out hb')
      replace hX := Lib.hid (hX.out.below hb')
      clear hb' x0 x1 x2 x3 x4
      obtain ⟨⟨x0, x1, x2, x3, x4⟩, _⟩ := fu_cells hX.out
      clear x0 x1 x2 x3 x4
      clear q3
      cases c2 with
      | false =>
        clear hX q1 q2 I0 S0 I1 I2
        clear m0 m1 s0 s1 hn
        go_wp2_with fail
        refine (D2.out _ hb.out).mono ?_
        rintro e w7 ⟨i, n, r, l, o, s, v, rfl, hFS, ⟨s0, s1⟩, ⟨u0, u1⟩, hb'⟩
        have hn : n.size ≤ maxLen := by have := hFS.2.1; unfold maxLen; omega
        replace hb := Lib.hid (grow_trans hb.out (grow_trans hb' (grow_alloc w7 (.cells #[.int .i64 i, .string n, .int .i64 r, .int .i64 l, .int .i64 o] 39))))
        have hX : Hid (Bx (w7.alloc (.cells #[.int .i64 i, .string n, .int .i64 r, .int .i64 l, .int .i64 o] 39)) 39 w7.heap.size (fuC i n r l o)) := Bx.new w7 (fuC i n r l o) _
        have hsz' := hFS
        clear hb' hFS hsz'
        obtain ⟨kk, c, e0, q⟩ := dp_laws i n.data.toList r l o s v
        have I0 := fun W => DampestFor_any i n r l o s v W hn
        have S0 := fun W => sDampestFor_any i n r l o s v W hn
        rw [e0] at I0 S0
        replace I0 := Lib.hid I0
        replace S0 := Lib.hid S0
        replace q := Lib.hid q
        clear e0
        obtain ⟨⟨x0, x1, x2, x3, x4⟩, _⟩ := fu_cells hX.out
        go_wp2_with fail
        with_reducible refine (I0.out _).mono ?_
        rintro e w8 ⟨rfl, hb'⟩
        replace hb := Lib.hid (grow_trans hb.out hb')
        replace hX := Lib.hid (hX.out.below hb')
        clear hb' x0 x1 x2 x3 x4
        obtain ⟨⟨x0, x1, x2, x3, x4⟩, _⟩ := fu_cells hX.out
        go_wp2_with fail
        with_reducible refine (S0.out _).mono ?_
        rintro e w9 ⟨rfl, hb'⟩
        replace hb := Lib.hid (grow_trans hb.out hb')
        replace hX := Lib.hid (hX.out.below hb')
        clear hb' x0 x1 x2 x3 x4
        obtain ⟨⟨x0, x1, x2, x3, x4⟩, _⟩ := fu_cells hX.out
        cases c with
        | false =>
          clear hX q I0 S0 x0 x1 x2 x3 x4 hn s0 s1 u0 u1
          go_wp2_with fail
          refine (D3.out _ hb.out).mono ?_
          rintro e w10 ⟨i, n, r, l, o, m, rfl, hFS, ⟨m0, m1⟩, hb'⟩
          have hn : n.size ≤ maxLen := by have := hFS.2.1; unfold maxLen; omega
          replace hb := Lib.hid (grow_trans hb.out (grow_trans hb' (grow_alloc w10 (.cells #[.int .i64 i, .string n, .int .i64 r, .int .i64 l, .int .i64 o] 39))))
          have hX : Hid (Bx (w10.alloc (.cells #[.int .i64 i, .string n, .int .i64 r, .int .i64 l, .int .i64 o] 39)) 39 w10.heap.size (fuC i n r l o)) := Bx.new w10 (fuC i n r l o) _
          have hsz' := hFS
          clear hb' hFS hsz'
          have I0 := fun W => HeatOf_any i n r l o m W hn
          have S0 := fun W => sHeatOf_any i n r l o m W hn
          obtain ⟨a, c, e0⟩ := okR_shape (fuelB i n.data.toList r l o && inB m 0 10000) (o * m / 20)
          rw [e0] at I0 S0
          replace I0 := Lib.hid I0
          replace S0 := Lib.hid S0
          clear e0
          obtain ⟨⟨x0, x1, x2, x3, x4⟩, _⟩ := fu_cells hX.out
          go_wp2_with fail
          with_reducible refine (I0.out _).mono ?_
          rintro e w11 ⟨rfl, hb'⟩
          replace hb := Lib.hid (grow_trans hb.out hb')
          replace hX := Lib.hid (hX.out.below hb')
          clear hb' x0 x1 x2 x3 x4
          obtain ⟨⟨x0, x1, x2, x3, x4⟩, _⟩ := fu_cells hX.out
          go_wp2_with fail
          with_reducible refine (S0.out _).mono ?_
          rintro e w12 ⟨rfl, hb'⟩
          replace hb := Lib.hid (grow_trans hb.out hb')
          replace hX := Lib.hid (hX.out.below hb')
          clear hb' x0 x1 x2 x3 x4
          clear hX
          go_wp2
          all_goals go_ret
          all_goals exact ⟨by simp, hb.out⟩
        | true =>
          obtain ⟨⟨g0, g1⟩, ⟨b0, e1, g2⟩, b1, d, e2, g3⟩ := q.out (by trivial)
          have J0 := fun W => SpeedIn_any i n r l o kk s W hn
          have J1 := fun W => SpeedIn_any i n r l o (kk + 1) s W hn
          rw [e1] at J0
          rw [e2] at J1
          replace J0 := Lib.hid J0
          replace J1 := Lib.hid J1
          clear e1 e2 q I0 S0
          go_wp2_with fail
          with_reducible refine (J0.out _).mono ?_
          rintro e w13 ⟨rfl, hb'⟩
          replace hb := Lib.hid (grow_trans hb.out hb')
          replace hX := Lib.hid (hX.out.below hb')
          clear hb' x0 x1 x2 x3 x4
          obtain ⟨⟨x0, x1, x2, x3, x4⟩, _⟩ := fu_cells hX.out
          go_wp2_with fail
          with_reducible refine (J1.out _).mono ?_
          rintro e w14 ⟨rfl, hb'⟩
          replace hb := Lib.hid (grow_trans hb.out hb')
          replace hX := Lib.hid (hX.out.below hb')
          clear hb' x0 x1 x2 x3 x4
          clear hX
          cases d with
          | false =>
            clear g3 g2 J0 J1 hn s0 s1
            go_wp2_with fail
            refine (D3.out _ hb.out).mono ?_
            rintro e w15 ⟨i, n, r, l, o, m, rfl, hFS, ⟨m0, m1⟩, hb'⟩
            have hn : n.size ≤ maxLen := by have := hFS.2.1; unfold maxLen; omega
            replace hb := Lib.hid (grow_trans hb.out (grow_trans hb' (grow_alloc w15 (.cells #[.int .i64 i, .string n, .int .i64 r, .int .i64 l, .int .i64 o] 39))))
            have hX : Hid (Bx (w15.alloc (.cells #[.int .i64 i, .string n, .int .i64 r, .int .i64 l, .int .i64 o] 39)) 39 w15.heap.size (fuC i n r l o)) := Bx.new w15 (fuC i n r l o) _
            have hsz' := hFS
            clear hb' hFS hsz'
            have I0 := fun W => HeatOf_any i n r l o m W hn
            have S0 := fun W => sHeatOf_any i n r l o m W hn
            obtain ⟨a, c, e0⟩ := okR_shape (fuelB i n.data.toList r l o && inB m 0 10000) (o * m / 20)
            rw [e0] at I0 S0
            replace I0 := Lib.hid I0
            replace S0 := Lib.hid S0
            clear e0
            obtain ⟨⟨x0, x1, x2, x3, x4⟩, _⟩ := fu_cells hX.out
            go_wp2_with fail
            with_reducible refine (I0.out _).mono ?_
            rintro e w16 ⟨rfl, hb'⟩
            replace hb := Lib.hid (grow_trans hb.out hb')
            replace hX := Lib.hid (hX.out.below hb')
            clear hb' x0 x1 x2 x3 x4
            obtain ⟨⟨x0, x1, x2, x3, x4⟩, _⟩ := fu_cells hX.out
            go_wp2_with fail
            with_reducible refine (S0.out _).mono ?_
            rintro e w17 ⟨rfl, hb'⟩
            replace hb := Lib.hid (grow_trans hb.out hb')
            replace hX := Lib.hid (hX.out.below hb')
            clear hb' x0 x1 x2 x3 x4
            clear hX
            go_wp2
            all_goals go_ret
            all_goals exact ⟨by simp, hb.out⟩
          | true =>
            replace g3 := g3 (by trivial)
            clear J0 J1 hn s0 s1
            go_wp2_with fail
            refine (D3.out _ hb.out).mono ?_
            rintro e w18 ⟨i, n, r, l, o, m, rfl, hFS, ⟨m0, m1⟩, hb'⟩
            have hn : n.size ≤ maxLen := by have := hFS.2.1; unfold maxLen; omega
            replace hb := Lib.hid (grow_trans hb.out (grow_trans hb' (grow_alloc w18 (.cells #[.int .i64 i, .string n, .int .i64 r, .int .i64 l, .int .i64 o] 39))))
            have hX : Hid (Bx (w18.alloc (.cells #[.int .i64 i, .string n, .int .i64 r, .int .i64 l, .int .i64 o] 39)) 39 w18.heap.size (fuC i n r l o)) := Bx.new w18 (fuC i n r l o) _
            have hsz' := hFS
            clear hb' hFS hsz'
            have I0 := fun W => HeatOf_any i n r l o m W hn
            have S0 := fun W => sHeatOf_any i n r l o m W hn
            obtain ⟨a, c, e0⟩ := okR_shape (fuelB i n.data.toList r l o && inB m 0 10000) (o * m / 20)
            rw [e0] at I0 S0
            replace I0 := Lib.hid I0
            replace S0 := Lib.hid S0
            clear e0
            obtain ⟨⟨x0, x1, x2, x3, x4⟩, _⟩ := fu_cells hX.out
            go_wp2_with fail
            with_reducible refine (I0.out _).mono ?_
            rintro e w19 ⟨rfl, hb'⟩
            replace hb := Lib.hid (grow_trans hb.out hb')
            replace hX := Lib.hid (hX.out.below hb')
            clear hb' x0 x1 x2 x3 x4
            obtain ⟨⟨x0, x1, x2, x3, x4⟩, _⟩ := fu_cells hX.out
            go_wp2_with fail
            with_reducible refine (S0.out _).mono ?_
            rintro e w20 ⟨rfl, hb'⟩
            replace hb := Lib.hid (grow_trans hb.out hb')
            replace hX := Lib.hid (hX.out.below hb')
            clear hb' x0 x1 x2 x3 x4
            clear hX
            go_wp2
            all_goals go_ret
            all_goals exact ⟨by simp, hb.out⟩
      | true =>
        have q4 := q2.out (by trivial) (by trivial)
        clear hX q1 q2 I0 S0 I1 I2
        clear m0 m1 s0 s1 hn
        go_wp2_with fail
        refine (D2.out _ hb.out).mono ?_
        rintro e w7 ⟨i, n, r, l, o, s, v, rfl, hFS, ⟨s0, s1⟩, ⟨u0, u1⟩, hb'⟩
        have hn : n.size ≤ maxLen := by have := hFS.2.1; unfold maxLen; omega
        replace hb := Lib.hid (grow_trans hb.out (grow_trans hb' (grow_alloc w7 (.cells #[.int .i64 i, .string n, .int .i64 r, .int .i64 l, .int .i64 o] 39))))
        have hX : Hid (Bx (w7.alloc (.cells #[.int .i64 i, .string n, .int .i64 r, .int .i64 l, .int .i64 o] 39)) 39 w7.heap.size (fuC i n r l o)) := Bx.new w7 (fuC i n r l o) _
        have hsz' := hFS
        clear hb' hFS hsz'
        obtain ⟨kk, c, e0, q⟩ := dp_laws i n.data.toList r l o s v
        have I0 := fun W => DampestFor_any i n r l o s v W hn
        have S0 := fun W => sDampestFor_any i n r l o s v W hn
        rw [e0] at I0 S0
        replace I0 := Lib.hid I0
        replace S0 := Lib.hid S0
        replace q := Lib.hid q
        clear e0
        obtain ⟨⟨x0, x1, x2, x3, x4⟩, _⟩ := fu_cells hX.out
        go_wp2_with fail
        with_reducible refine (I0.out _).mono ?_
        rintro e w8 ⟨rfl, hb'⟩
        replace hb := Lib.hid (grow_trans hb.out hb')
        replace hX := Lib.hid (hX.out.below hb')
        clear hb' x0 x1 x2 x3 x4
        obtain ⟨⟨x0, x1, x2, x3, x4⟩, _⟩ := fu_cells hX.out
        go_wp2_with fail
        with_reducible refine (S0.out _).mono ?_
        rintro e w9 ⟨rfl, hb'⟩
        replace hb := Lib.hid (grow_trans hb.out hb')
        replace hX := Lib.hid (hX.out.below hb')
        clear hb' x0 x1 x2 x3 x4
        obtain ⟨⟨x0, x1, x2, x3, x4⟩, _⟩ := fu_cells hX.out
        cases c with
        | false =>
          clear hX q I0 S0 x0 x1 x2 x3 x4 hn s0 s1 u0 u1
          go_wp2_with fail
          refine (D3.out _ hb.out).mono ?_
          rintro e w10 ⟨i, n, r, l, o, m, rfl, hFS, ⟨m0, m1⟩, hb'⟩
          have hn : n.size ≤ maxLen := by have := hFS.2.1; unfold maxLen; omega
          replace hb := Lib.hid (grow_trans hb.out (grow_trans hb' (grow_alloc w10 (.cells #[.int .i64 i, .string n, .int .i64 r, .int .i64 l, .int .i64 o] 39))))
          have hX : Hid (Bx (w10.alloc (.cells #[.int .i64 i, .string n, .int .i64 r, .int .i64 l, .int .i64 o] 39)) 39 w10.heap.size (fuC i n r l o)) := Bx.new w10 (fuC i n r l o) _
          have hsz' := hFS
          clear hb' hFS hsz'
          have I0 := fun W => HeatOf_any i n r l o m W hn
          have S0 := fun W => sHeatOf_any i n r l o m W hn
          obtain ⟨a, c, e0⟩ := okR_shape (fuelB i n.data.toList r l o && inB m 0 10000) (o * m / 20)
          rw [e0] at I0 S0
          replace I0 := Lib.hid I0
          replace S0 := Lib.hid S0
          clear e0
          obtain ⟨⟨x0, x1, x2, x3, x4⟩, _⟩ := fu_cells hX.out
          go_wp2_with fail
          with_reducible refine (I0.out _).mono ?_
          rintro e w11 ⟨rfl, hb'⟩
          replace hb := Lib.hid (grow_trans hb.out hb')
          replace hX := Lib.hid (hX.out.below hb')
          clear hb' x0 x1 x2 x3 x4
          obtain ⟨⟨x0, x1, x2, x3, x4⟩, _⟩ := fu_cells hX.out
          go_wp2_with fail
          with_reducible refine (S0.out _).mono ?_
          rintro e w12 ⟨rfl, hb'⟩
          replace hb := Lib.hid (grow_trans hb.out hb')
          replace hX := Lib.hid (hX.out.below hb')
          clear hb' x0 x1 x2 x3 x4
          clear hX
          go_wp2
          all_goals go_ret
          all_goals exact ⟨by simp, hb.out⟩
        | true =>
          obtain ⟨⟨g0, g1⟩, ⟨b0, e1, g2⟩, b1, d, e2, g3⟩ := q.out (by trivial)
          have J0 := fun W => SpeedIn_any i n r l o kk s W hn
          have J1 := fun W => SpeedIn_any i n r l o (kk + 1) s W hn
          rw [e1] at J0
          rw [e2] at J1
          replace J0 := Lib.hid J0
          replace J1 := Lib.hid J1
          clear e1 e2 q I0 S0
          go_wp2_with fail
          with_reducible refine (J0.out _).mono ?_
          rintro e w13 ⟨rfl, hb'⟩
          replace hb := Lib.hid (grow_trans hb.out hb')
          replace hX := Lib.hid (hX.out.below hb')
          clear hb' x0 x1 x2 x3 x4
          obtain ⟨⟨x0, x1, x2, x3, x4⟩, _⟩ := fu_cells hX.out
          go_wp2_with fail
          with_reducible refine (J1.out _).mono ?_
          rintro e w14 ⟨rfl, hb'⟩
          replace hb := Lib.hid (grow_trans hb.out hb')
          replace hX := Lib.hid (hX.out.below hb')
          clear hb' x0 x1 x2 x3 x4
          clear hX
          cases d with
          | false =>
            clear g3 g2 J0 J1 hn s0 s1
            go_wp2_with fail
            refine (D3.out _ hb.out).mono ?_
            rintro e w15 ⟨i, n, r, l, o, m, rfl, hFS, ⟨m0, m1⟩, hb'⟩
            have hn : n.size ≤ maxLen := by have := hFS.2.1; unfold maxLen; omega
            replace hb := Lib.hid (grow_trans hb.out (grow_trans hb' (grow_alloc w15 (.cells #[.int .i64 i, .string n, .int .i64 r, .int .i64 l, .int .i64 o] 39))))
            have hX : Hid (Bx (w15.alloc (.cells #[.int .i64 i, .string n, .int .i64 r, .int .i64 l, .int .i64 o] 39)) 39 w15.heap.size (fuC i n r l o)) := Bx.new w15 (fuC i n r l o) _
            have hsz' := hFS
            clear hb' hFS hsz'
            have I0 := fun W => HeatOf_any i n r l o m W hn
            have S0 := fun W => sHeatOf_any i n r l o m W hn
            obtain ⟨a, c, e0⟩ := okR_shape (fuelB i n.data.toList r l o && inB m 0 10000) (o * m / 20)
            rw [e0] at I0 S0
            replace I0 := Lib.hid I0
            replace S0 := Lib.hid S0
            clear e0
            obtain ⟨⟨x0, x1, x2, x3, x4⟩, _⟩ := fu_cells hX.out
            go_wp2_with fail
            with_reducible refine (I0.out _).mono ?_
            rintro e w16 ⟨rfl, hb'⟩
            replace hb := Lib.hid (grow_trans hb.out hb')
            replace hX := Lib.hid (hX.out.below hb')
            clear hb' x0 x1 x2 x3 x4
            obtain ⟨⟨x0, x1, x2, x3, x4⟩, _⟩ := fu_cells hX.out
            go_wp2_with fail
            with_reducible refine (S0.out _).mono ?_
            rintro e w17 ⟨rfl, hb'⟩
            replace hb := Lib.hid (grow_trans hb.out hb')
            replace hX := Lib.hid (hX.out.below hb')
            clear hb' x0 x1 x2 x3 x4
            clear hX
            go_wp2
            all_goals go_ret
            all_goals exact ⟨by simp, hb.out⟩
          | true =>
            replace g3 := g3 (by trivial)
            clear J0 J1 hn s0 s1
            go_wp2_with fail
            refine (D3.out _ hb.out).mono ?_
            rintro e w18 ⟨i, n, r, l, o, m, rfl, hFS, ⟨m0, m1⟩, hb'⟩
            have hn : n.size ≤ maxLen := by have := hFS.2.1; unfold maxLen; omega
            replace hb := Lib.hid (grow_trans hb.out (grow_trans hb' (grow_alloc w18 (.cells #[.int .i64 i, .string n, .int .i64 r, .int .i64 l, .int .i64 o] 39))))
            have hX : Hid (Bx (w18.alloc (.cells #[.int .i64 i, .string n, .int .i64 r, .int .i64 l, .int .i64 o] 39)) 39 w18.heap.size (fuC i n r l o)) := Bx.new w18 (fuC i n r l o) _
            have hsz' := hFS
            clear hb' hFS hsz'
            have I0 := fun W => HeatOf_any i n r l o m W hn
            have S0 := fun W => sHeatOf_any i n r l o m W hn
            obtain ⟨a, c, e0⟩ := okR_shape (fuelB i n.data.toList r l o && inB m 0 10000) (o * m / 20)
            rw [e0] at I0 S0
            replace I0 := Lib.hid I0
            replace S0 := Lib.hid S0
            clear e0
            obtain ⟨⟨x0, x1, x2, x3, x4⟩, _⟩ := fu_cells hX.out
            go_wp2_with fail
            with_reducible refine (I0.out _).mono ?_
            rintro e w19 ⟨rfl, hb'⟩
            replace hb := Lib.hid (grow_trans hb.out hb')
            replace hX := Lib.hid (hX.out.below hb')
            clear hb' x0 x1 x2 x3 x4
            obtain ⟨⟨x0, x1, x2, x3, x4⟩, _⟩ := fu_cells hX.out
            go_wp2_with fail
            with_reducible refine (S0.out _).mono ?_
            rintro e w20 ⟨rfl, hb'⟩
            replace hb := Lib.hid (grow_trans hb.out hb')
            replace hX := Lib.hid (hX.out.below hb')
            clear hb' x0 x1 x2 x3 x4
            clear hX
            go_wp2
            all_goals go_ret
            all_goals exact ⟨by simp, hb.out⟩
/-! the frame: the arguments opened, the row closed -/
set_option maxRecDepth 100000 in
theorem lifted (os : Os) (started : os.Started) (H : Type) (enc : TypeId × Value → H) :
    ReturnsInHanded {} Try.checked os 5 .any (Rows.fnSpeedsSpec.pre6 enc Try.prog Try.f5 Rows.fnSpeedsRow.domain false) (Rows.fnSpeedsSpec.post enc Try.prog Try.f5 false true false false) := by
  refine law_lifted (C := Try.checked) own started (by kernel_rfl) Try.func5
    (ChangeSpec.witness6 (enc := enc) (C := Try.checked) false ⟨#[], #[.slice none 0 0], []⟩ 8 (by kernel_rfl) (by kernel_rfl) (by kernel_rfl) (by kernel_rfl))
    laidOut (of_decide_eq_true (by kernel_rfl)) rfl Try.underlying4 rfl ?_
  intro W base args ds p hval hA
  rw [Try.params5] at hA hval
  obtain ⟨v0, vs0, d0, ds0, p0, q0, hargs, rfl, rfl, h0, r0⟩ := trodAll_cons hA
  obtain ⟨rfl, rfl, rfl⟩ := trodAll_nil r0
  obtain rfl : args = #[v0] := by cases args; simp_all
  obtain ⟨z0, b0⟩ := open_bs (hval 0 42 v0 rfl rfl) h0
  exact ⟨rfl, walk W v0 z0 b0⟩

theorem over : Rows.fnSpeedsRow.holds Try.pinned (OpenSpec.ofChange Rows.fnSpeedsSpec) :=
  OpenClaim.holds_of_wide 5 Try.f5 rfl rfl rfl rfl rfl rfl rfl ⟨rfl, rfl, rfl, rfl, rfl⟩ rfl rfl rfl rfl rfl (by kernel_rfl) Try.func5 (by kernel_rfl)
    (of_decide_eq_true (by kernel_rfl)) (by unfold Func.isWrapper; first | (rw [if_pos (by decide +kernel)]; kernel_rfl) | (rw [if_neg (by decide +kernel)]; exact ⟨rfl, rfl⟩))
    (fun os started H enc _ => lifted os started H enc)

theorem proved : Rows.FnSpeedsSaid := over
#print axioms proved
end Go.Proofs.Ytnacofmjipilhaa.lFnSpeeds
