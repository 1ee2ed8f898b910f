/- Ranges of a block change places. Conditions: as each states. -/
import Derived.Test.YtnadeddkogapoaaGreatDoorSo
import Derived.Deep.RegionHeldLaw
namespace Go.Proofs.YtnadeddkogapoaaGreatDoor
open Go.ChangeShapes Go.WideShapes Go.ChangeAt Go.RowKit Go.Deep
set_option linter.unusedVariables false
set_option linter.unusedSimpArgs false
set_option maxRecDepth 100000

set_option maxHeartbeats 8000000 in
theorem swapRange_any (B : Nat) (w : World) (g c n Bf : Nat) (fv cv : Value) (l : List Fu) (a b k : Nat) (h : So B w w g c n Bf fv l) (ha : a + k ≤ n) (hb : b + k ≤ n) (hn : n ≤ 2000000) :
    Calls Tryz.prog 139 #[.slice (some ⟨g, 0, none⟩) n c, .int .i64 a, .int .i64 b, .int .i64 k, cv] w (RetSo B w g c n Bf fv) := by
  have H := Lib.hid h
  clear h
  go_enter Tryz.func139, Tryz.ntmps139
  go_wp2
  go_loopw [10] (fun iv wr => ∃ i : Nat, ∃ l : List Fu, i ≤ k ∧ iv = .int .i64 i ∧ Hid (So B w wr g c n Bf fv l)) (fun iv _ => k - (intOf iv).toNat)
  case atStart => exact ⟨0, l, Nat.zero_le _, rfl, H.out⟩
  case round =>
    clear H l
    obtain ⟨i, l, hi, rfl, hS⟩ := hrel
    by_cases hlt : i < k
    case pos =>
      have d0 : decide (i < k) = true := decide_eq_true hlt
      have d0' : decide ((i : Int) < (k : Int)) = true := decide_eq_true (by omega)
      obtain ⟨P, hP⟩ : ∃ P : Nat, P = a + i := ⟨_, rfl⟩
      obtain ⟨Q, hQ⟩ : ∃ Q : Nat, Q = b + i := ⟨_, rfl⟩
      have hp : P < n := by omega
      have hq : Q < n := by omega
      have m1 : (a : Int) + (i : Int) = (P : Int) := by omega
      have m2 : (b : Int) + (i : Int) = (Q : Int) := by omega
      have m3 : IntKind.i64.wrap (P : Int) = (P : Int) := IntWalk.i64_in _ (by omega)
      have m4 : IntKind.i64.wrap (Q : Int) = (Q : Int) := IntWalk.i64_in _ (by omega)
      have m5 : (P : Int) < (n : Int) := by omega
      have m6 : (Q : Int) < (n : Int) := by omega
      clear hP hQ
      go_wp2_with fail
      have hSd := hS.out.below (grow_drew wr)
      refine wp_region_held_drew (S := fun W => True) (by kernel_rfl) trivial (fun hHeld => ?_)
      generalize wr.drew = Wd at *
      obtain ⟨i1, n1, r1, k1, o1, hx, a0, a1, a2, a3, a4⟩ := hSd.fu (p := P) hp
      obtain ⟨i2, n2, r2, k2, o2, hy, b0, b1, b2, b3, b4⟩ := hSd.fu (p := Q) hq
      have hz1 := hSd.hm _ (List.mem_of_getElem? hx)
      have hz2 := hSd.hm _ (List.mem_of_getElem? hy)
      have hsw := Lib.hid (swp_at hx hy)
      simp only at hz1 hz2
      clear hx hy
      refine wpAnyH_take (i := 0) (v := ?_) rfl (by kernel_rfl) (by kernel_rfl) (by kernel_rfl) (fun _ _ _ h => h) (Or.inl ⟨by rfl, ?_⟩) (by assumption) ?_
      rotate_left
      · intro w hSw
        try dsimp only at hSw
        go_simp
        try (with_reducible rfl)
      try simp only [Act.put, List.setIfInBounds_toArray, List.set_cons_zero, List.set_cons_succ]
      refine wpAnyH_take (i := 1) (v := ?_) rfl (by kernel_rfl) (by kernel_rfl) (by kernel_rfl) (fun _ _ _ h => h) (Or.inl ⟨by rfl, ?_⟩) (by assumption) ?_
      rotate_left
      · intro w hSw
        try dsimp only at hSw
        go_simp
        try (with_reducible rfl)
      try simp only [Act.put, List.setIfInBounds_toArray, List.set_cons_zero, List.set_cons_succ]
      refine wpAnyH_take (i := 2) (v := ?_) rfl (by kernel_rfl) (by kernel_rfl) (by kernel_rfl) (fun _ _ _ h => h) (Or.inl ⟨by rfl, ?_⟩) (by assumption) ?_
      rotate_left
      · intro w hSw
        try dsimp only at hSw
        go_simp
        try (with_reducible rfl)
      try simp only [Act.put, List.setIfInBounds_toArray, List.set_cons_zero, List.set_cons_succ]
      refine wpAnyH_take (i := 3) (v := ?_) rfl (by kernel_rfl) (by kernel_rfl) (by kernel_rfl) (fun _ _ _ h => h) (Or.inl ⟨by rfl, ?_⟩) (by assumption) ?_
      rotate_left
      · intro w hSw
        try dsimp only at hSw
        go_simp
        try (with_reducible rfl)
      try simp only [Act.put, List.setIfInBounds_toArray, List.set_cons_zero, List.set_cons_succ]
      refine wpAnyH_take (i := 4) (v := ?_) rfl (by kernel_rfl) (by kernel_rfl) (by kernel_rfl) (fun _ _ _ h => h) (Or.inl ⟨by rfl, ?_⟩) (by assumption) ?_
      rotate_left
      · intro w hSw
        try dsimp only at hSw
        go_simp
        try (with_reducible rfl)
      try simp only [Act.put, List.setIfInBounds_toArray, List.set_cons_zero, List.set_cons_succ]
      refine wpAnyH_take (i := 5) (v := ?_) rfl (by kernel_rfl) (by kernel_rfl) (by kernel_rfl) (fun _ _ _ h => h) (Or.inl ⟨by rfl, ?_⟩) (by assumption) ?_
      rotate_left
      · intro w hSw
        try dsimp only at hSw
        go_simp
        try (with_reducible rfl)
      try simp only [Act.put, List.setIfInBounds_toArray, List.set_cons_zero, List.set_cons_succ]
      refine wpAnyH_take (i := 6) (v := ?_) rfl (by kernel_rfl) (by kernel_rfl) (by kernel_rfl) (fun _ _ _ h => h) (Or.inl ⟨by rfl, ?_⟩) (by assumption) ?_
      rotate_left
      · intro w hSw
        try dsimp only at hSw
        go_simp
        try (with_reducible rfl)
      try simp only [Act.put, List.setIfInBounds_toArray, List.set_cons_zero, List.set_cons_succ]
      refine wpAnyH_take (i := 7) (v := ?_) rfl (by kernel_rfl) (by kernel_rfl) (by kernel_rfl) (fun _ _ _ h => h) (Or.inl ⟨by rfl, ?_⟩) (by assumption) ?_
      rotate_left
      · intro w hSw
        try dsimp only at hSw
        go_simp
        try (with_reducible rfl)
      try simp only [Act.put, List.setIfInBounds_toArray, List.set_cons_zero, List.set_cons_succ]
      refine wpAnyH_take (i := 8) (v := ?_) rfl (by kernel_rfl) (by kernel_rfl) (by kernel_rfl) (fun _ _ _ h => h) (Or.inl ⟨by rfl, ?_⟩) (by assumption) ?_
      rotate_left
      · intro w hSw
        try dsimp only at hSw
        go_simp
        try (with_reducible rfl)
      try simp only [Act.put, List.setIfInBounds_toArray, List.set_cons_zero, List.set_cons_succ]
      refine wpAnyH_take (i := 9) (v := ?_) rfl (by kernel_rfl) (by kernel_rfl) (by kernel_rfl) (fun _ _ _ h => h) (Or.inl ⟨by rfl, ?_⟩) (by assumption) ?_
      rotate_left
      · intro w hSw
        try dsimp only at hSw
        go_simp
        try (with_reducible rfl)
      try simp only [Act.put, List.setIfInBounds_toArray, List.set_cons_zero, List.set_cons_succ]
      refine wpAnyH_take (i := 10) (v := ?_) rfl (by kernel_rfl) (by kernel_rfl) (by kernel_rfl) (fun _ _ _ h => h) (Or.inl ⟨by rfl, ?_⟩) (by assumption) ?_
      rotate_left
      · intro w hSw
        try dsimp only at hSw
        go_simp
        try (with_reducible rfl)
      try simp only [Act.put, List.setIfInBounds_toArray, List.set_cons_zero, List.set_cons_succ]
      refine wpAnyH_take (i := 11) (v := ?_) rfl (by kernel_rfl) (by kernel_rfl) (by kernel_rfl) (fun _ _ _ h => h) (Or.inl ⟨by rfl, ?_⟩) (by assumption) ?_
      rotate_left
      · intro w hSw
        try dsimp only at hSw
        go_simp
        try (with_reducible rfl)
      try simp only [Act.put, List.setIfInBounds_toArray, List.set_cons_zero, List.set_cons_succ]
      refine wpAnyH_take (i := 12) (v := ?_) rfl (by kernel_rfl) (by kernel_rfl) (by kernel_rfl) (fun _ _ _ h => h) (Or.inl ⟨by rfl, ?_⟩) (by assumption) ?_
      rotate_left
      · intro w hSw
        try dsimp only at hSw
        go_simp
        try (with_reducible rfl)
      try simp only [Act.put, List.setIfInBounds_toArray, List.set_cons_zero, List.set_cons_succ]
      refine wpAnyH_take (i := 14) (v := ?_) rfl (by kernel_rfl) (by kernel_rfl) (by kernel_rfl) (fun _ _ _ h => h) (Or.inl ⟨by rfl, ?_⟩) (by assumption) ?_
      rotate_left
      · intro w hSw
        try dsimp only at hSw
        go_simp
        try (with_reducible rfl)
      try simp only [Act.put, List.setIfInBounds_toArray, List.set_cons_zero, List.set_cons_succ]
      refine wpAnyH_take (i := 15) (v := ?_) rfl (by kernel_rfl) (by kernel_rfl) (by kernel_rfl) (fun _ _ _ h => h) (Or.inl ⟨by rfl, ?_⟩) (by assumption) ?_
      rotate_left
      · intro w hSw
        try dsimp only at hSw
        go_simp
        try (with_reducible rfl)
      try simp only [Act.put, List.setIfInBounds_toArray, List.set_cons_zero, List.set_cons_succ]
      refine wpAnyH_take (i := 16) (v := ?_) rfl (by kernel_rfl) (by kernel_rfl) (by kernel_rfl) (fun _ _ _ h => h) (Or.inl ⟨by rfl, ?_⟩) (by assumption) ?_
      rotate_left
      · intro w hSw
        try dsimp only at hSw
        go_simp
        try (with_reducible rfl)
      try simp only [Act.put, List.setIfInBounds_toArray, List.set_cons_zero, List.set_cons_succ]
      refine wpAnyH_take (i := 17) (v := ?_) rfl (by kernel_rfl) (by kernel_rfl) (by kernel_rfl) (fun _ _ _ h => h) (Or.inl ⟨by rfl, ?_⟩) (by assumption) ?_
      rotate_left
      · intro w hSw
        try dsimp only at hSw
        go_simp
        try (with_reducible rfl)
      try simp only [Act.put, List.setIfInBounds_toArray, List.set_cons_zero, List.set_cons_succ]
      refine wpAnyH_take (i := 18) (v := ?_) rfl (by kernel_rfl) (by kernel_rfl) (by kernel_rfl) (fun _ _ _ h => h) (Or.inl ⟨by rfl, ?_⟩) (by assumption) ?_
      rotate_left
      · intro w hSw
        try dsimp only at hSw
        go_simp
        try (with_reducible rfl)
      try simp only [Act.put, List.setIfInBounds_toArray, List.set_cons_zero, List.set_cons_succ]
      refine wpAnyH_ready (rs := [13, 19]) (by kernel_rfl) (by simp) ?_
      refine AllReadyH.cons rfl (fun K hK => ?_) (AllReadyH.cons rfl (fun K hK => ?_) AllReadyH.nil)
      · skip
        go_simp
        refine hK.out _ _ trivial (fun hHeld => ?_)
        clear hK K
        refine wpAnyH_ready (rs := [19]) (by kernel_rfl) (by simp) ?_
        refine AllReadyH.cons rfl (fun K hK => ?_) AllReadyH.nil
        go_simp
        refine hK.out _ _ trivial (fun hHeld => ?_)
        clear hK K
        refine wpAnyH_take (i := 20) (v := ?_) rfl (by kernel_rfl) (by kernel_rfl) (by kernel_rfl) (fun _ _ _ h => h) (Or.inl ⟨by rfl, ?_⟩) (by assumption) ?_
        rotate_left
        · intro w hSw
          try dsimp only at hSw
          go_simp
          try (with_reducible rfl)
        try simp only [Act.put, List.setIfInBounds_toArray, List.set_cons_zero, List.set_cons_succ]
        refine wpAnyH_ready (rs := [21]) (by kernel_rfl) (by simp) ?_
        refine AllReadyH.cons rfl (fun K hK => ?_) AllReadyH.nil
        obtain ⟨⟨⟨_, e0⟩, f0⟩, ⟨⟨_, e1⟩, f1⟩, ⟨⟨_, e2⟩, f2⟩, ⟨⟨_, e3⟩, f3⟩, ⟨⟨_, e4⟩, f4⟩, hS1⟩ := hSd.put (p := P) hp i2 n2 r2 k2 o2 hz2
        clear a0 a1 a2 a3 a4 b0 b1 b2 b3 b4
        go_simp
        clear e0 e1 e2 e3 e4 f0 f1 f2 f3 f4
        generalize World.setCell _ ⟨g, P * 5 + 4, none⟩ _ = V1 at *
        refine hK.out _ _ trivial (fun hHeld => ?_)
        clear hK K
        refine wpAnyH_take (i := 22) (v := ?_) rfl (by kernel_rfl) (by kernel_rfl) (by kernel_rfl) (fun _ _ _ h => h) (Or.inl ⟨by rfl, ?_⟩) (by assumption) ?_
        rotate_left
        · intro w hSw
          try dsimp only at hSw
          go_simp
          try (with_reducible rfl)
        try simp only [Act.put, List.setIfInBounds_toArray, List.set_cons_zero, List.set_cons_succ]
        refine wpAnyH_ready (rs := [23]) (by kernel_rfl) (by simp) ?_
        refine AllReadyH.cons rfl (fun K hK => ?_) AllReadyH.nil
        obtain ⟨⟨⟨_, e0⟩, f0⟩, ⟨⟨_, e1⟩, f1⟩, ⟨⟨_, e2⟩, f2⟩, ⟨⟨_, e3⟩, f3⟩, ⟨⟨_, e4⟩, f4⟩, hS2⟩ := hS1.put (p := Q) hq i1 n1 r1 k1 o1 hz1
        go_simp
        clear e0 e1 e2 e3 e4 f0 f1 f2 f3 f4
        generalize World.setCell _ ⟨g, Q * 5 + 4, none⟩ _ = V2 at *
        refine hK.out _ _ trivial (fun hHeld => ?_)
        clear hK K
        refine wpAnyH_done (by kernel_rfl) ?_ _
        rw [← hsw.out] at hS2
        replace hS2 := Lib.hid hS2
        clear hS1 hSd hHeld hsw hS
        go_wp2
        go_roundw
        case rel => exact ⟨i + 1, _, by omega, by go_num, hS2.out⟩
        case measure => simp [intOf]; omega
      · skip
        go_simp
        refine hK.out _ _ trivial (fun hHeld => ?_)
        clear hK K
        refine wpAnyH_ready (rs := [13]) (by kernel_rfl) (by simp) ?_
        refine AllReadyH.cons rfl (fun K hK => ?_) AllReadyH.nil
        go_simp
        refine hK.out _ _ trivial (fun hHeld => ?_)
        clear hK K
        refine wpAnyH_take (i := 20) (v := ?_) rfl (by kernel_rfl) (by kernel_rfl) (by kernel_rfl) (fun _ _ _ h => h) (Or.inl ⟨by rfl, ?_⟩) (by assumption) ?_
        rotate_left
        · intro w hSw
          try dsimp only at hSw
          go_simp
          try (with_reducible rfl)
        try simp only [Act.put, List.setIfInBounds_toArray, List.set_cons_zero, List.set_cons_succ]
        refine wpAnyH_ready (rs := [21]) (by kernel_rfl) (by simp) ?_
        refine AllReadyH.cons rfl (fun K hK => ?_) AllReadyH.nil
        obtain ⟨⟨⟨_, e0⟩, f0⟩, ⟨⟨_, e1⟩, f1⟩, ⟨⟨_, e2⟩, f2⟩, ⟨⟨_, e3⟩, f3⟩, ⟨⟨_, e4⟩, f4⟩, hS1⟩ := hSd.put (p := P) hp i2 n2 r2 k2 o2 hz2
        clear a0 a1 a2 a3 a4 b0 b1 b2 b3 b4
        go_simp
        clear e0 e1 e2 e3 e4 f0 f1 f2 f3 f4
        generalize World.setCell _ ⟨g, P * 5 + 4, none⟩ _ = V1 at *
        refine hK.out _ _ trivial (fun hHeld => ?_)
        clear hK K
        refine wpAnyH_take (i := 22) (v := ?_) rfl (by kernel_rfl) (by kernel_rfl) (by kernel_rfl) (fun _ _ _ h => h) (Or.inl ⟨by rfl, ?_⟩) (by assumption) ?_
        rotate_left
        · intro w hSw
          try dsimp only at hSw
          go_simp
          try (with_reducible rfl)
        try simp only [Act.put, List.setIfInBounds_toArray, List.set_cons_zero, List.set_cons_succ]
        refine wpAnyH_ready (rs := [23]) (by kernel_rfl) (by simp) ?_
        refine AllReadyH.cons rfl (fun K hK => ?_) AllReadyH.nil
        obtain ⟨⟨⟨_, e0⟩, f0⟩, ⟨⟨_, e1⟩, f1⟩, ⟨⟨_, e2⟩, f2⟩, ⟨⟨_, e3⟩, f3⟩, ⟨⟨_, e4⟩, f4⟩, hS2⟩ := hS1.put (p := Q) hq i1 n1 r1 k1 o1 hz1
        go_simp
        clear e0 e1 e2 e3 e4 f0 f1 f2 f3 f4
        generalize World.setCell _ ⟨g, Q * 5 + 4, none⟩ _ = V2 at *
        refine hK.out _ _ trivial (fun hHeld => ?_)
        clear hK K
        refine wpAnyH_done (by kernel_rfl) ?_ _
        rw [← hsw.out] at hS2
        replace hS2 := Lib.hid hS2
        clear hS1 hSd hHeld hsw hS
        go_wp2
        go_roundw
        case rel => exact ⟨i + 1, _, by omega, by go_num, hS2.out⟩
        case measure => simp [intOf]; omega
    case neg =>
      have d0 : decide (i < k) = false := decide_eq_false hlt
      have d0' : decide ((i : Int) < (k : Int)) = false := decide_eq_false (by omega)
      go_wp2
      go_end0
      exact ⟨rfl, l, hS.out⟩
set_option maxHeartbeats 8000000 in
theorem rotate_any (B : Nat) (w : World) (g c n Bf : Nat) (fv cv : Value) (l : List Fu) (a m b : Nat) (h : So B w w g c n Bf fv l) (ha : a < m) (hm : m < b) (hb : b ≤ n) (hn : n ≤ 2000000) :
    Calls Tryz.prog 128 #[.slice (some ⟨g, 0, none⟩) n c, .int .i64 a, .int .i64 m, .int .i64 b, cv] w (RetSo B w g c n Bf fv) := by
  have H := Lib.hid h
  have HW := Lib.hid fun (W : World) (l : List Fu) (x y k : Nat) (hS : So B W W g c n Bf fv l) hx hy => swapRange_any B W g c n Bf fv cv l x y k hS hx hy hn
  clear h
  obtain ⟨i0, hi0⟩ : ∃ i0 : Nat, i0 = m - a := ⟨_, rfl⟩
  obtain ⟨j0, hj0⟩ : ∃ j0 : Nat, j0 = b - m := ⟨_, rfl⟩
  have z1 : (m : Int) - (a : Int) = (i0 : Int) := by omega
  have z2 : (b : Int) - (m : Int) = (j0 : Int) := by omega
  have q1 : 1 ≤ i0 := by omega
  have q2 : 1 ≤ j0 := by omega
  have q3 : i0 ≤ m := by omega
  have q4 : m + j0 ≤ n := by omega
  clear hi0 hj0
  go_enter Tryz.func128, Tryz.ntmps128
  go_wp2
  go_loopw [10, 11] (fun iv jv wr => ∃ i j : Nat, ∃ l : List Fu, iv = .int .i64 i ∧ jv = .int .i64 j ∧ Hid (1 ≤ i ∧ 1 ≤ j ∧ i ≤ m ∧ m + j ≤ n) ∧ Hid (So B w wr g c n Bf fv l)) (fun iv jv _ => (intOf iv).toNat + (intOf jv).toNat)
  case atStart => exact ⟨i0, j0, l, rfl, rfl, ⟨q1, q2, q3, q4⟩, H.out⟩
  case round =>
    clear H l z1 z2 q1 q2 q3 q4
    obtain ⟨i, j, l, rfl, rfl, hij, hS⟩ := hrel
    obtain ⟨q1, q2, q3, q4⟩ := hij.out
    obtain ⟨x, hx⟩ : ∃ x : Nat, x = m - i := ⟨_, rfl⟩
    have z1 : (m : Int) - (i : Int) = (x : Int) := by omega
    have z3 : IntKind.i64.wrap (x : Int) = (x : Int) := IntWalk.i64_in _ (by omega)
    have hxi : x + i = m := by omega
    clear hx
    by_cases he : i = j
    case pos =>
      subst he
      have HC := Lib.hid (HW.out wr l x m i hS.out.start (by omega) (by omega))
      clear hxi
      go_wp2_with fail
      refine HC.out.mono ?_
      rintro e w2 ⟨rfl, l2, hS2⟩
      replace hS2 := Lib.hid (hS.out.trans hS2)
      clear hS HC
      go_wp2
      go_end0
      exact ⟨rfl, l2, hS2.out⟩
    case neg =>
      have d0 : (i == j) = false := by simpa using he
      have d0' : ((i : Int) == (j : Int)) = false := by simpa using (show (i : Int) ≠ (j : Int) by omega)
      by_cases hgt : j < i
      case pos =>
        have d1 : decide (j < i) = true := decide_eq_true hgt
        obtain ⟨y, hy⟩ : ∃ y : Nat, y = i - j := ⟨_, rfl⟩
        have z4 : (i : Int) - (j : Int) = (y : Int) := by omega
        have hy2 : y + j = i := by omega
        have HC := Lib.hid (HW.out wr l x m j hS.out.start (by omega) (by omega))
        clear hy
        go_wp2_with fail
        refine HC.out.mono ?_
        rintro e w2 ⟨rfl, l2, hS2⟩
        replace hS2 := Lib.hid (hS.out.trans hS2)
        clear hS HC
        go_wp2
        go_roundw
        case rel => exact ⟨y, j, l2, rfl, rfl, ⟨by omega, by omega, by omega, by omega⟩, hS2.out⟩
        case measure => simp [intOf]; omega
      case neg =>
        have d1 : decide (j < i) = false := decide_eq_false hgt
        obtain ⟨y, hy⟩ : ∃ y : Nat, y = j - i := ⟨_, rfl⟩
        obtain ⟨u, hu⟩ : ∃ u : Nat, u = m + j - i := ⟨_, rfl⟩
        have z4 : (j : Int) - (i : Int) = (y : Int) := by omega
        have z5 : (m : Int) + (j : Int) - (i : Int) = (u : Int) := by omega
        have hy2 : y + i = j := by omega
        have hu2 : u + i = m + j := by omega
        have HC := Lib.hid (HW.out wr l x u i hS.out.start (by omega) (by omega))
        clear hy hu
        go_wp2_with fail
        refine HC.out.mono ?_
        rintro e w2 ⟨rfl, l2, hS2⟩
        replace hS2 := Lib.hid (hS.out.trans hS2)
        clear hS HC
        go_wp2
        go_roundw
        case rel => exact ⟨i, y, l2, rfl, rfl, ⟨by omega, by omega, by omega, by omega⟩, hS2.out⟩
        case measure => simp [intOf]; omega
end Go.Proofs.YtnadeddkogapoaaGreatDoor
