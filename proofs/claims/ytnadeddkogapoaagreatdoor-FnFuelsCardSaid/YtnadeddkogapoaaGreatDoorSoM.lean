/- The merge over a block of fuels: it comes to an end, and the block holds fuels. Conditions: as each states. -/
import Derived.Test.YtnadeddkogapoaaGreatDoorSoR
import Derived.Test.YtnadeddkogapoaaGreatDoorSoI
import Derived.Deep.RegionHeldLaw
namespace Go.Proofs.YtnadeddkogapoaaGreatDoor
open Go.ChangeShapes Go.WideShapes Go.ChangeAt Go.RowKit Go.Deep
set_option linter.unusedVariables false
set_option linter.unusedSimpArgs false
set_option maxRecDepth 100000

theorem half_in {i j h : Nat} (hh : h = (i + j) / 2) (hij : i < j) : i ≤ h ∧ h < j := by omega
theorem u64_in {x : Int} (h0 : 0 ≤ x) (h1 : x ≤ 9000000) : IntKind.u64.wrap x = x := by rw [IntKind.wrap_u64]; omega
set_option maxHeartbeats 32000000 in
theorem symMerge_any (B g c n Bf : Nat) (fv : Value) (gf : Nat) (lb : Array Value) (eg : ∀ args w, (callFunc gf args).run Tryz.prog w = .ok (.enter gf args) w) (hcmp : ∀ (W : World) (i : Int) (n : ByteArray) (r l o i' : Int) (n' : ByteArray) (r' l' o' : Int), W.cell? ⟨Bf, 0, none⟩ = some fv → Calls Tryz.prog gf (#[fuV i n r l o, fuV i' n' r' l' o'] ++ lb) W fun e w' => e = .returned (.int .i64 (cmpN i i')) ∧ Below W.heap.size W w') (hn : n ≤ 2000000) (D : Nat) : ∀ (w : World) (l : List Fu) (a m b : Nat), b - a ≤ D → a < m → m < b → b ≤ n → So B w w g c n Bf fv l →
    Calls Tryz.prog 107 #[.slice (some ⟨g, 0, none⟩) n c, .int .i64 a, .int .i64 m, .int .i64 b, .func (.func gf) #[] lb] w (RetSo B w g c n Bf fv) := by
  induction D with
  | zero => intro w l a m b h0 h1 h2 h3 _; exfalso; omega
  | succ D ih =>
  intro w l a m b h0 h1 h2 h3 h
  have H := Lib.hid h
  have HC := Lib.hid hcmp
  have HI := Lib.hid ih
  have HR := Lib.hid fun (W : World) (l : List Fu) (x y z : Nat) (hS : So B W W g c n Bf fv l) hx hy hz => rotate_any B W g c n Bf fv (.func (.func gf) #[] lb) l x y z hS hx hy hz hn
  clear h hcmp ih
  by_cases hc1 : m = a + 1
  case pos =>
    have z1 : (m : Int) - (a : Int) = 1 := by omega
    have hm1 : m - 1 = a := by omega
    clear hc1
    go_enter Tryz.func107, Tryz.ntmps107
    go_wp2_with fail
    go_loopw [10, 11] (fun iv jv wr => ∃ i j : Nat, iv = .int .i64 i ∧ jv = .int .i64 j ∧ Hid (m ≤ i ∧ i ≤ j ∧ j ≤ b) ∧ Hid (So B w wr g c n Bf fv l)) (fun iv jv _ => (intOf jv).toNat - (intOf iv).toNat)
    case atStart => exact ⟨m, b, rfl, rfl, ⟨Nat.le_refl _, by omega, Nat.le_refl _⟩, H.out⟩
    case round =>
      clear H z1
      obtain ⟨i, j, rfl, rfl, hij, hS⟩ := hrel
      obtain ⟨y1, y2, y3⟩ := hij.out
      by_cases hlt : i < j
      case pos =>
        have d0 : decide (i < j) = true := decide_eq_true hlt
        obtain ⟨h, hh⟩ : ∃ h : Nat, h = (i + j) / 2 := ⟨_, rfl⟩
        have zh : ((i : Int) + (j : Int)) / 2 = (h : Int) := by omega
        have zu : IntKind.u64.wrap ((i : Int) + (j : Int)) = (i : Int) + (j : Int) := u64_in (by omega) (by omega)
        have zw : IntKind.i64.wrap (h : Int) = (h : Int) := IntWalk.i64_in _ (by omega)
        obtain ⟨y4, y5⟩ := half_in hh hlt
        have y6 : (h : Int) < (n : Int) := by omega
        have y7 : (a : Int) < (n : Int) := by omega
        clear hh
        go_wp2_with fail
        obtain ⟨i1, n1, r1, k1, o1, hx, a0, a1, a2, a3, a4⟩ := hS.out.fu (p := h) (by omega)
        obtain ⟨i2, n2, r2, k2, o2, hy, b0, b1, b2, b3, b4⟩ := hS.out.fu (p := a) (by omega)
        have hSd := Lib.hid (hS.out.below (grow_drew wr))
        have hC := Lib.hid (HC.out wr.drew i1 n1 r1 k1 o1 i2 n2 r2 k2 o2 hSd.out.hf)
        clear hx hy hS
        obtain ⟨cv, hcv⟩ : ∃ cv, cmpN i1 i2 = cv := ⟨_, rfl⟩
        rw [hcv] at hC
        clear hcv
        by_cases hlt0 : cv < 0
        case pos =>
          have d2 : decide (cv < 0) = true := decide_eq_true hlt0
          clear hlt0
          go_wp2_with fail
          go_still_tail 9, (by kernel_rfl)
          change wpList _ _ _ _ _ wr.drew
          clear a0 a1 a2 a3 a4 b0 b1 b2 b3 b4
          generalize wr.drew = wd at *
          go_wp2_with fail
          refine hC.out.mono ?_
          rintro e w4 ⟨rfl, hb4⟩
          replace hSd := Lib.hid (hSd.out.below hb4)
          clear hb4 hC
          go_wp2
          go_roundw
          case rel => exact ⟨h + 1, j, by go_num, rfl, ⟨by omega, by omega, by omega⟩, hSd.out⟩
          case measure => simp [intOf]; omega
        case neg =>
          have d2 : decide (cv < 0) = false := decide_eq_false hlt0
          clear hlt0
          go_wp2_with fail
          go_still_tail 9, (by kernel_rfl)
          change wpList _ _ _ _ _ wr.drew
          clear a0 a1 a2 a3 a4 b0 b1 b2 b3 b4
          generalize wr.drew = wd at *
          go_wp2_with fail
          refine hC.out.mono ?_
          rintro e w4 ⟨rfl, hb4⟩
          replace hSd := Lib.hid (hSd.out.below hb4)
          clear hb4 hC
          go_wp2
          go_roundw
          case rel => exact ⟨i, h, rfl, rfl, ⟨by omega, by omega, by omega⟩, hSd.out⟩
          case measure => simp [intOf]; omega
      case neg =>
        have d0 : decide (i < j) = false := decide_eq_false hlt
        obtain ⟨i1', hi1⟩ : ∃ x : Nat, x + 1 = i := ⟨i - 1, by omega⟩
        have z2 : (i : Int) - 1 = (i1' : Int) := by omega
        have y8 : i1' < b := by omega
        have hi1 := Lib.hid hi1
        clear hlt hij y1 y2 y3
        obtain ⟨wo, rfl⟩ : ∃ wo : World, wo = wr := ⟨_, rfl⟩
        go_wp2_with fail
        go_loopw [13] (fun kv wr => ∃ k : Nat, ∃ l2 : List Fu, kv = .int .i64 k ∧ Hid (So B w wr g c n Bf fv l2)) (fun kv _ => i1' - (intOf kv).toNat)
        case atStart => exact ⟨a, l, rfl, hS.out⟩
        case round =>
          clear hS
          obtain ⟨k, l2, rfl, hS⟩ := hrel
          by_cases hlt : k < i1'
          case neg =>
            have d1 : decide (k < i1') = false := decide_eq_false hlt
            go_wp2_with fail
            go_end0
            exact ⟨rfl, l2, hS.out⟩
          case pos =>
            have d1 : decide (k < i1') = true := decide_eq_true hlt
            obtain ⟨k', hk'⟩ : ∃ k' : Nat, k' = k + 1 := ⟨_, rfl⟩
            have hp : k < n := by omega
            have hq : k' < n := by omega
            have m1 : (k : Int) + 1 = (k' : Int) := by omega
            have m3 : IntKind.i64.wrap (k' : Int) = (k' : Int) := IntWalk.i64_in _ (by omega)
            have m5 : (k : Int) < (n : Int) := by omega
            have m6 : (k' : Int) < (n : Int) := by omega
            have hms : i1' - k' < i1' - k := by omega
            clear hk'
            go_wp2_with fail
            have hSd := hS.out.below (grow_drew wr)
            refine wp_region_held_drew (S := fun W => True) (by kernel_rfl) trivial (fun hHeld => ?_)
            generalize wr.drew = Wd at *
            obtain ⟨i1, n1, r1, k1, o1, hx, a0, a1, a2, a3, a4⟩ := hSd.fu (p := k) hp
            obtain ⟨i2, n2, r2, k2, o2, hy, b0, b1, b2, b3, b4⟩ := hSd.fu (p := k') hq
            have hz1 := hSd.hm _ (List.mem_of_getElem? hx)
            have hz2 := hSd.hm _ (List.mem_of_getElem? hy)
            have hsw := Lib.hid (swp_at hx hy)
            simp only at hz1 hz2
            clear hx hy
            refine wpAnyH_take (i := 0) (v := ?_) rfl (by kernel_rfl) (by kernel_rfl) (by kernel_rfl) (fun _ _ _ h => h) (Or.inl ⟨by rfl, ?_⟩) (by assumption) ?_
            rotate_left
            · intro w hSw
              try dsimp only at hSw
              go_simp
              try (with_reducible rfl)
            try simp only [Act.put, List.setIfInBounds_toArray, List.set_cons_zero, List.set_cons_succ]
            refine wpAnyH_take (i := 1) (v := ?_) rfl (by kernel_rfl) (by kernel_rfl) (by kernel_rfl) (fun _ _ _ h => h) (Or.inl ⟨by rfl, ?_⟩) (by assumption) ?_
            rotate_left
            · intro w hSw
              try dsimp only at hSw
              go_simp
              try (with_reducible rfl)
            try simp only [Act.put, List.setIfInBounds_toArray, List.set_cons_zero, List.set_cons_succ]
            refine wpAnyH_take (i := 2) (v := ?_) rfl (by kernel_rfl) (by kernel_rfl) (by kernel_rfl) (fun _ _ _ h => h) (Or.inl ⟨by rfl, ?_⟩) (by assumption) ?_
            rotate_left
            · intro w hSw
              try dsimp only at hSw
              go_simp
              try (with_reducible rfl)
            try simp only [Act.put, List.setIfInBounds_toArray, List.set_cons_zero, List.set_cons_succ]
            refine wpAnyH_take (i := 3) (v := ?_) rfl (by kernel_rfl) (by kernel_rfl) (by kernel_rfl) (fun _ _ _ h => h) (Or.inl ⟨by rfl, ?_⟩) (by assumption) ?_
            rotate_left
            · intro w hSw
              try dsimp only at hSw
              go_simp
              try (with_reducible rfl)
            try simp only [Act.put, List.setIfInBounds_toArray, List.set_cons_zero, List.set_cons_succ]
            refine wpAnyH_take (i := 4) (v := ?_) rfl (by kernel_rfl) (by kernel_rfl) (by kernel_rfl) (fun _ _ _ h => h) (Or.inl ⟨by rfl, ?_⟩) (by assumption) ?_
            rotate_left
            · intro w hSw
              try dsimp only at hSw
              go_simp
              try (with_reducible rfl)
            try simp only [Act.put, List.setIfInBounds_toArray, List.set_cons_zero, List.set_cons_succ]
            refine wpAnyH_take (i := 5) (v := ?_) rfl (by kernel_rfl) (by kernel_rfl) (by kernel_rfl) (fun _ _ _ h => h) (Or.inl ⟨by rfl, ?_⟩) (by assumption) ?_
            rotate_left
            · intro w hSw
              try dsimp only at hSw
              go_simp
              try (with_reducible rfl)
            try simp only [Act.put, List.setIfInBounds_toArray, List.set_cons_zero, List.set_cons_succ]
            refine wpAnyH_take (i := 6) (v := ?_) rfl (by kernel_rfl) (by kernel_rfl) (by kernel_rfl) (fun _ _ _ h => h) (Or.inl ⟨by rfl, ?_⟩) (by assumption) ?_
            rotate_left
            · intro w hSw
              try dsimp only at hSw
              go_simp
              try (with_reducible rfl)
            try simp only [Act.put, List.setIfInBounds_toArray, List.set_cons_zero, List.set_cons_succ]
            refine wpAnyH_take (i := 7) (v := ?_) rfl (by kernel_rfl) (by kernel_rfl) (by kernel_rfl) (fun _ _ _ h => h) (Or.inl ⟨by rfl, ?_⟩) (by assumption) ?_
            rotate_left
            · intro w hSw
              try dsimp only at hSw
              go_simp
              try (with_reducible rfl)
            try simp only [Act.put, List.setIfInBounds_toArray, List.set_cons_zero, List.set_cons_succ]
            refine wpAnyH_take (i := 8) (v := ?_) rfl (by kernel_rfl) (by kernel_rfl) (by kernel_rfl) (fun _ _ _ h => h) (Or.inl ⟨by rfl, ?_⟩) (by assumption) ?_
            rotate_left
            · intro w hSw
              try dsimp only at hSw
              go_simp
              try (with_reducible rfl)
            try simp only [Act.put, List.setIfInBounds_toArray, List.set_cons_zero, List.set_cons_succ]
            refine wpAnyH_take (i := 10) (v := ?_) rfl (by kernel_rfl) (by kernel_rfl) (by kernel_rfl) (fun _ _ _ h => h) (Or.inl ⟨by rfl, ?_⟩) (by assumption) ?_
            rotate_left
            · intro w hSw
              try dsimp only at hSw
              go_simp
              try (with_reducible rfl)
            try simp only [Act.put, List.setIfInBounds_toArray, List.set_cons_zero, List.set_cons_succ]
            refine wpAnyH_take (i := 11) (v := ?_) rfl (by kernel_rfl) (by kernel_rfl) (by kernel_rfl) (fun _ _ _ h => h) (Or.inl ⟨by rfl, ?_⟩) (by assumption) ?_
            rotate_left
            · intro w hSw
              try dsimp only at hSw
              go_simp
              try (with_reducible rfl)
            try simp only [Act.put, List.setIfInBounds_toArray, List.set_cons_zero, List.set_cons_succ]
            refine wpAnyH_take (i := 12) (v := ?_) rfl (by kernel_rfl) (by kernel_rfl) (by kernel_rfl) (fun _ _ _ h => h) (Or.inl ⟨by rfl, ?_⟩) (by assumption) ?_
            rotate_left
            · intro w hSw
              try dsimp only at hSw
              go_simp
              try (with_reducible rfl)
            try simp only [Act.put, List.setIfInBounds_toArray, List.set_cons_zero, List.set_cons_succ]
            refine wpAnyH_ready (rs := [9, 13]) (by kernel_rfl) (by simp) ?_
            refine AllReadyH.cons rfl (fun K hK => ?_) (AllReadyH.cons rfl (fun K hK => ?_) AllReadyH.nil)
            · skip
              go_simp
              refine hK.out _ _ trivial (fun hHeld => ?_)
              clear hK K
              refine wpAnyH_ready (rs := [13]) (by kernel_rfl) (by simp) ?_
              refine AllReadyH.cons rfl (fun K hK => ?_) AllReadyH.nil
              go_simp
              refine hK.out _ _ trivial (fun hHeld => ?_)
              clear hK K
              refine wpAnyH_take (i := 14) (v := ?_) rfl (by kernel_rfl) (by kernel_rfl) (by kernel_rfl) (fun _ _ _ h => h) (Or.inl ⟨by rfl, ?_⟩) (by assumption) ?_
              rotate_left
              · intro w hSw
                try dsimp only at hSw
                go_simp
                try (with_reducible rfl)
              try simp only [Act.put, List.setIfInBounds_toArray, List.set_cons_zero, List.set_cons_succ]
              refine wpAnyH_ready (rs := [15]) (by kernel_rfl) (by simp) ?_
              refine AllReadyH.cons rfl (fun K hK => ?_) AllReadyH.nil
              obtain ⟨⟨⟨_, e0⟩, f0⟩, ⟨⟨_, e1⟩, f1⟩, ⟨⟨_, e2⟩, f2⟩, ⟨⟨_, e3⟩, f3⟩, ⟨⟨_, e4⟩, f4⟩, hS1⟩ := hSd.put (p := k) hp i2 n2 r2 k2 o2 hz2
              clear a0 a1 a2 a3 a4 b0 b1 b2 b3 b4
              go_simp
              clear e0 e1 e2 e3 e4 f0 f1 f2 f3 f4
              generalize World.setCell _ ⟨g, k * 5 + 4, none⟩ _ = V1 at *
              refine hK.out _ _ trivial (fun hHeld => ?_)
              clear hK K
              refine wpAnyH_take (i := 16) (v := ?_) rfl (by kernel_rfl) (by kernel_rfl) (by kernel_rfl) (fun _ _ _ h => h) (Or.inl ⟨by rfl, ?_⟩) (by assumption) ?_
              rotate_left
              · intro w hSw
                try dsimp only at hSw
                go_simp
                try (with_reducible rfl)
              try simp only [Act.put, List.setIfInBounds_toArray, List.set_cons_zero, List.set_cons_succ]
              refine wpAnyH_ready (rs := [17]) (by kernel_rfl) (by simp) ?_
              refine AllReadyH.cons rfl (fun K hK => ?_) AllReadyH.nil
              obtain ⟨⟨⟨_, e0⟩, f0⟩, ⟨⟨_, e1⟩, f1⟩, ⟨⟨_, e2⟩, f2⟩, ⟨⟨_, e3⟩, f3⟩, ⟨⟨_, e4⟩, f4⟩, hS2⟩ := hS1.put (p := k') hq i1 n1 r1 k1 o1 hz1
              go_simp
              clear e0 e1 e2 e3 e4 f0 f1 f2 f3 f4
              generalize World.setCell _ ⟨g, k' * 5 + 4, none⟩ _ = V2 at *
              refine hK.out _ _ trivial (fun hHeld => ?_)
              clear hK K
              refine wpAnyH_done (by kernel_rfl) ?_ _
              rw [← hsw.out] at hS2
              replace hS2 := Lib.hid hS2
              clear hS1 hSd hHeld hsw hS
              go_wp2
              go_roundw
              case rel => exact ⟨k', _, rfl, hS2.out⟩
              case measure => simp [intOf]; omega
            · skip
              go_simp
              refine hK.out _ _ trivial (fun hHeld => ?_)
              clear hK K
              refine wpAnyH_ready (rs := [9]) (by kernel_rfl) (by simp) ?_
              refine AllReadyH.cons rfl (fun K hK => ?_) AllReadyH.nil
              go_simp
              refine hK.out _ _ trivial (fun hHeld => ?_)
              clear hK K
              refine wpAnyH_take (i := 14) (v := ?_) rfl (by kernel_rfl) (by kernel_rfl) (by kernel_rfl) (fun _ _ _ h => h) (Or.inl ⟨by rfl, ?_⟩) (by assumption) ?_
              rotate_left
              · intro w hSw
                try dsimp only at hSw
                go_simp
                try (with_reducible rfl)
              try simp only [Act.put, List.setIfInBounds_toArray, List.set_cons_zero, List.set_cons_succ]
              refine wpAnyH_ready (rs := [15]) (by kernel_rfl) (by simp) ?_
              refine AllReadyH.cons rfl (fun K hK => ?_) AllReadyH.nil
              obtain ⟨⟨⟨_, e0⟩, f0⟩, ⟨⟨_, e1⟩, f1⟩, ⟨⟨_, e2⟩, f2⟩, ⟨⟨_, e3⟩, f3⟩, ⟨⟨_, e4⟩, f4⟩, hS1⟩ := hSd.put (p := k) hp i2 n2 r2 k2 o2 hz2
              clear a0 a1 a2 a3 a4 b0 b1 b2 b3 b4
              go_simp
              clear e0 e1 e2 e3 e4 f0 f1 f2 f3 f4
              generalize World.setCell _ ⟨g, k * 5 + 4, none⟩ _ = V1 at *
              refine hK.out _ _ trivial (fun hHeld => ?_)
              clear hK K
              refine wpAnyH_take (i := 16) (v := ?_) rfl (by kernel_rfl) (by kernel_rfl) (by kernel_rfl) (fun _ _ _ h => h) (Or.inl ⟨by rfl, ?_⟩) (by assumption) ?_
              rotate_left
              · intro w hSw
                try dsimp only at hSw
                go_simp
                try (with_reducible rfl)
              try simp only [Act.put, List.setIfInBounds_toArray, List.set_cons_zero, List.set_cons_succ]
              refine wpAnyH_ready (rs := [17]) (by kernel_rfl) (by simp) ?_
              refine AllReadyH.cons rfl (fun K hK => ?_) AllReadyH.nil
              obtain ⟨⟨⟨_, e0⟩, f0⟩, ⟨⟨_, e1⟩, f1⟩, ⟨⟨_, e2⟩, f2⟩, ⟨⟨_, e3⟩, f3⟩, ⟨⟨_, e4⟩, f4⟩, hS2⟩ := hS1.put (p := k') hq i1 n1 r1 k1 o1 hz1
              go_simp
              clear e0 e1 e2 e3 e4 f0 f1 f2 f3 f4
              generalize World.setCell _ ⟨g, k' * 5 + 4, none⟩ _ = V2 at *
              refine hK.out _ _ trivial (fun hHeld => ?_)
              clear hK K
              refine wpAnyH_done (by kernel_rfl) ?_ _
              rw [← hsw.out] at hS2
              replace hS2 := Lib.hid hS2
              clear hS1 hSd hHeld hsw hS
              go_wp2
              go_roundw
              case rel => exact ⟨k', _, rfl, hS2.out⟩
              case measure => simp [intOf]; omega
  case neg =>
    have z0 : ((m : Int) - (a : Int) == 1) = false := beq_eq_false_iff_ne.2 (by omega)
    by_cases hc2 : b = m + 1
    case pos =>
      have z1 : (b : Int) - (m : Int) = 1 := by omega
      have hm1 : b - 1 = m := by omega
      clear hc1 hc2
      go_enter Tryz.func107, Tryz.ntmps107
      go_wp2_with fail
      go_loopw [14, 15] (fun iv jv wr => ∃ i j : Nat, iv = .int .i64 i ∧ jv = .int .i64 j ∧ Hid (a ≤ i ∧ i ≤ j ∧ j ≤ m) ∧ Hid (So B w wr g c n Bf fv l)) (fun iv jv _ => (intOf jv).toNat - (intOf iv).toNat)
      case atStart => exact ⟨a, m, rfl, rfl, ⟨Nat.le_refl _, by omega, Nat.le_refl _⟩, H.out⟩
      case round =>
        clear H z1 z0
        obtain ⟨i, j, rfl, rfl, hij, hS⟩ := hrel
        obtain ⟨y1, y2, y3⟩ := hij.out
        by_cases hlt : i < j
        case pos =>
          have d0 : decide (i < j) = true := decide_eq_true hlt
          obtain ⟨h, hh⟩ : ∃ h : Nat, h = (i + j) / 2 := ⟨_, rfl⟩
          have zh : ((i : Int) + (j : Int)) / 2 = (h : Int) := by omega
          have zu : IntKind.u64.wrap ((i : Int) + (j : Int)) = (i : Int) + (j : Int) := u64_in (by omega) (by omega)
          have zw : IntKind.i64.wrap (h : Int) = (h : Int) := IntWalk.i64_in _ (by omega)
          obtain ⟨y4, y5⟩ := half_in hh hlt
          have y6 : (h : Int) < (n : Int) := by omega
          have y7 : (m : Int) < (n : Int) := by omega
          clear hh
          go_wp2_with fail
          obtain ⟨i1, n1, r1, k1, o1, hx, a0, a1, a2, a3, a4⟩ := hS.out.fu (p := m) (by omega)
          obtain ⟨i2, n2, r2, k2, o2, hy, b0, b1, b2, b3, b4⟩ := hS.out.fu (p := h) (by omega)
          have hSd := Lib.hid (hS.out.below (grow_drew wr))
          have hC := Lib.hid (HC.out wr.drew i1 n1 r1 k1 o1 i2 n2 r2 k2 o2 hSd.out.hf)
          clear hx hy hS
          obtain ⟨cv, hcv⟩ : ∃ cv, cmpN i1 i2 = cv := ⟨_, rfl⟩
          rw [hcv] at hC
          clear hcv
          by_cases hlt0 : cv < 0
          case pos =>
            have d2 : decide (cv < 0) = true := decide_eq_true hlt0
            clear hlt0
            go_wp2_with fail
            go_still_tail 9, (by kernel_rfl)
            change wpList _ _ _ _ _ wr.drew
            clear a0 a1 a2 a3 a4 b0 b1 b2 b3 b4
            generalize wr.drew = wd at *
            go_wp2_with fail
            refine hC.out.mono ?_
            rintro e w4 ⟨rfl, hb4⟩
            replace hSd := Lib.hid (hSd.out.below hb4)
            clear hb4 hC
            go_wp2
            go_roundw
            case rel => exact ⟨i, h, rfl, rfl, ⟨by omega, by omega, by omega⟩, hSd.out⟩
            case measure => simp [intOf]; omega
          case neg =>
            have d2 : decide (cv < 0) = false := decide_eq_false hlt0
            clear hlt0
            go_wp2_with fail
            go_still_tail 9, (by kernel_rfl)
            change wpList _ _ _ _ _ wr.drew
            clear a0 a1 a2 a3 a4 b0 b1 b2 b3 b4
            generalize wr.drew = wd at *
            go_wp2_with fail
            refine hC.out.mono ?_
            rintro e w4 ⟨rfl, hb4⟩
            replace hSd := Lib.hid (hSd.out.below hb4)
            clear hb4 hC
            go_wp2
            go_roundw
            case rel => exact ⟨h + 1, j, by go_num, rfl, ⟨by omega, by omega, by omega⟩, hSd.out⟩
            case measure => simp [intOf]; omega
        case neg =>
          have d0 : decide (i < j) = false := decide_eq_false hlt
          clear hlt hij y1 y2 y3
          obtain ⟨wo, rfl⟩ : ∃ wo : World, wo = wr := ⟨_, rfl⟩
          go_wp2_with fail
          go_loopw [17] (fun kv wr => ∃ k : Nat, ∃ l2 : List Fu, kv = .int .i64 k ∧ Hid (k ≤ m) ∧ Hid (So B w wr g c n Bf fv l2)) (fun kv _ => (intOf kv).toNat)
          case atStart => exact ⟨m, l, rfl, Nat.le_refl _, hS.out⟩
          case round =>
            clear hS
            obtain ⟨k, l2, rfl, hk, hS⟩ := hrel
            by_cases hlt : i < k
            case neg =>
              have d1 : decide (i < k) = false := decide_eq_false hlt
              go_wp2_with fail
              go_end0
              exact ⟨rfl, l2, hS.out⟩
            case pos =>
              have d1 : decide (i < k) = true := decide_eq_true hlt
              obtain ⟨k', hk'⟩ : ∃ k' : Nat, k' + 1 = k := ⟨k - 1, by omega⟩
              have hp : k < n := by have := hk.out; omega
              have hq : k' < n := by omega
              have m1 : (k : Int) - 1 = (k' : Int) := by omega
              have m3 : IntKind.i64.wrap (k' : Int) = (k' : Int) := IntWalk.i64_in _ (by omega)
              have m5 : (k : Int) < (n : Int) := by omega
              have m6 : (k' : Int) < (n : Int) := by omega
              have hms : k' < k := by omega
              have hk2 : Hid (k' ≤ m) := by have := hk.out; show _ ≤ _; omega
              clear hk' hk
              go_wp2_with fail
              have hSd := hS.out.below (grow_drew wr)
              refine wp_region_held_drew (S := fun W => True) (by kernel_rfl) trivial (fun hHeld => ?_)
              generalize wr.drew = Wd at *
              obtain ⟨i1, n1, r1, k1, o1, hx, a0, a1, a2, a3, a4⟩ := hSd.fu (p := k) hp
              obtain ⟨i2, n2, r2, k2, o2, hy, b0, b1, b2, b3, b4⟩ := hSd.fu (p := k') hq
              have hz1 := hSd.hm _ (List.mem_of_getElem? hx)
              have hz2 := hSd.hm _ (List.mem_of_getElem? hy)
              have hsw := Lib.hid (swp_at hx hy)
              simp only at hz1 hz2
              clear hx hy
              refine wpAnyH_take (i := 0) (v := ?_) rfl (by kernel_rfl) (by kernel_rfl) (by kernel_rfl) (fun _ _ _ h => h) (Or.inl ⟨by rfl, ?_⟩) (by assumption) ?_
              rotate_left
              · intro w hSw
                try dsimp only at hSw
                go_simp
                try (with_reducible rfl)
              try simp only [Act.put, List.setIfInBounds_toArray, List.set_cons_zero, List.set_cons_succ]
              refine wpAnyH_take (i := 1) (v := ?_) rfl (by kernel_rfl) (by kernel_rfl) (by kernel_rfl) (fun _ _ _ h => h) (Or.inl ⟨by rfl, ?_⟩) (by assumption) ?_
              rotate_left
              · intro w hSw
                try dsimp only at hSw
                go_simp
                try (with_reducible rfl)
              try simp only [Act.put, List.setIfInBounds_toArray, List.set_cons_zero, List.set_cons_succ]
              refine wpAnyH_take (i := 2) (v := ?_) rfl (by kernel_rfl) (by kernel_rfl) (by kernel_rfl) (fun _ _ _ h => h) (Or.inl ⟨by rfl, ?_⟩) (by assumption) ?_
              rotate_left
              · intro w hSw
                try dsimp only at hSw
                go_simp
                try (with_reducible rfl)
              try simp only [Act.put, List.setIfInBounds_toArray, List.set_cons_zero, List.set_cons_succ]
              refine wpAnyH_take (i := 3) (v := ?_) rfl (by kernel_rfl) (by kernel_rfl) (by kernel_rfl) (fun _ _ _ h => h) (Or.inl ⟨by rfl, ?_⟩) (by assumption) ?_
              rotate_left
              · intro w hSw
                try dsimp only at hSw
                go_simp
                try (with_reducible rfl)
              try simp only [Act.put, List.setIfInBounds_toArray, List.set_cons_zero, List.set_cons_succ]
              refine wpAnyH_take (i := 4) (v := ?_) rfl (by kernel_rfl) (by kernel_rfl) (by kernel_rfl) (fun _ _ _ h => h) (Or.inl ⟨by rfl, ?_⟩) (by assumption) ?_
              rotate_left
              · intro w hSw
                try dsimp only at hSw
                go_simp
                try (with_reducible rfl)
              try simp only [Act.put, List.setIfInBounds_toArray, List.set_cons_zero, List.set_cons_succ]
              refine wpAnyH_take (i := 5) (v := ?_) rfl (by kernel_rfl) (by kernel_rfl) (by kernel_rfl) (fun _ _ _ h => h) (Or.inl ⟨by rfl, ?_⟩) (by assumption) ?_
              rotate_left
              · intro w hSw
                try dsimp only at hSw
                go_simp
                try (with_reducible rfl)
              try simp only [Act.put, List.setIfInBounds_toArray, List.set_cons_zero, List.set_cons_succ]
              refine wpAnyH_take (i := 6) (v := ?_) rfl (by kernel_rfl) (by kernel_rfl) (by kernel_rfl) (fun _ _ _ h => h) (Or.inl ⟨by rfl, ?_⟩) (by assumption) ?_
              rotate_left
              · intro w hSw
                try dsimp only at hSw
                go_simp
                try (with_reducible rfl)
              try simp only [Act.put, List.setIfInBounds_toArray, List.set_cons_zero, List.set_cons_succ]
              refine wpAnyH_take (i := 7) (v := ?_) rfl (by kernel_rfl) (by kernel_rfl) (by kernel_rfl) (fun _ _ _ h => h) (Or.inl ⟨by rfl, ?_⟩) (by assumption) ?_
              rotate_left
              · intro w hSw
                try dsimp only at hSw
                go_simp
                try (with_reducible rfl)
              try simp only [Act.put, List.setIfInBounds_toArray, List.set_cons_zero, List.set_cons_succ]
              refine wpAnyH_take (i := 8) (v := ?_) rfl (by kernel_rfl) (by kernel_rfl) (by kernel_rfl) (fun _ _ _ h => h) (Or.inl ⟨by rfl, ?_⟩) (by assumption) ?_
              rotate_left
              · intro w hSw
                try dsimp only at hSw
                go_simp
                try (with_reducible rfl)
              try simp only [Act.put, List.setIfInBounds_toArray, List.set_cons_zero, List.set_cons_succ]
              refine wpAnyH_take (i := 10) (v := ?_) rfl (by kernel_rfl) (by kernel_rfl) (by kernel_rfl) (fun _ _ _ h => h) (Or.inl ⟨by rfl, ?_⟩) (by assumption) ?_
              rotate_left
              · intro w hSw
                try dsimp only at hSw
                go_simp
                try (with_reducible rfl)
              try simp only [Act.put, List.setIfInBounds_toArray, List.set_cons_zero, List.set_cons_succ]
              refine wpAnyH_take (i := 11) (v := ?_) rfl (by kernel_rfl) (by kernel_rfl) (by kernel_rfl) (fun _ _ _ h => h) (Or.inl ⟨by rfl, ?_⟩) (by assumption) ?_
              rotate_left
              · intro w hSw
                try dsimp only at hSw
                go_simp
                try (with_reducible rfl)
              try simp only [Act.put, List.setIfInBounds_toArray, List.set_cons_zero, List.set_cons_succ]
              refine wpAnyH_take (i := 12) (v := ?_) rfl (by kernel_rfl) (by kernel_rfl) (by kernel_rfl) (fun _ _ _ h => h) (Or.inl ⟨by rfl, ?_⟩) (by assumption) ?_
              rotate_left
              · intro w hSw
                try dsimp only at hSw
                go_simp
                try (with_reducible rfl)
              try simp only [Act.put, List.setIfInBounds_toArray, List.set_cons_zero, List.set_cons_succ]
              refine wpAnyH_ready (rs := [9, 13]) (by kernel_rfl) (by simp) ?_
              refine AllReadyH.cons rfl (fun K hK => ?_) (AllReadyH.cons rfl (fun K hK => ?_) AllReadyH.nil)
              · skip
                go_simp
                refine hK.out _ _ trivial (fun hHeld => ?_)
                clear hK K
                refine wpAnyH_ready (rs := [13]) (by kernel_rfl) (by simp) ?_
                refine AllReadyH.cons rfl (fun K hK => ?_) AllReadyH.nil
                go_simp
                refine hK.out _ _ trivial (fun hHeld => ?_)
                clear hK K
                refine wpAnyH_take (i := 14) (v := ?_) rfl (by kernel_rfl) (by kernel_rfl) (by kernel_rfl) (fun _ _ _ h => h) (Or.inl ⟨by rfl, ?_⟩) (by assumption) ?_
                rotate_left
                · intro w hSw
                  try dsimp only at hSw
                  go_simp
                  try (with_reducible rfl)
                try simp only [Act.put, List.setIfInBounds_toArray, List.set_cons_zero, List.set_cons_succ]
                refine wpAnyH_ready (rs := [15]) (by kernel_rfl) (by simp) ?_
                refine AllReadyH.cons rfl (fun K hK => ?_) AllReadyH.nil
                obtain ⟨⟨⟨_, e0⟩, f0⟩, ⟨⟨_, e1⟩, f1⟩, ⟨⟨_, e2⟩, f2⟩, ⟨⟨_, e3⟩, f3⟩, ⟨⟨_, e4⟩, f4⟩, hS1⟩ := hSd.put (p := k) hp i2 n2 r2 k2 o2 hz2
                clear a0 a1 a2 a3 a4 b0 b1 b2 b3 b4
                go_simp
                clear e0 e1 e2 e3 e4 f0 f1 f2 f3 f4
                generalize World.setCell _ ⟨g, k * 5 + 4, none⟩ _ = V1 at *
                refine hK.out _ _ trivial (fun hHeld => ?_)
                clear hK K
                refine wpAnyH_take (i := 16) (v := ?_) rfl (by kernel_rfl) (by kernel_rfl) (by kernel_rfl) (fun _ _ _ h => h) (Or.inl ⟨by rfl, ?_⟩) (by assumption) ?_
                rotate_left
                · intro w hSw
                  try dsimp only at hSw
                  go_simp
                  try (with_reducible rfl)
                try simp only [Act.put, List.setIfInBounds_toArray, List.set_cons_zero, List.set_cons_succ]
                refine wpAnyH_ready (rs := [17]) (by kernel_rfl) (by simp) ?_
                refine AllReadyH.cons rfl (fun K hK => ?_) AllReadyH.nil
                obtain ⟨⟨⟨_, e0⟩, f0⟩, ⟨⟨_, e1⟩, f1⟩, ⟨⟨_, e2⟩, f2⟩, ⟨⟨_, e3⟩, f3⟩, ⟨⟨_, e4⟩, f4⟩, hS2⟩ := hS1.put (p := k') hq i1 n1 r1 k1 o1 hz1
                go_simp
                clear e0 e1 e2 e3 e4 f0 f1 f2 f3 f4
                generalize World.setCell _ ⟨g, k' * 5 + 4, none⟩ _ = V2 at *
                refine hK.out _ _ trivial (fun hHeld => ?_)
                clear hK K
                refine wpAnyH_done (by kernel_rfl) ?_ _
                rw [← hsw.out] at hS2
                replace hS2 := Lib.hid hS2
                clear hS1 hSd hHeld hsw hS
                go_wp2
                go_roundw
                case rel => exact ⟨k', _, rfl, hk2.out, hS2.out⟩
                case measure => simp [intOf]; omega
              · skip
                go_simp
                refine hK.out _ _ trivial (fun hHeld => ?_)
                clear hK K
                refine wpAnyH_ready (rs := [9]) (by kernel_rfl) (by simp) ?_
                refine AllReadyH.cons rfl (fun K hK => ?_) AllReadyH.nil
                go_simp
                refine hK.out _ _ trivial (fun hHeld => ?_)
                clear hK K
                refine wpAnyH_take (i := 14) (v := ?_) rfl (by kernel_rfl) (by kernel_rfl) (by kernel_rfl) (fun _ _ _ h => h) (Or.inl ⟨by rfl, ?_⟩) (by assumption) ?_
                rotate_left
                · intro w hSw
                  try dsimp only at hSw
                  go_simp
                  try (with_reducible rfl)
                try simp only [Act.put, List.setIfInBounds_toArray, List.set_cons_zero, List.set_cons_succ]
                refine wpAnyH_ready (rs := [15]) (by kernel_rfl) (by simp) ?_
                refine AllReadyH.cons rfl (fun K hK => ?_) AllReadyH.nil
                obtain ⟨⟨⟨_, e0⟩, f0⟩, ⟨⟨_, e1⟩, f1⟩, ⟨⟨_, e2⟩, f2⟩, ⟨⟨_, e3⟩, f3⟩, ⟨⟨_, e4⟩, f4⟩, hS1⟩ := hSd.put (p := k) hp i2 n2 r2 k2 o2 hz2
                clear a0 a1 a2 a3 a4 b0 b1 b2 b3 b4
                go_simp
                clear e0 e1 e2 e3 e4 f0 f1 f2 f3 f4
                generalize World.setCell _ ⟨g, k * 5 + 4, none⟩ _ = V1 at *
                refine hK.out _ _ trivial (fun hHeld => ?_)
                clear hK K
                refine wpAnyH_take (i := 16) (v := ?_) rfl (by kernel_rfl) (by kernel_rfl) (by kernel_rfl) (fun _ _ _ h => h) (Or.inl ⟨by rfl, ?_⟩) (by assumption) ?_
                rotate_left
                · intro w hSw
                  try dsimp only at hSw
                  go_simp
                  try (with_reducible rfl)
                try simp only [Act.put, List.setIfInBounds_toArray, List.set_cons_zero, List.set_cons_succ]
                refine wpAnyH_ready (rs := [17]) (by kernel_rfl) (by simp) ?_
                refine AllReadyH.cons rfl (fun K hK => ?_) AllReadyH.nil
                obtain ⟨⟨⟨_, e0⟩, f0⟩, ⟨⟨_, e1⟩, f1⟩, ⟨⟨_, e2⟩, f2⟩, ⟨⟨_, e3⟩, f3⟩, ⟨⟨_, e4⟩, f4⟩, hS2⟩ := hS1.put (p := k') hq i1 n1 r1 k1 o1 hz1
                go_simp
                clear e0 e1 e2 e3 e4 f0 f1 f2 f3 f4
                generalize World.setCell _ ⟨g, k' * 5 + 4, none⟩ _ = V2 at *
                refine hK.out _ _ trivial (fun hHeld => ?_)
                clear hK K
                refine wpAnyH_done (by kernel_rfl) ?_ _
                rw [← hsw.out] at hS2
                replace hS2 := Lib.hid hS2
                clear hS1 hSd hHeld hsw hS
                go_wp2
                go_roundw
                case rel => exact ⟨k', _, rfl, hk2.out, hS2.out⟩
                case measure => simp [intOf]; omega
    case neg =>
      have z1 : ((b : Int) - (m : Int) == 1) = false := beq_eq_false_iff_ne.2 (by omega)
      have g1 : a + 2 ≤ m := by omega
      have g2 : m + 2 ≤ b := by omega
      clear hc1 hc2
      obtain ⟨mid, hmid⟩ : ∃ mid : Nat, mid = (a + b) / 2 := ⟨_, rfl⟩
      have zh : ((a : Int) + (b : Int)) / 2 = (mid : Int) := by omega
      have zu : IntKind.u64.wrap ((a : Int) + (b : Int)) = (a : Int) + (b : Int) := u64_in (by omega) (by omega)
      have zw : IntKind.i64.wrap (mid : Int) = (mid : Int) := IntWalk.i64_in _ (by omega)
      obtain ⟨P, hP⟩ : ∃ P : Nat, P = mid + m := ⟨_, rfl⟩
      obtain ⟨p, hp⟩ : ∃ p : Nat, p + 1 = P := ⟨P - 1, by omega⟩
      have q1 : (mid : Int) + (m : Int) = (P : Int) := by omega
      have q2 : (P : Int) - 1 = (p : Int) := by omega
      have q3 : IntKind.i64.wrap (P : Int) = (P : Int) := IntWalk.i64_in _ (by omega)
      have q4 : IntKind.i64.wrap (p : Int) = (p : Int) := IntWalk.i64_in _ (by omega)
      have f1 : 2 * mid ≤ a + b := by omega
      have f2 : a + b ≤ 2 * mid + 1 := by omega
      have f3 : P ≤ mid + m := by omega
      have f4 : mid + m ≤ P := by omega
      have f5 : p < P := by omega
      have f6 : P ≤ p + 1 := by omega
      clear hmid hP hp
      by_cases hmm : mid < m
      case pos =>
        have d9 : decide (mid < m) = true := decide_eq_true hmm
        obtain ⟨lo, hlo⟩ : ∃ lo : Nat, lo + b = P := ⟨P - b, by omega⟩
        have q5 : (P : Int) - (b : Int) = (lo : Int) := by omega
        have q6 : IntKind.i64.wrap (lo : Int) = (lo : Int) := IntWalk.i64_in _ (by omega)
        have f7 : lo + b ≤ P := by omega
        have f8 : P ≤ lo + b := by omega
        clear hlo
        go_enter Tryz.func107, Tryz.ntmps107
        go_wp2_with fail
        go_loopw [20, 21] (fun sv rv wr => ∃ s r : Nat, sv = .int .i64 s ∧ rv = .int .i64 r ∧ Hid (lo ≤ s ∧ s ≤ r ∧ r ≤ mid) ∧ Hid (So B w wr g c n Bf fv l)) (fun sv rv _ => (intOf rv).toNat - (intOf sv).toNat)
        case atStart => exact ⟨lo, mid, rfl, rfl, ⟨Nat.le_refl _, by omega, Nat.le_refl _⟩, H.out⟩
        case round =>
          clear H z1 z0 zh zu zw q1 q2 q5 q6
          obtain ⟨s, r, rfl, rfl, hij, hS⟩ := hrel
          obtain ⟨y1, y2, y3⟩ := hij.out
          by_cases hlt : s < r
          case pos =>
            have d0 : decide (s < r) = true := decide_eq_true hlt
            obtain ⟨h, hh⟩ : ∃ h : Nat, h = (s + r) / 2 := ⟨_, rfl⟩
            have zh : ((s : Int) + (r : Int)) / 2 = (h : Int) := by omega
            have zu : IntKind.u64.wrap ((s : Int) + (r : Int)) = (s : Int) + (r : Int) := u64_in (by omega) (by omega)
            have zw : IntKind.i64.wrap (h : Int) = (h : Int) := IntWalk.i64_in _ (by omega)
            obtain ⟨y4, y5⟩ := half_in hh hlt
            obtain ⟨u, hu⟩ : ∃ u : Nat, u + h = p := ⟨p - h, by omega⟩
            have y6 : (h : Int) < (n : Int) := by omega
            have y7 : (u : Int) < (n : Int) := by omega
            have y8 : (p : Int) - (h : Int) = (u : Int) := by omega
            have y9 : IntKind.i64.wrap (u : Int) = (u : Int) := IntWalk.i64_in _ (by omega)
            have y10 : u < n := by omega
            have y11 : h < n := by omega
            clear hh hu
            go_wp2_with fail
            obtain ⟨i1, n1, r1, k1, o1, hx, a0, a1, a2, a3, a4⟩ := hS.out.fu (p := u) (by omega)
            obtain ⟨i2, n2, r2, k2, o2, hy, b0, b1, b2, b3, b4⟩ := hS.out.fu (p := h) (by omega)
            have hSd := Lib.hid (hS.out.below (grow_drew wr))
            have hC := Lib.hid (HC.out wr.drew i1 n1 r1 k1 o1 i2 n2 r2 k2 o2 hSd.out.hf)
            clear hx hy hS
            obtain ⟨cv, hcv⟩ : ∃ cv, cmpN i1 i2 = cv := ⟨_, rfl⟩
            rw [hcv] at hC
            clear hcv
            by_cases hlt0 : cv < 0
            case pos =>
              have d2 : decide (cv < 0) = true := decide_eq_true hlt0
              clear hlt0
              go_wp2_with fail
              go_still_tail 11, (by kernel_rfl)
              change wpList _ _ _ _ _ wr.drew
              clear a0 a1 a2 a3 a4 b0 b1 b2 b3 b4
              generalize wr.drew = wd at *
              go_wp2_with fail
              refine hC.out.mono ?_
              rintro e w4 ⟨rfl, hb4⟩
              replace hSd := Lib.hid (hSd.out.below hb4)
              clear hb4 hC
              go_wp2
              go_roundw
              case rel => exact ⟨s, h, rfl, rfl, ⟨by omega, by omega, by omega⟩, hSd.out⟩
              case measure => simp [intOf]; omega
            case neg =>
              have d2 : decide (cv < 0) = false := decide_eq_false hlt0
              clear hlt0
              go_wp2_with fail
              go_still_tail 11, (by kernel_rfl)
              change wpList _ _ _ _ _ wr.drew
              clear a0 a1 a2 a3 a4 b0 b1 b2 b3 b4
              generalize wr.drew = wd at *
              go_wp2_with fail
              refine hC.out.mono ?_
              rintro e w4 ⟨rfl, hb4⟩
              replace hSd := Lib.hid (hSd.out.below hb4)
              clear hb4 hC
              go_wp2
              go_roundw
              case rel => exact ⟨h + 1, r, by go_num, rfl, ⟨by omega, by omega, by omega⟩, hSd.out⟩
              case measure => simp [intOf]; omega
          case neg =>
            have d0 : decide (s < r) = false := decide_eq_false hlt
            obtain ⟨e, he⟩ : ∃ e : Nat, e + s = P := ⟨P - s, by omega⟩
            have q7 : (P : Int) - (s : Int) = (e : Int) := by omega
            have q8 : IntKind.i64.wrap (e : Int) = (e : Int) := IntWalk.i64_in _ (by omega)
            have f9 : e + s ≤ P := by omega
            have f10 : P ≤ e + s := by omega
            clear he
            by_cases hA : s < m ∧ m < e
            case pos =>
              by_cases hB : a < s
              case pos =>
                by_cases hE : e < b
                case pos =>
                  as_aux_lemma =>
                    have D0 : decide (s < m) = true := decide_eq_true (by omega)
                    have D1 : decide (m < e) = true := decide_eq_true (by omega)
                    have D2 : decide (s < mid) = true := decide_eq_true (by omega)
                    have D3 : decide (mid < e) = true := decide_eq_true (by omega)
                    have D4 : decide (a < s) = true := decide_eq_true (by omega)
                    have D5 : decide (e < b) = true := decide_eq_true (by omega)
                    go_wp2_with fail
                    refine (HR.out _ _ s m e (hS.out.start) (by omega) (by omega) (by omega)).mono ?_
                    rintro e2 w5 ⟨rfl, l2, hS2⟩
                    replace hS := Lib.hid (hS.out.trans hS2)
                    clear hS2
                    go_wp2_with fail
                    refine (HI.out _ _ a s mid (by omega) (by omega) (by omega) (by omega) (hS.out.start)).mono ?_
                    rintro e2 w5 ⟨rfl, l2, hS2⟩
                    replace hS := Lib.hid (hS.out.trans hS2)
                    clear hS2
                    go_wp2_with fail
                    refine (HI.out _ _ mid e b (by omega) (by omega) (by omega) (by omega) (hS.out.start)).mono ?_
                    rintro e2 w5 ⟨rfl, l2, hS2⟩
                    replace hS := Lib.hid (hS.out.trans hS2)
                    clear hS2
                    go_wp2_with fail
                    go_end0
                    exact ⟨rfl, _, hS.out⟩
                case neg =>
                  as_aux_lemma =>
                    have D0 : decide (s < m) = true := decide_eq_true (by omega)
                    have D1 : decide (m < e) = true := decide_eq_true (by omega)
                    have D2 : decide (s < mid) = true := decide_eq_true (by omega)
                    have D3 : decide (mid < e) = true := decide_eq_true (by omega)
                    have D4 : decide (a < s) = true := decide_eq_true (by omega)
                    have D5 : decide (e < b) = false := decide_eq_false (by omega)
                    go_wp2_with fail
                    refine (HR.out _ _ s m e (hS.out.start) (by omega) (by omega) (by omega)).mono ?_
                    rintro e2 w5 ⟨rfl, l2, hS2⟩
                    replace hS := Lib.hid (hS.out.trans hS2)
                    clear hS2
                    go_wp2_with fail
                    refine (HI.out _ _ a s mid (by omega) (by omega) (by omega) (by omega) (hS.out.start)).mono ?_
                    rintro e2 w5 ⟨rfl, l2, hS2⟩
                    replace hS := Lib.hid (hS.out.trans hS2)
                    clear hS2
                    go_wp2_with fail
                    go_end0
                    exact ⟨rfl, _, hS.out⟩
              case neg =>
                by_cases hE : e < b
                case pos =>
                  as_aux_lemma =>
                    have D0 : decide (s < m) = true := decide_eq_true (by omega)
                    have D1 : decide (m < e) = true := decide_eq_true (by omega)
                    have D2 : decide (s < mid) = true := decide_eq_true (by omega)
                    have D3 : decide (mid < e) = true := decide_eq_true (by omega)
                    have D4 : decide (a < s) = false := decide_eq_false (by omega)
                    have D5 : decide (e < b) = true := decide_eq_true (by omega)
                    go_wp2_with fail
                    refine (HR.out _ _ s m e (hS.out.start) (by omega) (by omega) (by omega)).mono ?_
                    rintro e2 w5 ⟨rfl, l2, hS2⟩
                    replace hS := Lib.hid (hS.out.trans hS2)
                    clear hS2
                    go_wp2_with fail
                    refine (HI.out _ _ mid e b (by omega) (by omega) (by omega) (by omega) (hS.out.start)).mono ?_
                    rintro e2 w5 ⟨rfl, l2, hS2⟩
                    replace hS := Lib.hid (hS.out.trans hS2)
                    clear hS2
                    go_wp2_with fail
                    go_end0
                    exact ⟨rfl, _, hS.out⟩
                case neg =>
                  as_aux_lemma =>
                    have D0 : decide (s < m) = true := decide_eq_true (by omega)
                    have D1 : decide (m < e) = true := decide_eq_true (by omega)
                    have D2 : decide (s < mid) = true := decide_eq_true (by omega)
                    have D3 : decide (mid < e) = true := decide_eq_true (by omega)
                    have D4 : decide (a < s) = false := decide_eq_false (by omega)
                    have D5 : decide (e < b) = false := decide_eq_false (by omega)
                    go_wp2_with fail
                    refine (HR.out _ _ s m e (hS.out.start) (by omega) (by omega) (by omega)).mono ?_
                    rintro e2 w5 ⟨rfl, l2, hS2⟩
                    replace hS := Lib.hid (hS.out.trans hS2)
                    clear hS2
                    go_wp2_with fail
                    go_end0
                    exact ⟨rfl, _, hS.out⟩
            case neg =>
              as_aux_lemma =>
                have D0 : decide (s < m) = true := decide_eq_true (by omega)
                have D1 : decide (m < e) = false := decide_eq_false (by omega)
                have D2 : decide (a < s) = true := decide_eq_true (by omega)
                have D3 : decide (s < mid) = false := decide_eq_false (by omega)
                have D4 : decide (mid < e) = true := decide_eq_true (by omega)
                have D5 : decide (e < b) = true := decide_eq_true (by omega)
                go_wp2_with fail
                refine (HI.out _ _ mid e b (by omega) (by omega) (by omega) (by omega) (hS.out.start)).mono ?_
                rintro e2 w5 ⟨rfl, l2, hS2⟩
                replace hS := Lib.hid (hS.out.trans hS2)
                clear hS2
                go_wp2_with fail
                go_end0
                exact ⟨rfl, _, hS.out⟩
      case neg =>
        have d9 : decide (mid < m) = false := decide_eq_false hmm
        go_enter Tryz.func107, Tryz.ntmps107
        go_wp2_with fail
        go_loopw [20, 21] (fun sv rv wr => ∃ s r : Nat, sv = .int .i64 s ∧ rv = .int .i64 r ∧ Hid (a ≤ s ∧ s ≤ r ∧ r ≤ m) ∧ Hid (So B w wr g c n Bf fv l)) (fun sv rv _ => (intOf rv).toNat - (intOf sv).toNat)
        case atStart => exact ⟨a, m, rfl, rfl, ⟨Nat.le_refl _, by omega, Nat.le_refl _⟩, H.out⟩
        case round =>
          clear H z1 z0 zh zu zw q1 q2
          obtain ⟨s, r, rfl, rfl, hij, hS⟩ := hrel
          obtain ⟨y1, y2, y3⟩ := hij.out
          by_cases hlt : s < r
          case pos =>
            have d0 : decide (s < r) = true := decide_eq_true hlt
            obtain ⟨h, hh⟩ : ∃ h : Nat, h = (s + r) / 2 := ⟨_, rfl⟩
            have zh : ((s : Int) + (r : Int)) / 2 = (h : Int) := by omega
            have zu : IntKind.u64.wrap ((s : Int) + (r : Int)) = (s : Int) + (r : Int) := u64_in (by omega) (by omega)
            have zw : IntKind.i64.wrap (h : Int) = (h : Int) := IntWalk.i64_in _ (by omega)
            obtain ⟨y4, y5⟩ := half_in hh hlt
            obtain ⟨u, hu⟩ : ∃ u : Nat, u + h = p := ⟨p - h, by omega⟩
            have y6 : (h : Int) < (n : Int) := by omega
            have y7 : (u : Int) < (n : Int) := by omega
            have y8 : (p : Int) - (h : Int) = (u : Int) := by omega
            have y9 : IntKind.i64.wrap (u : Int) = (u : Int) := IntWalk.i64_in _ (by omega)
            have y10 : u < n := by omega
            have y11 : h < n := by omega
            clear hh hu
            go_wp2_with fail
            obtain ⟨i1, n1, r1, k1, o1, hx, a0, a1, a2, a3, a4⟩ := hS.out.fu (p := u) (by omega)
            obtain ⟨i2, n2, r2, k2, o2, hy, b0, b1, b2, b3, b4⟩ := hS.out.fu (p := h) (by omega)
            have hSd := Lib.hid (hS.out.below (grow_drew wr))
            have hC := Lib.hid (HC.out wr.drew i1 n1 r1 k1 o1 i2 n2 r2 k2 o2 hSd.out.hf)
            clear hx hy hS
            obtain ⟨cv, hcv⟩ : ∃ cv, cmpN i1 i2 = cv := ⟨_, rfl⟩
            rw [hcv] at hC
            clear hcv
            by_cases hlt0 : cv < 0
            case pos =>
              have d2 : decide (cv < 0) = true := decide_eq_true hlt0
              clear hlt0
              go_wp2_with fail
              go_still_tail 11, (by kernel_rfl)
              change wpList _ _ _ _ _ wr.drew
              clear a0 a1 a2 a3 a4 b0 b1 b2 b3 b4
              generalize wr.drew = wd at *
              go_wp2_with fail
              refine hC.out.mono ?_
              rintro e w4 ⟨rfl, hb4⟩
              replace hSd := Lib.hid (hSd.out.below hb4)
              clear hb4 hC
              go_wp2
              go_roundw
              case rel => exact ⟨s, h, rfl, rfl, ⟨by omega, by omega, by omega⟩, hSd.out⟩
              case measure => simp [intOf]; omega
            case neg =>
              have d2 : decide (cv < 0) = false := decide_eq_false hlt0
              clear hlt0
              go_wp2_with fail
              go_still_tail 11, (by kernel_rfl)
              change wpList _ _ _ _ _ wr.drew
              clear a0 a1 a2 a3 a4 b0 b1 b2 b3 b4
              generalize wr.drew = wd at *
              go_wp2_with fail
              refine hC.out.mono ?_
              rintro e w4 ⟨rfl, hb4⟩
              replace hSd := Lib.hid (hSd.out.below hb4)
              clear hb4 hC
              go_wp2
              go_roundw
              case rel => exact ⟨h + 1, r, by go_num, rfl, ⟨by omega, by omega, by omega⟩, hSd.out⟩
              case measure => simp [intOf]; omega
          case neg =>
            have d0 : decide (s < r) = false := decide_eq_false hlt
            obtain ⟨e, he⟩ : ∃ e : Nat, e + s = P := ⟨P - s, by omega⟩
            have q7 : (P : Int) - (s : Int) = (e : Int) := by omega
            have q8 : IntKind.i64.wrap (e : Int) = (e : Int) := IntWalk.i64_in _ (by omega)
            have f9 : e + s ≤ P := by omega
            have f10 : P ≤ e + s := by omega
            clear he
            by_cases hA : s < m ∧ m < e
            case pos =>
              by_cases hB : a < s
              case pos =>
                by_cases hE : e < b
                case pos =>
                  as_aux_lemma =>
                    have D0 : decide (s < m) = true := decide_eq_true (by omega)
                    have D1 : decide (m < e) = true := decide_eq_true (by omega)
                    have D2 : decide (s < mid) = true := decide_eq_true (by omega)
                    have D3 : decide (mid < e) = true := decide_eq_true (by omega)
                    have D4 : decide (a < s) = true := decide_eq_true (by omega)
                    have D5 : decide (e < b) = true := decide_eq_true (by omega)
                    go_wp2_with fail
                    refine (HR.out _ _ s m e (hS.out.start) (by omega) (by omega) (by omega)).mono ?_
                    rintro e2 w5 ⟨rfl, l2, hS2⟩
                    replace hS := Lib.hid (hS.out.trans hS2)
                    clear hS2
                    go_wp2_with fail
                    refine (HI.out _ _ a s mid (by omega) (by omega) (by omega) (by omega) (hS.out.start)).mono ?_
                    rintro e2 w5 ⟨rfl, l2, hS2⟩
                    replace hS := Lib.hid (hS.out.trans hS2)
                    clear hS2
                    go_wp2_with fail
                    refine (HI.out _ _ mid e b (by omega) (by omega) (by omega) (by omega) (hS.out.start)).mono ?_
                    rintro e2 w5 ⟨rfl, l2, hS2⟩
                    replace hS := Lib.hid (hS.out.trans hS2)
                    clear hS2
                    go_wp2_with fail
                    go_end0
                    exact ⟨rfl, _, hS.out⟩
                case neg =>
                  as_aux_lemma =>
                    have D0 : decide (s < m) = true := decide_eq_true (by omega)
                    have D1 : decide (m < e) = true := decide_eq_true (by omega)
                    have D2 : decide (s < mid) = true := decide_eq_true (by omega)
                    have D3 : decide (mid < e) = true := decide_eq_true (by omega)
                    have D4 : decide (a < s) = true := decide_eq_true (by omega)
                    have D5 : decide (e < b) = false := decide_eq_false (by omega)
                    go_wp2_with fail
                    refine (HR.out _ _ s m e (hS.out.start) (by omega) (by omega) (by omega)).mono ?_
                    rintro e2 w5 ⟨rfl, l2, hS2⟩
                    replace hS := Lib.hid (hS.out.trans hS2)
                    clear hS2
                    go_wp2_with fail
                    refine (HI.out _ _ a s mid (by omega) (by omega) (by omega) (by omega) (hS.out.start)).mono ?_
                    rintro e2 w5 ⟨rfl, l2, hS2⟩
                    replace hS := Lib.hid (hS.out.trans hS2)
                    clear hS2
                    go_wp2_with fail
                    go_end0
                    exact ⟨rfl, _, hS.out⟩
              case neg =>
                by_cases hE : e < b
                case pos =>
                  as_aux_lemma =>
                    have D0 : decide (s < m) = true := decide_eq_true (by omega)
                    have D1 : decide (m < e) = true := decide_eq_true (by omega)
                    have D2 : decide (s < mid) = true := decide_eq_true (by omega)
                    have D3 : decide (mid < e) = true := decide_eq_true (by omega)
                    have D4 : decide (a < s) = false := decide_eq_false (by omega)
                    have D5 : decide (e < b) = true := decide_eq_true (by omega)
                    go_wp2_with fail
                    refine (HR.out _ _ s m e (hS.out.start) (by omega) (by omega) (by omega)).mono ?_
                    rintro e2 w5 ⟨rfl, l2, hS2⟩
                    replace hS := Lib.hid (hS.out.trans hS2)
                    clear hS2
                    go_wp2_with fail
                    refine (HI.out _ _ mid e b (by omega) (by omega) (by omega) (by omega) (hS.out.start)).mono ?_
                    rintro e2 w5 ⟨rfl, l2, hS2⟩
                    replace hS := Lib.hid (hS.out.trans hS2)
                    clear hS2
                    go_wp2_with fail
                    go_end0
                    exact ⟨rfl, _, hS.out⟩
                case neg =>
                  as_aux_lemma =>
                    have D0 : decide (s < m) = true := decide_eq_true (by omega)
                    have D1 : decide (m < e) = true := decide_eq_true (by omega)
                    have D2 : decide (s < mid) = true := decide_eq_true (by omega)
                    have D3 : decide (mid < e) = true := decide_eq_true (by omega)
                    have D4 : decide (a < s) = false := decide_eq_false (by omega)
                    have D5 : decide (e < b) = false := decide_eq_false (by omega)
                    go_wp2_with fail
                    refine (HR.out _ _ s m e (hS.out.start) (by omega) (by omega) (by omega)).mono ?_
                    rintro e2 w5 ⟨rfl, l2, hS2⟩
                    replace hS := Lib.hid (hS.out.trans hS2)
                    clear hS2
                    go_wp2_with fail
                    go_end0
                    exact ⟨rfl, _, hS.out⟩
            case neg =>
              by_cases hB : s < mid
              case pos =>
                as_aux_lemma =>
                  have D0 : decide (s < m) = false := decide_eq_false (by omega)
                  have D1 : decide (a < s) = true := decide_eq_true (by omega)
                  have D2 : decide (s < mid) = true := decide_eq_true (by omega)
                  have D3 : decide (mid < e) = false := decide_eq_false (by omega)
                  go_wp2_with fail
                  refine (HI.out _ _ a s mid (by omega) (by omega) (by omega) (by omega) (hS.out.start)).mono ?_
                  rintro e2 w5 ⟨rfl, l2, hS2⟩
                  replace hS := Lib.hid (hS.out.trans hS2)
                  clear hS2
                  go_wp2_with fail
                  go_end0
                  exact ⟨rfl, _, hS.out⟩
              case neg =>
                as_aux_lemma =>
                  have D0 : decide (s < m) = false := decide_eq_false (by omega)
                  have D1 : decide (a < s) = true := decide_eq_true (by omega)
                  have D2 : decide (s < mid) = false := decide_eq_false (by omega)
                  have D3 : decide (mid < e) = false := decide_eq_false (by omega)
                  go_wp2_with fail
                  -- no call
                  go_end0
                  exact ⟨rfl, _, hS.out⟩
end Go.Proofs.YtnadeddkogapoaaGreatDoor
