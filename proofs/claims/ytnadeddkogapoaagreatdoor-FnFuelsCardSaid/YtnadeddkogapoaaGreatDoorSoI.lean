/- The insertion sort over a block of fuels. Conditions: as each states. -/
import Derived.Test.YtnadeddkogapoaaGreatDoorSo
import Derived.StillTailTactics
import Derived.Deep.RegionHeldLaw
namespace Go.Proofs.YtnadeddkogapoaaGreatDoor
open Go.ChangeShapes Go.WideShapes Go.ChangeAt Go.RowKit Go.Deep
set_option linter.unusedVariables false
set_option linter.unusedSimpArgs false
set_option maxRecDepth 100000

theorem cmpN_neg {a b : Int} : cmpN a b < 0 ↔ a < b := by unfold cmpN; split <;> (try split) <;> omega
/-- An element goes down to its place. -/
def insJ : List Fu → Nat → Nat → List Fu
  | l, _, 0 => l
  | l, a, j + 1 => if a < j + 1 ∧ idF l (j + 1) < idF l j then insJ (swp l (j + 1) j) a j else l
/-- The first elements sorted. -/
def insO (l : List Fu) (a : Nat) : Nat → List Fu
  | 0 => l
  | k + 1 => insJ (insO l a k) a (a + k + 1)
theorem insJ_go {l : List Fu} {a j : Nat} (h1 : a < j + 1) (h2 : idF l (j + 1) < idF l j) : insJ l a (j + 1) = insJ (swp l (j + 1) j) a j := by rw [insJ, if_pos ⟨h1, h2⟩]
theorem insJ_stop {l : List Fu} {a j : Nat} (h : ¬ idF l (j + 1) < idF l j) : insJ l a (j + 1) = l := by rw [insJ, if_neg (fun e => h e.2)]
theorem insJ_end {l : List Fu} {a j : Nat} (h : ¬ a < j) : insJ l a j = l := by
  cases j with
  | zero => rfl
  | succ j => rw [insJ, if_neg (fun e => h e.1)]
/-- A call sorts the block. -/
def RetIns (B : Nat) (w : World) (g c n Bf : Nat) (fv : Value) (l : List Fu) (e : Ending) (w' : World) : Prop := e = .returned (.tuple #[]) ∧ So B w w' g c n Bf fv l
set_option maxHeartbeats 16000000 in
theorem insertion_any (B : Nat) (w : World) (g c n Bf : Nat) (fv : Value) (l : List Fu) (a b : Nat) (gf : Nat) (lb : Array Value) (eg : ∀ args w, (callFunc gf args).run Tryz.prog w = .ok (.enter gf args) w) (hcmp : ∀ (W : World) (i : Int) (n : ByteArray) (r l o i' : Int) (n' : ByteArray) (r' l' o' : Int), W.cell? ⟨Bf, 0, none⟩ = some fv → Calls Tryz.prog gf (#[fuV i n r l o, fuV i' n' r' l' o'] ++ lb) W fun e w' => e = .returned (.int .i64 (cmpN i i')) ∧ Below W.heap.size W w') (h : So B w w g c n Bf fv l) (hab : a ≤ b) (hb : b ≤ n) (hn : n ≤ 2000000) :
    Calls Tryz.prog 106 #[.slice (some ⟨g, 0, none⟩) n c, .int .i64 a, .int .i64 b, .func (.func gf) #[] lb] w (RetIns B w g c n Bf fv (insO l a (b - (a + 1)))) := by
  have H := Lib.hid h
  have HC := Lib.hid hcmp
  have hst : Hid (insO l a 0 = l) := rfl
  clear h hcmp
  go_enter Tryz.func106, Tryz.ntmps106
  go_wp2
  go_loopw [8] (fun iv wr => ∃ i k : Nat, iv = .int .i64 i ∧ Hid (i = a + 1 + k ∧ (k = 0 ∨ i ≤ b)) ∧ Hid (So B w wr g c n Bf fv (insO l a k))) (fun iv _ => b - (intOf iv).toNat)
  case atStart => exact ⟨a + 1, 0, by go_num, ⟨by omega, .inl rfl⟩, by show So _ _ _ _ _ _ _ _ _; rw [hst.out]; exact H.out⟩
  case round =>
    clear H hst
    obtain ⟨i, k, rfl, hik, hS⟩ := hrel
    by_cases hlt : i < b
    case neg =>
      have d0 : decide (i < b) = false := decide_eq_false hlt
      have hk : Hid (b - (a + 1) = k) := by show _ = _; have := hik.out; omega
      rw [hk.out]
      go_wp2
      go_end0
      exact ⟨rfl, hS.out⟩
    case pos =>
      have d0 : decide (i < b) = true := decide_eq_true hlt
      have hgoal : Hid (insJ (insO l a k) a i = insO l a (k + 1)) := by show _ = _; have := hik.out; rw [insO]; congr 1; omega
      have hik2 : Hid (i + 1 = a + 1 + (k + 1) ∧ (k + 1 = 0 ∨ i + 1 ≤ b)) := by have := hik.out; exact ⟨by omega, .inr (by omega)⟩
      have hai : Hid (a ≤ i) := by have := hik.out; show _ ≤ _; omega
      clear hik
      obtain ⟨wo, rfl⟩ : ∃ wo : World, wo = wr := ⟨_, rfl⟩
      go_wp2
      go_loopw [9] (fun jv wr => ∃ j : Nat, ∃ l2 : List Fu, jv = .int .i64 j ∧ Hid (a ≤ j ∧ j ≤ i) ∧ Hid (insJ l2 a j = insO l a (k + 1)) ∧ Hid (So B w wr g c n Bf fv l2)) (fun jv _ => (intOf jv).toNat)
      case atStart => exact ⟨i, insO l a k, rfl, ⟨hai.out, Nat.le_refl _⟩, hgoal.out, hS.out⟩
      case round =>
        clear hS hgoal
        obtain ⟨j, l2, rfl, haj, hI, hS⟩ := hrel
        by_cases hja : a < j
        case neg =>
          have d1 : decide (a < j) = false := decide_eq_false hja
          have hI2 : Hid (l2 = insO l a (k + 1)) := by show _ = _; rw [← hI.out, insJ_end hja]
          replace hS := Lib.hid (hS.out)
          go_wp2_with fail
          go_quiet (fail)
          go_wp2
          go_roundw
          case rel => exact ⟨i + 1, k + 1, by go_num, hik2.out, by show So _ _ _ _ _ _ _ _ _; rw [← hI2.out]; exact hS.out.below (grow_drewN _ _)⟩
          case measure => simp [intOf]; omega
        case pos =>
          have d1 : decide (a < j) = true := decide_eq_true hja
          obtain ⟨q, hq0⟩ : ∃ q : Nat, q + 1 = j := ⟨j - 1, by omega⟩
          have hp : j < n := by have := haj.out; omega
          have hq : q < n := by omega
          have m1 : (j : Int) - 1 = (q : Int) := by omega
          have m2 : IntKind.i64.wrap (q : Int) = (q : Int) := IntWalk.i64_in _ (by omega)
          have m3 : (q : Int) < (n : Int) := by omega
          have m4 : (j : Int) < (n : Int) := by omega
          have haq : Hid (a ≤ q ∧ q ≤ i) := by have := haj.out; exact ⟨by omega, by omega⟩
          have hqj : q < j := by omega
          obtain ⟨i1, n1, r1, k1, o1, hx, a0, a1, a2, a3, a4⟩ := hS.out.fu hp
          obtain ⟨i2, n2, r2, k2, o2, hy, b0, b1, b2, b3, b4⟩ := hS.out.fu hq
          have e1 := idF_at hx
          have e2 := idF_at hy
          have hSd := Lib.hid (hS.out.below (grow_drew wr))
          have hC := Lib.hid (HC.out wr.drew i1 n1 r1 k1 o1 i2 n2 r2 k2 o2 hSd.out.hf)
          have HG := Lib.hid fun (h1 : a < q + 1) h2 => insJ_go (l := l2) (a := a) (j := q) h1 h2
          have HS := Lib.hid fun h => insJ_stop (l := l2) (a := a) (j := q) h
          rw [hq0, e1, e2] at HG HS
          clear hx hy e1 e2 hq0 haj hai hS
          by_cases hc : i1 < i2
          case neg =>
            have d2 : decide (cmpN i1 i2 < 0) = false := decide_eq_false (fun e => hc (cmpN_neg.1 e))
            have hI2 : Hid (l2 = insO l a (k + 1)) := by show _ = _; rw [← hI.out, HS.out hc]
            generalize cmpN i1 i2 = cv at *
            clear HG HS hI
            go_wp2_with fail
            go_still_tail 14, (by kernel_rfl)
            change wpList _ _ _ _ _ wr.drew
            clear a0 a1 a2 a3 a4 b0 b1 b2 b3 b4
            generalize wr.drew = wd at *
            go_wp2_with fail
            refine hC.out.mono ?_
            rintro e w4 ⟨rfl, hb4⟩
            replace hSd := Lib.hid (hSd.out.below hb4)
            clear hb4 hC
            go_wp2
            go_roundw
            case rel => exact ⟨i + 1, k + 1, by go_num, hik2.out, by show So _ _ _ _ _ _ _ _ _; rw [← hI2.out]; exact hSd.out⟩
            case measure => simp [intOf]; omega
          case pos =>
            have d2 : decide (cmpN i1 i2 < 0) = true := decide_eq_true (cmpN_neg.2 hc)
            have hI2 : Hid (insJ (swp l2 j q) a q = insO l a (k + 1)) := by show _ = _; rw [← hI.out, HG.out (by omega) hc]
            generalize cmpN i1 i2 = cv at *
            clear HG HS hI hc
            go_wp2_with fail
            go_still_tail 14, (by kernel_rfl)
            change wpList _ _ _ _ _ wr.drew
            clear a0 a1 a2 a3 a4 b0 b1 b2 b3 b4
            generalize wr.drew = wd at *
            go_wp2_with fail
            refine hC.out.mono ?_
            rintro e w4 ⟨rfl, hb4⟩
            have hS := Lib.hid (hSd.out.below hb4)
            clear hb4 hC hSd
            obtain ⟨wr, rfl⟩ : ∃ wr : World, wr = w4 := ⟨_, rfl⟩
            go_wp2_with fail
            have hSd := hS.out.below (grow_drew wr)
            refine wp_region_held_drew (S := fun W => True) (by kernel_rfl) trivial (fun hHeld => ?_)
            generalize wr.drew = Wd at *
            obtain ⟨i1, n1, r1, k1, o1, hx, a0, a1, a2, a3, a4⟩ := hSd.fu (p := j) hp
            obtain ⟨i2, n2, r2, k2, o2, hy, b0, b1, b2, b3, b4⟩ := hSd.fu (p := q) hq
            have hz1 := hSd.hm _ (List.mem_of_getElem? hx)
            have hz2 := hSd.hm _ (List.mem_of_getElem? hy)
            have hsw := Lib.hid (swp_at hx hy)
            simp only at hz1 hz2
            clear hx hy
            refine wpAnyH_take (i := 0) (v := ?_) rfl (by kernel_rfl) (by kernel_rfl) (by kernel_rfl) (fun _ _ _ h => h) (Or.inl ⟨by rfl, ?_⟩) (by assumption) ?_
            rotate_left
            · intro w hSw
              try dsimp only at hSw
              go_simp
              try (with_reducible rfl)
            try simp only [Act.put, List.setIfInBounds_toArray, List.set_cons_zero, List.set_cons_succ]
            refine wpAnyH_take (i := 1) (v := ?_) rfl (by kernel_rfl) (by kernel_rfl) (by kernel_rfl) (fun _ _ _ h => h) (Or.inl ⟨by rfl, ?_⟩) (by assumption) ?_
            rotate_left
            · intro w hSw
              try dsimp only at hSw
              go_simp
              try (with_reducible rfl)
            try simp only [Act.put, List.setIfInBounds_toArray, List.set_cons_zero, List.set_cons_succ]
            refine wpAnyH_take (i := 2) (v := ?_) rfl (by kernel_rfl) (by kernel_rfl) (by kernel_rfl) (fun _ _ _ h => h) (Or.inl ⟨by rfl, ?_⟩) (by assumption) ?_
            rotate_left
            · intro w hSw
              try dsimp only at hSw
              go_simp
              try (with_reducible rfl)
            try simp only [Act.put, List.setIfInBounds_toArray, List.set_cons_zero, List.set_cons_succ]
            refine wpAnyH_take (i := 3) (v := ?_) rfl (by kernel_rfl) (by kernel_rfl) (by kernel_rfl) (fun _ _ _ h => h) (Or.inl ⟨by rfl, ?_⟩) (by assumption) ?_
            rotate_left
            · intro w hSw
              try dsimp only at hSw
              go_simp
              try (with_reducible rfl)
            try simp only [Act.put, List.setIfInBounds_toArray, List.set_cons_zero, List.set_cons_succ]
            refine wpAnyH_take (i := 4) (v := ?_) rfl (by kernel_rfl) (by kernel_rfl) (by kernel_rfl) (fun _ _ _ h => h) (Or.inl ⟨by rfl, ?_⟩) (by assumption) ?_
            rotate_left
            · intro w hSw
              try dsimp only at hSw
              go_simp
              try (with_reducible rfl)
            try simp only [Act.put, List.setIfInBounds_toArray, List.set_cons_zero, List.set_cons_succ]
            refine wpAnyH_take (i := 5) (v := ?_) rfl (by kernel_rfl) (by kernel_rfl) (by kernel_rfl) (fun _ _ _ h => h) (Or.inl ⟨by rfl, ?_⟩) (by assumption) ?_
            rotate_left
            · intro w hSw
              try dsimp only at hSw
              go_simp
              try (with_reducible rfl)
            try simp only [Act.put, List.setIfInBounds_toArray, List.set_cons_zero, List.set_cons_succ]
            refine wpAnyH_take (i := 6) (v := ?_) rfl (by kernel_rfl) (by kernel_rfl) (by kernel_rfl) (fun _ _ _ h => h) (Or.inl ⟨by rfl, ?_⟩) (by assumption) ?_
            rotate_left
            · intro w hSw
              try dsimp only at hSw
              go_simp
              try (with_reducible rfl)
            try simp only [Act.put, List.setIfInBounds_toArray, List.set_cons_zero, List.set_cons_succ]
            refine wpAnyH_take (i := 7) (v := ?_) rfl (by kernel_rfl) (by kernel_rfl) (by kernel_rfl) (fun _ _ _ h => h) (Or.inl ⟨by rfl, ?_⟩) (by assumption) ?_
            rotate_left
            · intro w hSw
              try dsimp only at hSw
              go_simp
              try (with_reducible rfl)
            try simp only [Act.put, List.setIfInBounds_toArray, List.set_cons_zero, List.set_cons_succ]
            refine wpAnyH_take (i := 8) (v := ?_) rfl (by kernel_rfl) (by kernel_rfl) (by kernel_rfl) (fun _ _ _ h => h) (Or.inl ⟨by rfl, ?_⟩) (by assumption) ?_
            rotate_left
            · intro w hSw
              try dsimp only at hSw
              go_simp
              try (with_reducible rfl)
            try simp only [Act.put, List.setIfInBounds_toArray, List.set_cons_zero, List.set_cons_succ]
            refine wpAnyH_take (i := 10) (v := ?_) rfl (by kernel_rfl) (by kernel_rfl) (by kernel_rfl) (fun _ _ _ h => h) (Or.inl ⟨by rfl, ?_⟩) (by assumption) ?_
            rotate_left
            · intro w hSw
              try dsimp only at hSw
              go_simp
              try (with_reducible rfl)
            try simp only [Act.put, List.setIfInBounds_toArray, List.set_cons_zero, List.set_cons_succ]
            refine wpAnyH_take (i := 11) (v := ?_) rfl (by kernel_rfl) (by kernel_rfl) (by kernel_rfl) (fun _ _ _ h => h) (Or.inl ⟨by rfl, ?_⟩) (by assumption) ?_
            rotate_left
            · intro w hSw
              try dsimp only at hSw
              go_simp
              try (with_reducible rfl)
            try simp only [Act.put, List.setIfInBounds_toArray, List.set_cons_zero, List.set_cons_succ]
            refine wpAnyH_take (i := 12) (v := ?_) rfl (by kernel_rfl) (by kernel_rfl) (by kernel_rfl) (fun _ _ _ h => h) (Or.inl ⟨by rfl, ?_⟩) (by assumption) ?_
            rotate_left
            · intro w hSw
              try dsimp only at hSw
              go_simp
              try (with_reducible rfl)
            try simp only [Act.put, List.setIfInBounds_toArray, List.set_cons_zero, List.set_cons_succ]
            refine wpAnyH_ready (rs := [9, 13]) (by kernel_rfl) (by simp) ?_
            refine AllReadyH.cons rfl (fun K hK => ?_) (AllReadyH.cons rfl (fun K hK => ?_) AllReadyH.nil)
            · skip
              go_simp
              refine hK.out _ _ trivial (fun hHeld => ?_)
              clear hK K
              refine wpAnyH_ready (rs := [13]) (by kernel_rfl) (by simp) ?_
              refine AllReadyH.cons rfl (fun K hK => ?_) AllReadyH.nil
              go_simp
              refine hK.out _ _ trivial (fun hHeld => ?_)
              clear hK K
              refine wpAnyH_take (i := 14) (v := ?_) rfl (by kernel_rfl) (by kernel_rfl) (by kernel_rfl) (fun _ _ _ h => h) (Or.inl ⟨by rfl, ?_⟩) (by assumption) ?_
              rotate_left
              · intro w hSw
                try dsimp only at hSw
                go_simp
                try (with_reducible rfl)
              try simp only [Act.put, List.setIfInBounds_toArray, List.set_cons_zero, List.set_cons_succ]
              refine wpAnyH_ready (rs := [15]) (by kernel_rfl) (by simp) ?_
              refine AllReadyH.cons rfl (fun K hK => ?_) AllReadyH.nil
              obtain ⟨⟨⟨_, e0⟩, f0⟩, ⟨⟨_, e1⟩, f1⟩, ⟨⟨_, e2⟩, f2⟩, ⟨⟨_, e3⟩, f3⟩, ⟨⟨_, e4⟩, f4⟩, hS1⟩ := hSd.put (p := j) hp i2 n2 r2 k2 o2 hz2
              clear a0 a1 a2 a3 a4 b0 b1 b2 b3 b4
              go_simp
              clear e0 e1 e2 e3 e4 f0 f1 f2 f3 f4
              generalize World.setCell _ ⟨g, j * 5 + 4, none⟩ _ = V1 at *
              refine hK.out _ _ trivial (fun hHeld => ?_)
              clear hK K
              refine wpAnyH_take (i := 16) (v := ?_) rfl (by kernel_rfl) (by kernel_rfl) (by kernel_rfl) (fun _ _ _ h => h) (Or.inl ⟨by rfl, ?_⟩) (by assumption) ?_
              rotate_left
              · intro w hSw
                try dsimp only at hSw
                go_simp
                try (with_reducible rfl)
              try simp only [Act.put, List.setIfInBounds_toArray, List.set_cons_zero, List.set_cons_succ]
              refine wpAnyH_ready (rs := [17]) (by kernel_rfl) (by simp) ?_
              refine AllReadyH.cons rfl (fun K hK => ?_) AllReadyH.nil
              obtain ⟨⟨⟨_, e0⟩, f0⟩, ⟨⟨_, e1⟩, f1⟩, ⟨⟨_, e2⟩, f2⟩, ⟨⟨_, e3⟩, f3⟩, ⟨⟨_, e4⟩, f4⟩, hS2⟩ := hS1.put (p := q) hq i1 n1 r1 k1 o1 hz1
              go_simp
              clear e0 e1 e2 e3 e4 f0 f1 f2 f3 f4
              generalize World.setCell _ ⟨g, q * 5 + 4, none⟩ _ = V2 at *
              refine hK.out _ _ trivial (fun hHeld => ?_)
              clear hK K
              refine wpAnyH_done (by kernel_rfl) ?_ _
              rw [← hsw.out] at hS2
              replace hS2 := Lib.hid hS2
              clear hS1 hSd hHeld hsw hS
              go_wp2
              go_roundw
              case rel => exact ⟨q, _, rfl, haq.out, hI2.out, hS2.out⟩
              case measure => simp [intOf]; omega
            · skip
              go_simp
              refine hK.out _ _ trivial (fun hHeld => ?_)
              clear hK K
              refine wpAnyH_ready (rs := [9]) (by kernel_rfl) (by simp) ?_
              refine AllReadyH.cons rfl (fun K hK => ?_) AllReadyH.nil
              go_simp
              refine hK.out _ _ trivial (fun hHeld => ?_)
              clear hK K
              refine wpAnyH_take (i := 14) (v := ?_) rfl (by kernel_rfl) (by kernel_rfl) (by kernel_rfl) (fun _ _ _ h => h) (Or.inl ⟨by rfl, ?_⟩) (by assumption) ?_
              rotate_left
              · intro w hSw
                try dsimp only at hSw
                go_simp
                try (with_reducible rfl)
              try simp only [Act.put, List.setIfInBounds_toArray, List.set_cons_zero, List.set_cons_succ]
              refine wpAnyH_ready (rs := [15]) (by kernel_rfl) (by simp) ?_
              refine AllReadyH.cons rfl (fun K hK => ?_) AllReadyH.nil
              obtain ⟨⟨⟨_, e0⟩, f0⟩, ⟨⟨_, e1⟩, f1⟩, ⟨⟨_, e2⟩, f2⟩, ⟨⟨_, e3⟩, f3⟩, ⟨⟨_, e4⟩, f4⟩, hS1⟩ := hSd.put (p := j) hp i2 n2 r2 k2 o2 hz2
              clear a0 a1 a2 a3 a4 b0 b1 b2 b3 b4
              go_simp
              clear e0 e1 e2 e3 e4 f0 f1 f2 f3 f4
              generalize World.setCell _ ⟨g, j * 5 + 4, none⟩ _ = V1 at *
              refine hK.out _ _ trivial (fun hHeld => ?_)
              clear hK K
              refine wpAnyH_take (i := 16) (v := ?_) rfl (by kernel_rfl) (by kernel_rfl) (by kernel_rfl) (fun _ _ _ h => h) (Or.inl ⟨by rfl, ?_⟩) (by assumption) ?_
              rotate_left
              · intro w hSw
                try dsimp only at hSw
                go_simp
                try (with_reducible rfl)
              try simp only [Act.put, List.setIfInBounds_toArray, List.set_cons_zero, List.set_cons_succ]
              refine wpAnyH_ready (rs := [17]) (by kernel_rfl) (by simp) ?_
              refine AllReadyH.cons rfl (fun K hK => ?_) AllReadyH.nil
              obtain ⟨⟨⟨_, e0⟩, f0⟩, ⟨⟨_, e1⟩, f1⟩, ⟨⟨_, e2⟩, f2⟩, ⟨⟨_, e3⟩, f3⟩, ⟨⟨_, e4⟩, f4⟩, hS2⟩ := hS1.put (p := q) hq i1 n1 r1 k1 o1 hz1
              go_simp
              clear e0 e1 e2 e3 e4 f0 f1 f2 f3 f4
              generalize World.setCell _ ⟨g, q * 5 + 4, none⟩ _ = V2 at *
              refine hK.out _ _ trivial (fun hHeld => ?_)
              clear hK K
              refine wpAnyH_done (by kernel_rfl) ?_ _
              rw [← hsw.out] at hS2
              replace hS2 := Lib.hid hS2
              clear hS1 hSd hHeld hsw hS
              go_wp2
              go_roundw
              case rel => exact ⟨q, _, rfl, haq.out, hI2.out, hS2.out⟩
              case measure => simp [intOf]; omega
end Go.Proofs.YtnadeddkogapoaaGreatDoor
