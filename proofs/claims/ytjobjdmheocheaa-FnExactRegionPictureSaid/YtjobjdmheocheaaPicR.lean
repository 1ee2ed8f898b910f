/- RegionPicture in the program and in the reference. Conditions: as each states. -/
import Derived.Test.YtjobjdmheocheaaPic
import Derived.IntWalk
namespace Go.Proofs.Ytjobjdmheocheaa
open Go.ChangeShapes Go.WideShapes Go.ChangeAt Go.RowKit Go.Deep
set_option linter.unusedVariables false
set_option linter.unusedSimpArgs false
set_option maxRecDepth 100000

/-- A text and whether there is one. -/
def strR (b : Bool) (l : List UInt8) : Value := if b then .tuple #[.string (bs l), .bool true] else .tuple #[.string (bs []), .bool false]
theorem strR_shape (b : Bool) (l : List UInt8) : ∃ m c, strR b l = .tuple #[.string m, .bool c] := by cases b <;> exact ⟨_, _, rfl⟩
/-- The letter of a cell in a region's picture. -/
def regF (xs : List Int) (k : Nat) : UInt8 := if hasB xs k then 35 else 46
theorem callFunc_rpic : ∀ args w, (callFunc 76 args).run Try.prog w = .ok (.enter 76 args) w := fun _ _ => by rfl
theorem rpic1_any (va : Value) (xs : List Int) (C : Nat) (k : Nat) (w : World) (hc : w.cell? ⟨C, 0, none⟩ = some va) (ha : Sl w 1 va xs.length (ints xs)) :
    Calls Try.prog 76 #[.int .i64 k, .pointer (some ⟨C, 0, none⟩)] w fun e w' => e = .returned (.int .u8 ((regF xs k).toNat : Int)) ∧ Below w.heap.size w w' := by
  have HA := Lib.hid (has_any va xs k w ha)
  have HR : Hid (regF xs k = if hasB xs k then 35 else 46) := rfl
  obtain ⟨A, c, rfl⟩ := ha.val
  clear ha
  generalize regF xs k = R at *
  cases hp : hasB xs k <;> rw [hp] at HA HR <;> clear hp
  all_goals
    go_enter Try.func76, Try.ntmps76
    go_wp2_with fail
    with_reducible refine HA.out.mono ?_
    rintro e w1 ⟨rfl, rfl⟩
    go_wp2
    go_ret
    exact ⟨by rw [HR.out]; rfl, Below.refl _ _⟩
set_option maxHeartbeats 2000000 in
theorem RegionPicture_any (x y : Int) (u : Value) (zs : List Int) (va : Value) (xs : List Int) (w : World) (h : Sl w 1 u zs.length (ints zs)) (ha : Sl w 1 va xs.length (ints xs)) :
    Calls Try.prog 36 #[terrV x y u, va] w fun e w' => e = .returned (strR (oneB x y zs xs) (pic x (regF xs) zs.length)) ∧ Below w.heap.size w w' := by
  obtain ⟨A, c, rfl⟩ := h.val
  obtain ⟨Aa, ca, rfl⟩ := ha.val
  generalize hW1 : (w.alloc (.cells #[.int .i64 x, .int .i64 y, .slice A zs.length c] 28)).alloc (.cells #[.slice Aa xs.length ca] 22) = W1
  have Hb1 : Hid (Below w.heap.size w W1) := by rw [← hW1]; exact two_news _ _ _
  have HW1 := Lib.hid hW1
  have hcR : Hid (W1.cell? ⟨w.heap.size + 1, 0, none⟩ = some (.slice Aa xs.length ca)) := by show _ = _; rw [← hW1]; simp [go_sem]
  have hsW : Hid (W1.heap.size = w.heap.size + 2) := by show _ = _; rw [← hW1]; simp
  clear hW1
  have Hb2 : Hid (Below w.heap.size w (W1.alloc (.cells #[.slice Aa xs.length ca] 22))) := grow_trans Hb1.out (grow_alloc _ _)
  have hv : Hid (Sl (W1.alloc (.cells #[.slice Aa xs.length ca] 22)) 1 (.slice (some ⟨w.heap.size + 2, 0, none⟩) 1 1) 1 [.slice Aa xs.length ca]) := by
    show Sl _ _ _ _ _
    have := Sl.boxAt (x := .slice Aa xs.length ca) (hp0 W1 (.cells #[.slice Aa xs.length ca] 22))
    rw [hsW.out] at this
    exact this
  have HR := Lib.hid (isRegion_one x y _ zs _ _ xs (W1.alloc (.cells #[.slice Aa xs.length ca] 22)) (h.below Hb2.out) hv.out (ha.below Hb2.out))
  have HF : Hid (oneB x y zs xs = true → ∀ W, Below W1.heap.size W1 W → Calls Try.prog 75 #[terrV x y (.slice A zs.length c), .func (.func 76) #[] #[.pointer (some ⟨w.heap.size + 1, 0, none⟩)]] W fun e w' => e = .returned (.string (bs (pic x (regF xs) zs.length))) ∧ Below W.heap.size W w') := by
    show _ → _
    intro hT W hW
    obtain ⟨⟨hx1, hx2⟩, hzl, hr1, hr2, hxl⟩ := one_facts hT
    exact picture_any x y (.slice A zs.length c) zs 76 #[] #[.pointer (some ⟨w.heap.size + 1, 0, none⟩)] (regF xs) W (h.below (Hb1.out.trans (hW.mono Hb1.out.size))) hx1 hx2 hzl callFunc_rpic
      (fun W' k hk hW' => by
        have hb3 := grow_trans hW hW'
        have := rpic1_any _ xs (w.heap.size + 1) k W' (cell_below hcR.out hb3) (ha.below (Hb1.out.trans (hb3.mono Hb1.out.size)))
        simpa using this)
  clear hv h ha hcR
  generalize oneB x y zs xs = T at *
  generalize pic x (regF xs) zs.length = L at *
  generalize zs.length = N at *
  generalize xs.length = M at *
  have hnew : Hid (Below W1.heap.size W1 (W1.alloc (.cells #[.slice Aa M ca] 22))) := grow_alloc _ _
  clear hsW Hb1
  have hW1 := HW1.out
  subst hW1
  clear HW1
  cases T
  · go_enter Try.func36, Try.ntmps36
    go_wp2_with fail
    with_reducible refine HR.out.mono ?_
    rintro e w1 ⟨rfl, hb1⟩
    have hb1 := Lib.hid (grow_trans Hb2.out hb1)
    go_wp2
    go_ret2
    exact ⟨rfl, hb1.out⟩
  · have HG := Lib.hid (HF.out rfl)
    clear HF
    go_enter Try.func36, Try.ntmps36
    go_wp2_with fail
    with_reducible refine HR.out.mono ?_
    rintro e w1 ⟨rfl, hb1⟩
    have hc := (bcell hb1).1
    have hb1' := Lib.hid (grow_trans hnew.out hb1)
    have hb2 := Lib.hid (grow_trans Hb2.out hb1)
    clear hb1
    go_wp2_with fail
    with_reducible refine (HG.out _ hb1'.out).mono ?_
    rintro e w2 ⟨rfl, hb3⟩
    have hb3 := Lib.hid (grow_trans hb2.out hb3)
    go_wp2
    go_ret2
    exact ⟨rfl, hb3.out⟩
set_option maxHeartbeats 4000000 in
theorem sRegionPicture_any (x y : Int) (u : Value) (zs : List Int) (va : Value) (xs : List Int) (w : World) (h : Sl w 1 u zs.length (ints zs)) (ha : Sl w 1 va xs.length (ints xs)) :
    Calls Try.prog 35 #[terrV x y u, va] w fun e w' => e = .returned (strR (oneB x y zs xs) (pic x (regF xs) zs.length)) ∧ Below w.heap.size w w' := by
  have HA := Lib.hid fun W hW => l2Set_any x y u zs va xs W (h.below (w' := W) hW) (ha.below hW)
  have Hh := Lib.hid fun W hW z => l1Has_any va xs z W (ha.below (w' := W) hW)
  have HT : Hid (oneB x y zs xs = (terrB x y zs && setB xs 0 (zs.length - 1))) := rfl
  have HF : Hid (oneB x y zs xs = true → (1 ≤ x ∧ x ≤ 5) ∧ zs.length ≤ 25) := fun h => ⟨(one_facts h).1, (one_facts h).2.1⟩
  have hTB0 : Hid (TB (w.alloc (.cells #[.int .i64 x, .int .i64 y, u] 28)) w.heap.size x y u) := by show TB _ _ _ _ _; unfold TB; simp [go_sem]
  obtain ⟨A, c, rfl⟩ := h.val
  obtain ⟨Aa, ca, rfl⟩ := ha.val
  clear h ha
  rw [← HT.out] at HA
  generalize oneB x y zs xs = P at *
  generalize zs.length = M at *
  generalize xs.length = N at *
  clear HT
  have hb0 : Hid (Below w.heap.size w (w.alloc (.cells #[.int .i64 x, .int .i64 y, .slice A M c] 28))) := grow_alloc _ _
  cases P with
  | false =>
    generalize pic x (regF xs) M = L at *
    go_enter Try.func35, Try.ntmps35
    go_wp2_with fail
    with_reducible refine (HA.out _ hb0.out).mono ?_
    rintro e w1 ⟨rfl, hb1⟩
    have hb1 := Lib.hid (grow_trans hb0.out hb1)
    go_wp2
    go_ret2
    exact ⟨rfl, hb1.out⟩
  | true =>
    obtain ⟨⟨hx1, hx2⟩, hm25⟩ := HF.out rfl
    clear HF
    go_enter Try.func35, Try.ntmps35
    go_wp2_with fail
    with_reducible refine (HA.out _ hb0.out).mono ?_
    rintro e w1 ⟨rfl, hb1⟩
    have hT1 := Lib.hid (hTB0.out.below hb1)
    have hb1 := Lib.hid (grow_trans hb0.out hb1)
    go_wp2
    go_loopw [6, 7] (fun s i wr => ∃ k : Nat, k ≤ M ∧ i = .int .i64 k ∧ s = .string (bs (pic x (regF xs) k)) ∧ Hid (Below w.heap.size w wr) ∧ Hid (TB wr w.heap.size x y (.slice A M c))) (fun _ i _ => M - (intOf i).toNat)
    case atStart => exact ⟨0, Nat.zero_le _, rfl, rfl, hb1.out, hT1.out⟩
    case round =>
      obtain ⟨k, hk, rfl, rfl, hb, hT⟩ := hrel
      obtain ⟨t0, t1, t2⟩ := hT.out
      by_cases hlt : k < M
      · have hle := pic_le x (regF xs) k
        have Hy : Hid ((k : Int) % x = x - 1 → pic x (regF xs) (k + 1) = pic x (regF xs) k ++ [regF xs k] ++ [10]) := pic_yes
        have Hn : Hid (¬ (k : Int) % x = x - 1 → pic x (regF xs) (k + 1) = pic x (regF xs) k ++ [regF xs k]) := pic_no
        have HC := Lib.hid (Hh.out wr hb.out k)
        obtain ⟨⟨p1, p2⟩, p3, p4⟩ := cell_bds (c := (k : Int)) hx1 hx2 (by omega) (by omega)
        have m1 : (k : Int).tmod x = (k : Int) % x := Int.tmod_eq_emod_of_nonneg (by omega)
        have m2 : IntKind.i64.wrap ((k : Int) % x) = (k : Int) % x := IntWalk.i64_in _ (by omega)
        have m3 : IntKind.i64.wrap (x - 1) = x - 1 := IntWalk.i64_in _ (by omega)
        have hx0 : (x == 0) = false := by simpa using (show x ≠ 0 by omega)
        have HR : Hid (regF xs k = if hasB xs k then 35 else 46) := rfl
        generalize regF xs k = rk at *
        generalize pic x (regF xs) k = L at *
        generalize hF' : pic x (regF xs) (k + 1) = L' at *
        have HF' := Lib.hid hF'
        clear hF'
        have hls : (bs L).size ≤ 50 := by rw [bs_size]; omega
        have ba := bs_add
        have hl1 : (bs (L ++ [35])).size ≤ 51 := by rw [bs_size]; simp; omega
        have hl2 : (bs (L ++ [46])).size ≤ 51 := by rw [bs_size]; simp; omega
        cases hp : hasB xs k <;> rw [hp] at HC HR <;> clear hp
        all_goals
          by_cases hkm : (k : Int) % x = x - 1
          · have e1 : ((k : Int) % x == x - 1) = true := by simpa using hkm
            have Hy2 := Lib.hid (Hy.out hkm)
            clear hkm
            go_wp2_with fail
            with_reducible refine HC.out.mono ?_
            rintro e w2 ⟨rfl, rfl⟩
            go_wp2_with fail
            go_quiet (fail)
            go_wp2
            refine ⟨⟨k + 1, by omega, by go_num, by rw [HF'.out, Hy2.out, HR.out]; simp, hb.out.trans ((grow_drewN wr _).mono hb.out.size), hT.out.below (grow_drewN wr _)⟩, by simp [intOf]; omega⟩
          · have e1 : ((k : Int) % x == x - 1) = false := by simpa using hkm
            have Hn2 := Lib.hid (Hn.out hkm)
            clear hkm
            go_wp2_with fail
            with_reducible refine HC.out.mono ?_
            rintro e w2 ⟨rfl, rfl⟩
            go_wp2_with fail
            go_quiet (fail)
            go_wp2
            refine ⟨⟨k + 1, by omega, by go_num, by rw [HF'.out, Hn2.out, HR.out]; simp, hb.out.trans ((grow_drewN wr _).mono hb.out.size), hT.out.below (grow_drewN wr _)⟩, by simp [intOf]; omega⟩
      · obtain rfl : k = M := by omega
        go_wp2
        go_ret2
        exact ⟨rfl, hb.out⟩
end Go.Proofs.Ytjobjdmheocheaa
