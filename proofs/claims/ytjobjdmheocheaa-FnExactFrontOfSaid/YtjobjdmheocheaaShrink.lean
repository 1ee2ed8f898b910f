/- ShrinkRegion and FrontOf in the program. Conditions: as each states. -/
import Derived.Test.YtjobjdmheocheaaGrow2
import Derived.Test.YtjobjdmheocheaaBurn1
namespace Go.Proofs.Ytjobjdmheocheaa
open Go.ChangeShapes Go.WideShapes Go.ChangeAt Go.RowKit Go.Deep
set_option linter.unusedVariables false
set_option linter.unusedSimpArgs false
set_option maxRecDepth 100000

theorem callFunc_shr2 : ∀ args w, (callFunc 71 args).run Try.prog w = .ok (.enter 71 args) w := fun _ _ => by rfl
theorem callFunc_shr1 : ∀ args w, (callFunc 69 args).run Try.prog w = .ok (.enter 69 args) w := fun _ _ => by rfl
theorem shr2_any (va : Value) (xs : List Int) (C : Nat) (z : Int) (w : World) (hc : w.cell? ⟨C, 0, none⟩ = some va) (ha : Sl w 1 va xs.length (ints xs)) :
    Calls Try.prog 71 #[.int .i64 z, .pointer (some ⟨C, 0, none⟩)] w fun e w' => e = .returned (.bool (hasB xs z)) ∧ Below w.heap.size w w' := by
  have HA := Lib.hid (has_any va xs z w ha)
  obtain ⟨A, c, rfl⟩ := ha.val
  clear ha
  go_enter Try.func71, Try.ntmps71
  go_wp2_with fail
  with_reducible refine HA.out.mono ?_
  rintro e w1 ⟨rfl, rfl⟩
  go_wp2
  go_ret
  exact ⟨rfl, Below.refl _ _⟩
theorem shr1_any (x y : Int) (u : Value) (zs : List Int) (va : Value) (xs : List Int) (B C : Nat) (c : Int) (w : World) (hc0 : w.cell? ⟨B, 0, none⟩ = some (.int .i64 x)) (hc1 : w.cell? ⟨B, 1, none⟩ = some (.int .i64 y)) (hc2 : w.cell? ⟨B, 2, none⟩ = some u) (hcr : w.cell? ⟨C, 0, none⟩ = some va)
    (h : Sl w 1 u zs.length (ints zs)) (ha : Sl w 1 va xs.length (ints xs)) (h1 : 1 ≤ x) (h2 : x ≤ 5) (h3 : 0 ≤ c) (h4 : c ≤ 25) (hn : (zs.length : Int) ≤ 25) :
    Calls Try.prog 69 #[.int .i64 c, .pointer (some ⟨B, 0, none⟩), .pointer (some ⟨C, 0, none⟩)] w fun e w' => e = .returned (.bool ((selN (nearP x c) zs.length).all (hasB xs))) ∧ Below w.heap.size w w' := by
  have HN := Lib.hid (neighbors_any x y u zs c w h h1 h2 h3 h4 hn)
  have HA := Lib.hid fun W (hW : Below w.heap.size w W) nv (hnv : Sl W 1 nv (selN (nearP x c) zs.length).length (ints (selN (nearP x c) zs.length))) => all_intM_any nv _ 71 #[] #[.pointer (some ⟨C, 0, none⟩)] (hasB xs) W hnv callFunc_shr2
    (fun W' z hz hW' => by
      have hb := grow_trans hW hW'
      have := shr2_any va xs C z W' (cell_below hcr hb) (ha.below hb)
      simpa using this)
  obtain ⟨A, k, rfl⟩ := h.val
  clear h ha
  go_enter Try.func69, Try.ntmps69
  go_wp2_with fail
  with_reducible refine HN.out.mono ?_
  rintro e w1 ⟨nv, rfl, on, hb1⟩
  have hS := Sl.of_own on
  have HA := Lib.hid (HA.out w1 hb1 nv hS)
  obtain ⟨An, cn, rfl⟩ := hS.val
  have hb1 := Lib.hid hb1
  clear on hS
  go_wp2_with fail
  with_reducible refine HA.out.mono ?_
  rintro e w2 ⟨rfl, hb2⟩
  have hb2 := Lib.hid (grow_trans hb1.out hb2)
  go_wp2
  go_ret
  exact ⟨rfl, hb2.out⟩
set_option maxHeartbeats 2000000 in
theorem ShrinkRegion_any (x y : Int) (u : Value) (zs : List Int) (va : Value) (xs : List Int) (w : World) (h : Sl w 1 u zs.length (ints zs)) (ha : Sl w 1 va xs.length (ints xs)) :
    Calls Try.prog 32 #[terrV x y u, va] w (RetSel w (selR (oneB x y zs xs) (xs.filter (fun (c : Int) => (selN (nearP x c) zs.length).all (hasB xs)))) (oneB x y zs xs)) := by
  obtain ⟨A, c, rfl⟩ := h.val
  obtain ⟨Aa, ca, rfl⟩ := ha.val
  generalize hW1 : (w.alloc (.cells #[.int .i64 x, .int .i64 y, .slice A zs.length c] 28)).alloc (.cells #[.slice Aa xs.length ca] 22) = W1
  have Hb1 : Hid (Below w.heap.size w W1) := by rw [← hW1]; exact two_news _ _ _
  have HW1 := Lib.hid hW1
  have hcT : Hid (TB W1 w.heap.size x y (.slice A zs.length c)) := by show TB _ _ _ _ _; unfold TB; rw [← hW1]; simp [go_sem]
  have hcR : Hid (W1.cell? ⟨w.heap.size + 1, 0, none⟩ = some (.slice Aa xs.length ca)) := by show _ = _; rw [← hW1]; simp [go_sem]
  have hsW : Hid (W1.heap.size = w.heap.size + 2) := by show _ = _; rw [← hW1]; simp
  clear hW1
  have Hb2 : Hid (Below w.heap.size w (W1.alloc (.cells #[.slice Aa xs.length ca] 22))) := grow_trans Hb1.out (grow_alloc _ _)
  have hv : Hid (Sl (W1.alloc (.cells #[.slice Aa xs.length ca] 22)) 1 (.slice (some ⟨w.heap.size + 2, 0, none⟩) 1 1) 1 [.slice Aa xs.length ca]) := by
    show Sl _ _ _ _ _
    have := Sl.boxAt (x := .slice Aa xs.length ca) (hp0 W1 (.cells #[.slice Aa xs.length ca] 22))
    rw [hsW.out] at this
    exact this
  have HR := Lib.hid (isRegion_one x y _ zs _ _ xs (W1.alloc (.cells #[.slice Aa xs.length ca] 22)) (h.below Hb2.out) hv.out (ha.below Hb2.out))
  have HF : Hid (oneB x y zs xs = true → ∀ W, Below W1.heap.size W1 W → Calls Try.prog 54 #[.slice Aa xs.length ca, .func (.func 69) #[] #[.pointer (some ⟨w.heap.size, 0, none⟩), .pointer (some ⟨w.heap.size + 1, 0, none⟩)]] W (RetOwn W 3 1 (xs.filter (fun (c : Int) => (selN (nearP x c) zs.length).all (hasB xs))).length (ints (xs.filter (fun (c : Int) => (selN (nearP x c) zs.length).all (hasB xs)))))) := by
    show _ → _
    intro hT W hW
    obtain ⟨⟨hx1, hx2⟩, hzl, hr1, hr2, hxl⟩ := one_facts hT
    exact filter_any (.slice Aa xs.length ca) xs 69 #[] #[.pointer (some ⟨w.heap.size, 0, none⟩), .pointer (some ⟨w.heap.size + 1, 0, none⟩)] (fun (c : Int) => (selN (nearP x c) zs.length).all (hasB xs)) W (ha.below (Hb1.out.trans (hW.mono Hb1.out.size))) (by omega) callFunc_shr1
      (fun W' k hk hW' => by
        have hb3 := grow_trans hW hW'
        have hTB := hcT.out.below hb3
        have hRB := cell_below hcR.out hb3
        have hRS := ha.below (Hb1.out.trans (hb3.mono Hb1.out.size))
        have hTS := h.below (Hb1.out.trans (hb3.mono Hb1.out.size))
        have hr2k := hr2 k hk
        have := shr1_any x y _ zs _ xs w.heap.size (w.heap.size + 1) k W' hTB.1 hTB.2.1 hTB.2.2 hRB hTS hRS hx1 hx2 hr2k.1 (by omega) (by omega)
        simpa using this)
  clear hv h ha hcT hcR
  generalize oneB x y zs xs = T at *
  generalize xs.filter (fun (c : Int) => (selN (nearP x c) zs.length).all (hasB xs)) = L at *
  generalize zs.length = N at *
  generalize xs.length = M at *
  have hnew : Hid (Below W1.heap.size W1 (W1.alloc (.cells #[.slice Aa M ca] 22))) := grow_alloc _ _
  clear hsW Hb1
  have hW1 := HW1.out
  subst hW1
  clear HW1
  cases T
  · go_enter Try.func32, Try.ntmps32
    go_wp2_with fail
    with_reducible refine HR.out.mono ?_
    rintro e w1 ⟨rfl, hb1⟩
    have hb1 := Lib.hid (grow_trans Hb2.out hb1)
    go_wp2
    exact bodyPost_ret (v := .tuple #[.slice none 0 0, .bool false]) (by simp [results, Try.results32, go_sem]) rfl ⟨_, rfl, own_nil _ _ _ _, hb1.out⟩
  · have HG := Lib.hid (HF.out rfl)
    clear HF
    go_enter Try.func32, Try.ntmps32
    go_wp2_with fail
    with_reducible refine HR.out.mono ?_
    rintro e w1 ⟨rfl, hb1⟩
    have hc := (bcell hb1).1
    have hb1' := Lib.hid (grow_trans hnew.out hb1)
    have hb2 := Lib.hid (grow_trans Hb2.out hb1)
    clear hb1
    go_wp2_with fail
    with_reducible refine (HG.out _ hb1'.out).mono ?_
    rintro e w2 ⟨v, rfl, ho, hb3⟩
    have ho := Lib.hid (own_base ho hb2.out.size)
    have hb3 := Lib.hid (grow_trans hb2.out hb3)
    go_wp2
    exact bodyPost_ret (v := .tuple #[v, .bool true]) (by simp [results, Try.results32, go_sem]) rfl ⟨_, rfl, ho.out, hb3.out⟩
/-- A number is that of a cell that burns. -/
def burnI (zs : List Int) (z : Int) : Bool := burnP zs z.toNat
theorem callFunc_frt2 : ∀ args w, (callFunc 73 args).run Try.prog w = .ok (.enter 73 args) w := fun _ _ => by rfl
theorem callFunc_frt1 : ∀ args w, (callFunc 72 args).run Try.prog w = .ok (.enter 72 args) w := fun _ _ => by rfl
theorem frt2_any (x y : Int) (u : Value) (zs : List Int) (va : Value) (xs : List Int) (B C : Nat) (z : Int) (w : World) (hc0 : w.cell? ⟨B, 0, none⟩ = some (.int .i64 x)) (hc1 : w.cell? ⟨B, 1, none⟩ = some (.int .i64 y)) (hc2 : w.cell? ⟨B, 2, none⟩ = some u) (hc : w.cell? ⟨C, 0, none⟩ = some va)
    (h : Sl w 1 u zs.length (ints zs)) (ha : Sl w 1 va xs.length (ints xs)) (hz1 : 0 ≤ z) (hz2 : z < zs.length) :
    Calls Try.prog 73 #[.int .i64 z, .pointer (some ⟨C, 0, none⟩), .pointer (some ⟨B, 0, none⟩)] w fun e w' => e = .returned (.bool (hasB xs z || !(burnI zs z))) ∧ Below w.heap.size w w' := by
  obtain ⟨k, rfl⟩ := Int.eq_ofNat_of_zero_le hz1
  have HA := Lib.hid (has_any va xs k w ha)
  have HB := Lib.hid (burns_any x y u zs k w h (by omega))
  have e1 : burnI zs k = burnP zs k := by unfold burnI; simp
  rw [e1]
  obtain ⟨A, c, rfl⟩ := ha.val
  obtain ⟨A', c', rfl⟩ := h.val
  clear ha h e1
  generalize burnP zs k = q at *
  generalize zs.length = N at *
  cases hp : hasB xs k with
  | true =>
    rw [hp] at HA
    clear hp
    go_enter Try.func73, Try.ntmps73
    go_wp2_with fail
    with_reducible refine HA.out.mono ?_
    rintro e w1 ⟨rfl, rfl⟩
    go_wp2
    go_ret
    exact ⟨by simp, Below.refl _ _⟩
  | false =>
    rw [hp] at HA
    clear hp
    go_enter Try.func73, Try.ntmps73
    go_wp2_with fail
    with_reducible refine HA.out.mono ?_
    rintro e w1 ⟨rfl, rfl⟩
    go_wp2_with fail
    with_reducible refine HB.out.mono ?_
    rintro e w1 ⟨rfl, hb1⟩
    go_wp2
    go_ret
    exact ⟨by simp, hb1⟩
theorem frt1_any (x y : Int) (u : Value) (zs : List Int) (va : Value) (xs : List Int) (B C : Nat) (c : Int) (w : World) (hc0 : w.cell? ⟨B, 0, none⟩ = some (.int .i64 x)) (hc1 : w.cell? ⟨B, 1, none⟩ = some (.int .i64 y)) (hc2 : w.cell? ⟨B, 2, none⟩ = some u) (hcr : w.cell? ⟨C, 0, none⟩ = some va)
    (h : Sl w 1 u zs.length (ints zs)) (ha : Sl w 1 va xs.length (ints xs)) (h1 : 1 ≤ x) (h2 : x ≤ 5) (h3 : 0 ≤ c) (h4 : c ≤ 25) (hn : (zs.length : Int) ≤ 25) :
    Calls Try.prog 72 #[.int .i64 c, .pointer (some ⟨B, 0, none⟩), .pointer (some ⟨C, 0, none⟩)] w fun e w' => e = .returned (.bool (!((selN (nearP x c) zs.length).all fun z => hasB xs z || !(burnI zs z)))) ∧ Below w.heap.size w w' := by
  have hT : TB w B x y u := ⟨hc0, hc1, hc2⟩
  have HN := Lib.hid (neighbors_any x y u zs c w h h1 h2 h3 h4 hn)
  have HA := Lib.hid fun W (hW : Below w.heap.size w W) nv (hnv : Sl W 1 nv (selN (nearP x c) zs.length).length (ints (selN (nearP x c) zs.length))) => all_intM_any nv _ 73 #[] #[.pointer (some ⟨C, 0, none⟩), .pointer (some ⟨B, 0, none⟩)] (fun z => hasB xs z || !(burnI zs z)) W hnv callFunc_frt2
    (fun W' z hz hW' => by
      have hb := grow_trans hW hW'
      have hzi := selN_in z hz
      have hT' := hT.below hb
      have := frt2_any x y u zs va xs B C z W' hT'.1 hT'.2.1 hT'.2.2 (cell_below hcr hb) (h.below hb) (ha.below hb) hzi.1 (by omega)
      simpa using this)
  obtain ⟨A, k, rfl⟩ := h.val
  clear h ha hT
  generalize ((selN (nearP x c) zs.length).all fun z => hasB xs z || !(burnI zs z)) = R at *
  go_enter Try.func72, Try.ntmps72
  go_wp2_with fail
  with_reducible refine HN.out.mono ?_
  rintro e w1 ⟨nv, rfl, on, hb1⟩
  have hS := Sl.of_own on
  have HA := Lib.hid (HA.out w1 hb1 nv hS)
  obtain ⟨An, cn, rfl⟩ := hS.val
  have hb1 := Lib.hid hb1
  clear on hS
  go_wp2_with fail
  with_reducible refine HA.out.mono ?_
  rintro e w2 ⟨rfl, hb2⟩
  have hb2 := Lib.hid (grow_trans hb1.out hb2)
  go_wp2
  go_ret
  exact ⟨rfl, hb2.out⟩
set_option maxHeartbeats 2000000 in
theorem FrontOf_any (x y : Int) (u : Value) (zs : List Int) (va : Value) (xs : List Int) (w : World) (h : Sl w 1 u zs.length (ints zs)) (ha : Sl w 1 va xs.length (ints xs)) :
    Calls Try.prog 34 #[terrV x y u, va] w (RetSel w (selR (oneB x y zs xs) (xs.filter (fun (c : Int) => !((selN (nearP x c) zs.length).all fun z => hasB xs z || !(burnI zs z))))) (oneB x y zs xs)) := by
  obtain ⟨A, c, rfl⟩ := h.val
  obtain ⟨Aa, ca, rfl⟩ := ha.val
  generalize hW1 : (w.alloc (.cells #[.int .i64 x, .int .i64 y, .slice A zs.length c] 28)).alloc (.cells #[.slice Aa xs.length ca] 22) = W1
  have Hb1 : Hid (Below w.heap.size w W1) := by rw [← hW1]; exact two_news _ _ _
  have HW1 := Lib.hid hW1
  have hcT : Hid (TB W1 w.heap.size x y (.slice A zs.length c)) := by show TB _ _ _ _ _; unfold TB; rw [← hW1]; simp [go_sem]
  have hcR : Hid (W1.cell? ⟨w.heap.size + 1, 0, none⟩ = some (.slice Aa xs.length ca)) := by show _ = _; rw [← hW1]; simp [go_sem]
  have hsW : Hid (W1.heap.size = w.heap.size + 2) := by show _ = _; rw [← hW1]; simp
  clear hW1
  have Hb2 : Hid (Below w.heap.size w (W1.alloc (.cells #[.slice Aa xs.length ca] 22))) := grow_trans Hb1.out (grow_alloc _ _)
  have hv : Hid (Sl (W1.alloc (.cells #[.slice Aa xs.length ca] 22)) 1 (.slice (some ⟨w.heap.size + 2, 0, none⟩) 1 1) 1 [.slice Aa xs.length ca]) := by
    show Sl _ _ _ _ _
    have := Sl.boxAt (x := .slice Aa xs.length ca) (hp0 W1 (.cells #[.slice Aa xs.length ca] 22))
    rw [hsW.out] at this
    exact this
  have HR := Lib.hid (isRegion_one x y _ zs _ _ xs (W1.alloc (.cells #[.slice Aa xs.length ca] 22)) (h.below Hb2.out) hv.out (ha.below Hb2.out))
  have HF : Hid (oneB x y zs xs = true → ∀ W, Below W1.heap.size W1 W → Calls Try.prog 54 #[.slice Aa xs.length ca, .func (.func 72) #[] #[.pointer (some ⟨w.heap.size, 0, none⟩), .pointer (some ⟨w.heap.size + 1, 0, none⟩)]] W (RetOwn W 3 1 (xs.filter (fun (c : Int) => !((selN (nearP x c) zs.length).all fun z => hasB xs z || !(burnI zs z)))).length (ints (xs.filter (fun (c : Int) => !((selN (nearP x c) zs.length).all fun z => hasB xs z || !(burnI zs z))))))) := by
    show _ → _
    intro hT W hW
    obtain ⟨⟨hx1, hx2⟩, hzl, hr1, hr2, hxl⟩ := one_facts hT
    exact filter_any (.slice Aa xs.length ca) xs 72 #[] #[.pointer (some ⟨w.heap.size, 0, none⟩), .pointer (some ⟨w.heap.size + 1, 0, none⟩)] (fun (c : Int) => !((selN (nearP x c) zs.length).all fun z => hasB xs z || !(burnI zs z))) W (ha.below (Hb1.out.trans (hW.mono Hb1.out.size))) (by omega) callFunc_frt1
      (fun W' k hk hW' => by
        have hb3 := grow_trans hW hW'
        have hTB := hcT.out.below hb3
        have hRB := cell_below hcR.out hb3
        have hRS := ha.below (Hb1.out.trans (hb3.mono Hb1.out.size))
        have hTS := h.below (Hb1.out.trans (hb3.mono Hb1.out.size))
        have hr2k := hr2 k hk
        have := frt1_any x y _ zs _ xs w.heap.size (w.heap.size + 1) k W' hTB.1 hTB.2.1 hTB.2.2 hRB hTS hRS hx1 hx2 hr2k.1 (by omega) (by omega)
        simpa using this)
  clear hv h ha hcT hcR
  generalize oneB x y zs xs = T at *
  generalize xs.filter (fun (c : Int) => !((selN (nearP x c) zs.length).all fun z => hasB xs z || !(burnI zs z))) = L at *
  generalize zs.length = N at *
  generalize xs.length = M at *
  have hnew : Hid (Below W1.heap.size W1 (W1.alloc (.cells #[.slice Aa M ca] 22))) := grow_alloc _ _
  clear hsW Hb1
  have hW1 := HW1.out
  subst hW1
  clear HW1
  cases T
  · go_enter Try.func34, Try.ntmps34
    go_wp2_with fail
    with_reducible refine HR.out.mono ?_
    rintro e w1 ⟨rfl, hb1⟩
    have hb1 := Lib.hid (grow_trans Hb2.out hb1)
    go_wp2
    exact bodyPost_ret (v := .tuple #[.slice none 0 0, .bool false]) (by simp [results, Try.results34, go_sem]) rfl ⟨_, rfl, own_nil _ _ _ _, hb1.out⟩
  · have HG := Lib.hid (HF.out rfl)
    clear HF
    go_enter Try.func34, Try.ntmps34
    go_wp2_with fail
    with_reducible refine HR.out.mono ?_
    rintro e w1 ⟨rfl, hb1⟩
    have hc := (bcell hb1).1
    have hb1' := Lib.hid (grow_trans hnew.out hb1)
    have hb2 := Lib.hid (grow_trans Hb2.out hb1)
    clear hb1
    go_wp2_with fail
    with_reducible refine (HG.out _ hb1'.out).mono ?_
    rintro e w2 ⟨v, rfl, ho, hb3⟩
    have ho := Lib.hid (own_base ho hb2.out.size)
    have hb3 := Lib.hid (grow_trans hb2.out hb3)
    go_wp2
    exact bodyPost_ret (v := .tuple #[v, .bool true]) (by simp [results, Try.results34, go_sem]) rfl ⟨_, rfl, ho.out, hb3.out⟩
end Go.Proofs.Ytjobjdmheocheaa
