/- GrowRegion in the program and in the reference. Conditions: as each states. -/
import Derived.Test.YtjobjdmheocheaaJoin
import Derived.Test.YtjobjdmheocheaaAllM
import Derived.StillTailTactics
namespace Go.Proofs.Ytjobjdmheocheaa
open Go.ChangeShapes Go.WideShapes Go.ChangeAt Go.RowKit Go.Deep
set_option linter.unusedVariables false
set_option linter.unusedSimpArgs false
set_option maxRecDepth 100000

/-- A terrain and a set of its cells. -/
def oneB (x y : Int) (zs xs : List Int) : Bool := terrB x y zs && setB xs 0 (zs.length - 1)
/-- isRegion at one region. -/
theorem isRegion_one (x y : Int) (u : Value) (zs : List Int) (v va : Value) (xs : List Int) (w : World) (h : Sl w 1 u zs.length (ints zs)) (hv : Sl w 1 v 1 [va]) (ha : Sl w 1 va xs.length (ints xs)) :
    Calls Try.prog 53 #[terrV x y u, v] w fun e w' => e = .returned (.bool (oneB x y zs xs)) ∧ Below w.heap.size w w' := by
  have := isRegion_any x y u zs v [va] (fun r => regB zs.length xs) w h (by simpa using hv) (by
    intro r hr
    obtain rfl : r = va := by simpa using hr
    exact ⟨xs, ha, rfl⟩)
  simp only [List.all_cons, List.all_nil, Bool.and_true] at this
  rw [reg_set] at this
  exact this
/-- What a valid region tells. -/
theorem one_facts {x y : Int} {zs xs : List Int} (h : oneB x y zs xs = true) : (1 ≤ x ∧ x ≤ 5) ∧ zs.length ≤ 25 ∧ Rise xs ∧ (∀ z ∈ xs, 0 ≤ z ∧ z ≤ (zs.length : Int) - 1) ∧ xs.length ≤ zs.length := by
  unfold oneB at h
  simp only [Bool.and_eq_true] at h
  obtain ⟨r1, s1⟩ := setB_rise h.2
  obtain ⟨hx, _, _, hn25⟩ := terr_dims h.1
  have l1 := r1.len (a := 0) (b := zs.length) (by omega) (fun z hz => by have := s1 z hz; omega)
  exact ⟨hx, by omega, r1, s1, by omega⟩
/-- A terrain's box. -/
def TB (w : World) (B : Nat) (x y : Int) (u : Value) : Prop := w.cell? ⟨B, 0, none⟩ = some (.int .i64 x) ∧ w.cell? ⟨B, 1, none⟩ = some (.int .i64 y) ∧ w.cell? ⟨B, 2, none⟩ = some u
theorem cell_below {w w' : World} {B o : Nat} {v : Value} (h : w.cell? ⟨B, o, none⟩ = some v) (hb : Below w.heap.size w w') : w'.cell? ⟨B, o, none⟩ = some v := by
  rw [hb.cell (World.block_lt_of_cell? w _ h)]; exact h
theorem TB.below {w w' : World} {B : Nat} {x y : Int} {u : Value} (h : TB w B x y u) (hb : Below w.heap.size w w') : TB w' B x y u :=
  ⟨cell_below h.1 hb, cell_below h.2.1 hb, cell_below h.2.2 hb⟩
theorem cell_lt {w : World} {B o : Nat} {v : Value} (h : w.cell? ⟨B, o, none⟩ = some v) : B < w.heap.size := World.block_lt_of_cell? w _ h
theorem callFunc_grow2 : ∀ args w, (callFunc 64 args).run Try.prog w = .ok (.enter 64 args) w := fun _ _ => by rfl
theorem grow2_any (x y : Int) (u : Value) (B C : Nat) (c z : Int) (w : World) (hc0 : w.cell? ⟨B, 0, none⟩ = some (.int .i64 x)) (hc1 : w.cell? ⟨B, 1, none⟩ = some (.int .i64 y)) (hc2 : w.cell? ⟨B, 2, none⟩ = some u) (hc : w.cell? ⟨C, 0, none⟩ = some (.int .i64 c))
    (h1 : 1 ≤ x) (h2 : x ≤ 5) (h3 : 0 ≤ c) (h4 : c ≤ 25) (h5 : 0 ≤ z) (h6 : z ≤ 25) :
    Calls Try.prog 64 #[.int .i64 z, .pointer (some ⟨B, 0, none⟩), .pointer (some ⟨C, 0, none⟩)] w fun e w' => e = .returned (.bool (decide (1 < apartN x c z))) ∧ Below w.heap.size w w' := by
  have HA := Lib.hid (apart_any x y u c z w h1 h2 h3 h4 h5 h6)
  go_enter Try.func64, Try.ntmps64
  go_wp2_with fail
  with_reducible refine HA.out.mono ?_
  rintro e w1 ⟨rfl, hb1⟩
  go_wp2
  go_ret
  exact ⟨rfl, hb1⟩
theorem callFunc_grow1 : ∀ args w, (callFunc 62 args).run Try.prog w = .ok (.enter 62 args) w := fun _ _ => by rfl
theorem grow1_any (x y : Int) (u va : Value) (xs : List Int) (B C : Nat) (c : Int) (w : World) (hc0 : w.cell? ⟨B, 0, none⟩ = some (.int .i64 x)) (hc1 : w.cell? ⟨B, 1, none⟩ = some (.int .i64 y)) (hc2 : w.cell? ⟨B, 2, none⟩ = some u) (hcr : w.cell? ⟨C, 0, none⟩ = some va) (ha : Sl w 1 va xs.length (ints xs))
    (h1 : 1 ≤ x) (h2 : x ≤ 5) (h3 : 0 ≤ c) (h4 : c ≤ 25) (hx : ∀ z ∈ xs, 0 ≤ z ∧ z ≤ 25) :
    Calls Try.prog 62 #[.int .i64 c, .pointer (some ⟨C, 0, none⟩), .pointer (some ⟨B, 0, none⟩)] w fun e w' => e = .returned (.bool (!(xs.all fun z => decide (1 < apartN x c z)))) ∧ Below w.heap.size w w' := by
  have hT : TB w B x y u := ⟨hc0, hc1, hc2⟩
  have lB := cell_lt hc0
  have lC := cell_lt hcr
  have HA := Lib.hid (all_intM_any va xs 64 #[] #[.pointer (some ⟨B, 0, none⟩), .pointer (some ⟨w.heap.size, 0, none⟩)] (fun z => decide (1 < apartN x c z)) (w.alloc (.cells #[.int .i64 c] 3)) (ha.below (grow_alloc _ _)) callFunc_grow2
    (fun W z hz hW => by
      have hb := grow_trans (grow_alloc w (.cells #[.int .i64 c] 3)) hW
      have := grow2_any x y u B w.heap.size c z W (hT.below hb).1 (hT.below hb).2.1 (hT.below hb).2.2 (by rw [hW.cell (by simp)]; simp [go_sem]) h1 h2 h3 h4 (hx z hz).1 (hx z hz).2
      simpa using this))
  obtain ⟨A, k, rfl⟩ := ha.val
  clear ha hT
  generalize (xs.all fun z => decide (1 < apartN x c z)) = R at *
  generalize xs.length = N at *
  go_enter Try.func62, Try.ntmps62
  go_wp2_with fail
  with_reducible refine HA.out.mono ?_
  rintro e w1 ⟨rfl, hb1⟩
  go_wp2
  go_ret
  exact ⟨rfl, grow_trans (grow_alloc _ _) hb1⟩
set_option maxHeartbeats 2000000 in
theorem GrowRegion_any (x y : Int) (u : Value) (zs : List Int) (va : Value) (xs : List Int) (w : World) (h : Sl w 1 u zs.length (ints zs)) (ha : Sl w 1 va xs.length (ints xs)) :
    Calls Try.prog 28 #[terrV x y u, va] w (RetSel w (selR (oneB x y zs xs) (selN (fun (k : Nat) => !(xs.all fun z => decide (1 < apartN x k z))) zs.length)) (oneB x y zs xs)) := by
  obtain ⟨A, c, rfl⟩ := h.val
  obtain ⟨Aa, ca, rfl⟩ := ha.val
  generalize hW1 : (w.alloc (.cells #[.int .i64 x, .int .i64 y, .slice A zs.length c] 28)).alloc (.cells #[.slice Aa xs.length ca] 22) = W1
  have Hb1 : Hid (Below w.heap.size w W1) := by rw [← hW1]; exact two_news _ _ _
  have HW1 := Lib.hid hW1
  have hcT : Hid (TB W1 w.heap.size x y (.slice A zs.length c)) := by show TB _ _ _ _ _; unfold TB; rw [← hW1]; simp [go_sem]
  have hcR : Hid (W1.cell? ⟨w.heap.size + 1, 0, none⟩ = some (.slice Aa xs.length ca)) := by show _ = _; rw [← hW1]; simp [go_sem]
  have hsW : Hid (W1.heap.size = w.heap.size + 2) := by show _ = _; rw [← hW1]; simp
  clear hW1
  have Hb2 : Hid (Below w.heap.size w (W1.alloc (.cells #[.slice Aa xs.length ca] 22))) := grow_trans Hb1.out (grow_alloc _ _)
  have hv : Hid (Sl (W1.alloc (.cells #[.slice Aa xs.length ca] 22)) 1 (.slice (some ⟨w.heap.size + 2, 0, none⟩) 1 1) 1 [.slice Aa xs.length ca]) := by
    show Sl _ _ _ _ _
    have := Sl.boxAt (x := .slice Aa xs.length ca) (hp0 W1 (.cells #[.slice Aa xs.length ca] 22))
    rw [hsW.out] at this
    exact this
  have HR := Lib.hid (isRegion_one x y _ zs _ _ xs (W1.alloc (.cells #[.slice Aa xs.length ca] 22)) (h.below Hb2.out) hv.out (ha.below Hb2.out))
  have HF : Hid (oneB x y zs xs = true → ∀ W, Below W1.heap.size W1 W → Calls Try.prog 59 #[terrV x y (.slice A zs.length c), .func (.func 62) #[] #[.pointer (some ⟨w.heap.size + 1, 0, none⟩), .pointer (some ⟨w.heap.size, 0, none⟩)]] W (RetOwn W 3 1 (selN (fun (k : Nat) => !(xs.all fun z => decide (1 < apartN x k z))) zs.length).length (ints (selN (fun (k : Nat) => !(xs.all fun z => decide (1 < apartN x k z))) zs.length)))) := by
    show _ → _
    intro hT W hW
    obtain ⟨⟨hx1, hx2⟩, hzl, hr1, hr2, hxl⟩ := one_facts hT
    exact cellsThat_any x y (.slice A zs.length c) zs 62 #[] #[.pointer (some ⟨w.heap.size + 1, 0, none⟩), .pointer (some ⟨w.heap.size, 0, none⟩)] (fun (k : Nat) => !(xs.all fun z => decide (1 < apartN x k z))) W (h.below (Hb1.out.trans (hW.mono Hb1.out.size))) (by omega) callFunc_grow1
      (fun W' k hk hW' => by
        have hb3 := grow_trans hW hW'
        have hTB := hcT.out.below hb3
        have hRB := cell_below hcR.out hb3
        have hRS := ha.below (Hb1.out.trans (hb3.mono Hb1.out.size))
        have hTS := h.below (Hb1.out.trans (hb3.mono Hb1.out.size))
        skip
        have := grow1_any x y _ _ xs w.heap.size (w.heap.size + 1) k W' hTB.1 hTB.2.1 hTB.2.2 hRB hRS hx1 hx2 (by omega) (by omega) (fun z hz => by have := hr2 z hz; omega)
        simpa using this)
  clear hv h ha hcT hcR
  generalize oneB x y zs xs = T at *
  generalize selN (fun (k : Nat) => !(xs.all fun z => decide (1 < apartN x k z))) zs.length = L at *
  generalize zs.length = N at *
  generalize xs.length = M at *
  have hnew : Hid (Below W1.heap.size W1 (W1.alloc (.cells #[.slice Aa M ca] 22))) := grow_alloc _ _
  clear hsW Hb1
  have hW1 := HW1.out
  subst hW1
  clear HW1
  cases T
  · go_enter Try.func28, Try.ntmps28
    go_wp2_with fail
    with_reducible refine HR.out.mono ?_
    rintro e w1 ⟨rfl, hb1⟩
    have hb1 := Lib.hid (grow_trans Hb2.out hb1)
    go_wp2
    exact bodyPost_ret (v := .tuple #[.slice none 0 0, .bool false]) (by simp [results, Try.results28, go_sem]) rfl ⟨_, rfl, own_nil _ _ _ _, hb1.out⟩
  · have HG := Lib.hid (HF.out rfl)
    clear HF
    go_enter Try.func28, Try.ntmps28
    go_wp2_with fail
    with_reducible refine HR.out.mono ?_
    rintro e w1 ⟨rfl, hb1⟩
    have hc := (bcell hb1).1
    have hb1' := Lib.hid (grow_trans hnew.out hb1)
    have hb2 := Lib.hid (grow_trans Hb2.out hb1)
    clear hb1
    go_wp2_with fail
    with_reducible refine (HG.out _ hb1'.out).mono ?_
    rintro e w2 ⟨v, rfl, ho, hb3⟩
    have ho := Lib.hid (own_base ho hb2.out.size)
    have hb3 := Lib.hid (grow_trans hb2.out hb3)
    go_wp2
    exact bodyPost_ret (v := .tuple #[v, .bool true]) (by simp [results, Try.results28, go_sem]) rfl ⟨_, rfl, ho.out, hb3.out⟩
end Go.Proofs.Ytjobjdmheocheaa
