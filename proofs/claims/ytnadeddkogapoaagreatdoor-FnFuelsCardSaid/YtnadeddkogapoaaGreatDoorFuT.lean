/- A fuel's text, in the program and in the reference. Conditions: as each states. -/
import Derived.Test.YtnadeddkogapoaaGreatDoorLow
import Derived.Test.YtnadeddkogapoaaGreatDoorBrz
import Derived.Test.YtnadeddkogapoaaGreatDoorWords
import Derived.Test.YtnadeddkogapoaaGreatDoorFuel2
import Derived.Deep.RegionHeldLaw
namespace Go.Proofs.YtnadeddkogapoaaGreatDoor
open Go.ChangeShapes Go.WideShapes Go.ChangeAt Go.RowKit Go.Deep
set_option linter.unusedVariables false
set_option linter.unusedSimpArgs false
set_option maxRecDepth 100000

/-- The words of a fuel's text. -/
def fuW (i : Int) (n : ByteArray) (r l o : Int) : List ByteArray := [numS i, n, ⟨#[114, 97, 116, 101]⟩, numS r, ⟨#[108, 105, 109, 105, 116]⟩, numS l, ⟨#[108, 111, 97, 100]⟩, numS o]
/-- A fuel's text. -/
def fuT (i : Int) (n : ByteArray) (r l o : Int) : ByteArray := jnS 32 (fuW i n r l o) 8
theorem fuT_eq (i : Int) (n : ByteArray) (r l o : Int) : numS i ++ ⟨#[32]⟩ ++ n ++ ⟨#[32, 114, 97, 116, 101, 32]⟩ ++ numS r ++ ⟨#[32, 108, 105, 109, 105, 116, 32]⟩ ++ numS l ++ ⟨#[32, 108, 111, 97, 100, 32]⟩ ++ numS o = fuT i n r l o := by
  unfold fuT fuW jnS numS
  generalize Lib.itoa i = a
  generalize Lib.itoa r = b
  generalize Lib.itoa l = c
  generalize Lib.itoa o = d
  rw [← bs_data n]
  generalize n.data.toList = m
  show bs a ++ bs [32] ++ bs m ++ bs [32, 114, 97, 116, 101, 32] ++ bs b ++ bs [32, 108, 105, 109, 105, 116, 32] ++ bs c ++ bs [32, 108, 111, 97, 100, 32] ++ bs d = _
  simp only [bs_app]
  congr 1
  simp [Lib.join, List.intercalate, bs]
theorem num_short {k : Int} (h1 : -999999 ≤ k) (h2 : k ≤ 999999) : (numS k).size ≤ 7 := numS_short k (inB_iff.2 ⟨h1, h2⟩)
theorem fuT_size {i : Int} {n : ByteArray} {r l o : Int} (h1 : -999999 ≤ i ∧ i ≤ 999999) (h2 : n.size ≤ 10) (h3 : -999999 ≤ r ∧ r ≤ 999999) (h4 : -999999 ≤ l ∧ l ≤ 999999) (h5 : -999999 ≤ o ∧ o ≤ 999999) : (fuT i n r l o).size ≤ 60 := by
  rw [← fuT_eq]
  have a1 := num_short h1.1 h1.2
  have a2 := num_short h3.1 h3.2
  have a3 := num_short h4.1 h4.2
  have a4 := num_short h5.1 h5.2
  have z1 : (⟨#[32]⟩ : ByteArray).size = 1 := rfl
  have z2 : (⟨#[32, 114, 97, 116, 101, 32]⟩ : ByteArray).size = 6 := rfl
  have z3 : (⟨#[32, 108, 105, 109, 105, 116, 32]⟩ : ByteArray).size = 7 := rfl
  have z4 : (⟨#[32, 108, 111, 97, 100, 32]⟩ : ByteArray).size = 6 := rfl
  simp only [app_size, z1, z2, z3, z4]
  omega
theorem word_size {n : ByteArray} (h : wordB n.data.toList = true) : n.size ≤ 10 := by
  unfold wordB at h
  simp only [Bool.and_eq_true, inB_iff] at h
  have : n.data.toList.length = n.size := by simp
  omega
set_option maxHeartbeats 4000000 in
theorem l3Text_any (i : Int) (n : ByteArray) (r l o : Int) (w : World) (h1 : 0 ≤ i ∧ i ≤ 999999) (h2 : n.size ≤ 10) (h3 : 0 ≤ r ∧ r ≤ 999999) (h4 : 0 ≤ l ∧ l ≤ 999999) (h5 : 0 ≤ o ∧ o ≤ 999999) :
    Calls Tryz.prog 30 #[.agg #[.int .i64 i, .string n, .int .i64 r, .int .i64 l, .int .i64 o]] w fun e w' => e = .returned (.string (fuT i n r l o)) ∧ Below w.heap.size w w' := by
  have HT := Lib.hid (fuT_eq i n r l o)
  have a1 := num_short (k := i) (by omega) (by omega)
  have a2 := num_short (k := r) (by omega) (by omega)
  have a3 := num_short (k := l) (by omega) (by omega)
  have a4 := num_short (k := o) (by omega) (by omega)
  have N1 := Lib.hid fun W => l1Num_any i (by omega) (by omega) W
  have N2 := Lib.hid fun W => l1Num_any r (by omega) (by omega) W
  have N3 := Lib.hid fun W => l1Num_any l (by omega) (by omega) W
  have N4 := Lib.hid fun W => l1Num_any o (by omega) (by omega) W
  generalize fuT i n r l o = R at *
  generalize numS i = b1 at *
  generalize numS r = b2 at *
  generalize numS l = b3 at *
  generalize numS o = b4 at *
  have z1 : (⟨#[32]⟩ : ByteArray).size = 1 := rfl
  have z2 : (⟨#[32, 114, 97, 116, 101, 32]⟩ : ByteArray).size = 6 := rfl
  have z3 : (⟨#[32, 108, 105, 109, 105, 116, 32]⟩ : ByteArray).size = 7 := rfl
  have z4 : (⟨#[32, 108, 111, 97, 100, 32]⟩ : ByteArray).size = 6 := rfl
  have p1 : (b1 ++ (⟨#[32]⟩ : ByteArray)).size ≤ 100 := by simp only [app_size, z1]; omega
  have p2 : (b1 ++ (⟨#[32]⟩ : ByteArray) ++ n).size ≤ 100 := by simp only [app_size, z1]; omega
  have p3 : (b1 ++ (⟨#[32]⟩ : ByteArray) ++ n ++ (⟨#[32, 114, 97, 116, 101, 32]⟩ : ByteArray)).size ≤ 100 := by simp only [app_size, z1, z2]; omega
  have p4 : (b1 ++ (⟨#[32]⟩ : ByteArray) ++ n ++ (⟨#[32, 114, 97, 116, 101, 32]⟩ : ByteArray) ++ b2).size ≤ 100 := by simp only [app_size, z1, z2]; omega
  have p5 : (b1 ++ (⟨#[32]⟩ : ByteArray) ++ n ++ (⟨#[32, 114, 97, 116, 101, 32]⟩ : ByteArray) ++ b2 ++ (⟨#[32, 108, 105, 109, 105, 116, 32]⟩ : ByteArray)).size ≤ 100 := by simp only [app_size, z1, z2, z3]; omega
  have p6 : (b1 ++ (⟨#[32]⟩ : ByteArray) ++ n ++ (⟨#[32, 114, 97, 116, 101, 32]⟩ : ByteArray) ++ b2 ++ (⟨#[32, 108, 105, 109, 105, 116, 32]⟩ : ByteArray) ++ b3).size ≤ 100 := by simp only [app_size, z1, z2, z3]; omega
  have p7 : (b1 ++ (⟨#[32]⟩ : ByteArray) ++ n ++ (⟨#[32, 114, 97, 116, 101, 32]⟩ : ByteArray) ++ b2 ++ (⟨#[32, 108, 105, 109, 105, 116, 32]⟩ : ByteArray) ++ b3 ++ (⟨#[32, 108, 111, 97, 100, 32]⟩ : ByteArray)).size ≤ 100 := by simp only [app_size, z1, z2, z3, z4]; omega
  have hq := fun k : Later (w.alloc (.cells #[.int .i64 i, .string n, .int .i64 r, .int .i64 l, .int .i64 o] 25)) => k.cell
  go_enter Tryz.func30, Tryz.ntmps30
  go_wp2_with fail
  refine wp_region_later (by kernel_rfl) (by kernel_rfl) ?_
  repeat (go_big_quiet_step ((go_at_call 64; first | with_reducible exact later_of (N1.out _) | with_reducible exact later_of (N2.out _) | with_reducible exact later_of (N3.out _) | with_reducible exact later_of (N4.out _))))
  refine wpQuiet_nil ?_
  rintro _ ⟨wq, rfl⟩
  have hb := wq.h
  generalize wq.w = w1 at hb ⊢
  have hb := Lib.hid (grow_trans (grow_alloc _ _) hb)
  go_wp2
  go_ret
  exact ⟨by rw [← HT.out]; rfl, hb.out⟩
theorem sFuelText_any (i : Int) (n : ByteArray) (r l o : Int) (w : World) (hs : n.size ≤ maxLen) :
    Calls Tryz.prog 7 #[.agg #[.int .i64 i, .string n, .int .i64 r, .int .i64 l, .int .i64 o]] w fun e w' => e = .returned (strV (fuelB i n.data.toList r l o) (fuT i n r l o)) ∧ Below w.heap.size w w' := by
  have HO := Lib.hid fun W => l3One_any i n r l o W hs
  have hc : ∀ w1, Below (w.alloc (.cells #[.int .i64 i, .string n, .int .i64 r, .int .i64 l, .int .i64 o] 25)).heap.size (w.alloc (.cells #[.int .i64 i, .string n, .int .i64 r, .int .i64 l, .int .i64 o] 25)) w1 → w1.cell? ⟨w.heap.size, 0, none⟩ = some (.int .i64 i) ∧ w1.cell? ⟨w.heap.size, 1, none⟩ = some (.string n) ∧ w1.cell? ⟨w.heap.size, 2, none⟩ = some (.int .i64 r) ∧ w1.cell? ⟨w.heap.size, 3, none⟩ = some (.int .i64 l) ∧ w1.cell? ⟨w.heap.size, 4, none⟩ = some (.int .i64 o) := fun w1 hb => ⟨cell_grow (by simp [go_sem]) hb, cell_grow (by simp [go_sem]) hb, cell_grow (by simp [go_sem]) hb, cell_grow (by simp [go_sem]) hb, cell_grow (by simp [go_sem]) hb⟩
  have Hc := Lib.hid hc
  have hb0 : Hid (Below w.heap.size w (w.alloc (.cells #[.int .i64 i, .string n, .int .i64 r, .int .i64 l, .int .i64 o] 25))) := grow_alloc _ _
  clear hc
  cases hf : fuelB i n.data.toList r l o with
  | false =>
    rw [hf] at HO
    clear hf Hc
    generalize fuT i n r l o = R
    go_enter Tryz.func7, Tryz.ntmps7
    go_wp2_with fail
    with_reducible refine (HO.out _).mono ?_
    rintro e w1 ⟨rfl, hb1⟩
    have hb1 := Lib.hid (grow_trans hb0.out hb1)
    go_wp2
    go_ret2
    exact ⟨rfl, hb1.out⟩
  | true =>
    obtain ⟨f1, f2, f3, f4, f5⟩ := fuelB_iff.1 hf
    have f1 := inB_iff.1 f1
    have hn : n.size ≤ 10 := word_size f2
    have HT := Lib.hid fun W => l3Text_any i n r l o W (by omega) hn (by omega) (by omega) (by omega)
    rw [hf] at HO
    clear hf f2 hs
    generalize fuT i n r l o = R at *
    go_enter Tryz.func7, Tryz.ntmps7
    go_wp2_with fail
    with_reducible refine (HO.out _).mono ?_
    rintro e w1 ⟨rfl, hb1⟩
    obtain ⟨c0, c1, c2, c3, c4⟩ := Hc.out _ hb1
    have hb1 := Lib.hid (grow_trans hb0.out hb1)
    go_wp2_with fail
    with_reducible refine (HT.out _).mono ?_
    rintro e w2 ⟨rfl, hb2⟩
    have hb2 := Lib.hid (grow_trans hb1.out hb2)
    go_wp2
    go_ret2
    exact ⟨rfl, hb2.out⟩
set_option maxHeartbeats 16000000 in
theorem FuelText_any (i : Int) (n : ByteArray) (r l o : Int) (w : World) (hs : n.size ≤ maxLen) (ht : Lib.TabIs Tryz.prog w "internal/strconv.uint64pow10" .u64 Lib.pow10Tab) :
    Calls Tryz.prog 6 #[.agg #[.int .i64 i, .string n, .int .i64 r, .int .i64 l, .int .i64 o]] w fun e w' => e = .returned (strV (fuelB i n.data.toList r l o) (fuT i n r l o)) ∧ Below w.heap.size w w' := by
  have HO := Lib.hid fun W => IsFuel_any i n r l o W hs
  have hc : ∀ w1, Below (w.alloc (.cells #[.int .i64 i, .string n, .int .i64 r, .int .i64 l, .int .i64 o] 25)).heap.size (w.alloc (.cells #[.int .i64 i, .string n, .int .i64 r, .int .i64 l, .int .i64 o] 25)) w1 → w1.cell? ⟨w.heap.size, 0, none⟩ = some (.int .i64 i) ∧ w1.cell? ⟨w.heap.size, 1, none⟩ = some (.string n) ∧ w1.cell? ⟨w.heap.size, 2, none⟩ = some (.int .i64 r) ∧ w1.cell? ⟨w.heap.size, 3, none⟩ = some (.int .i64 l) ∧ w1.cell? ⟨w.heap.size, 4, none⟩ = some (.int .i64 o) := fun w1 hb => ⟨cell_grow (by simp [go_sem]) hb, cell_grow (by simp [go_sem]) hb, cell_grow (by simp [go_sem]) hb, cell_grow (by simp [go_sem]) hb, cell_grow (by simp [go_sem]) hb⟩
  have Hc := Lib.hid hc
  have hb0 : Hid (Below w.heap.size w (w.alloc (.cells #[.int .i64 i, .string n, .int .i64 r, .int .i64 l, .int .i64 o] 25))) := grow_alloc _ _
  have HT := Lib.hid fun W (hW : Below w.heap.size w W) => tab_below gPow ht hW
  clear hc ht
  cases hf : fuelB i n.data.toList r l o with
  | false =>
    rw [hf] at HO
    clear hf Hc HT
    generalize fuT i n r l o = R
    go_enter Tryz.func6, Tryz.ntmps6
    go_wp2_with fail
    with_reducible refine (HO.out _).mono ?_
    rintro e w1 ⟨rfl, hb1⟩
    have hb1 := Lib.hid (grow_trans hb0.out hb1)
    go_wp2
    go_ret2
    exact ⟨rfl, hb1.out⟩
  | true =>
    obtain ⟨f1, f2, f3, f4, f5⟩ := fuelB_iff.1 hf
    have f1 := inB_iff.1 f1
    have hn : n.size ≤ 10 := word_size f2
    have I1 := Lib.hid fun W (hW : Below w.heap.size w W) => itoa_any i (by omega) (by omega) W (HT.out W hW)
    have I2 := Lib.hid fun W (hW : Below w.heap.size w W) => itoa_any r (by omega) (by omega) W (HT.out W hW)
    have I3 := Lib.hid fun W (hW : Below w.heap.size w W) => itoa_any l (by omega) (by omega) W (HT.out W hW)
    have I4 := Lib.hid fun W (hW : Below w.heap.size w W) => itoa_any o (by omega) (by omega) W (HT.out W hW)
    have hz := fuT_size (i := i) (n := n) (r := r) (l := l) (o := o) (by omega) hn (by omega) (by omega) (by omega)
    have HJ : Hid (∀ W : World, Calls Tryz.prog 28 #[.slice (some ⟨W.heap.size, 0, none⟩) 8 8, .string ⟨#[32]⟩] (W.alloc (.cells #[.string (numS i), .string n, .string ⟨#[114, 97, 116, 101]⟩, .string (numS r), .string ⟨#[108, 105, 109, 105, 116]⟩, .string (numS l), .string ⟨#[108, 111, 97, 100]⟩, .string (numS o)] 9)) fun e w' => e = .returned (.string (fuT i n r l o)) ∧ Below W.heap.size W w') := by
      show ∀ W : World, _
      intro W
      have := Tryz.strings_Join W.heap.size 0 8 (fuW i n r l o) ⟨#[32]⟩ (W.alloc (.cells #[.string (numS i), .string n, .string ⟨#[114, 97, 116, 101]⟩, .string (numS r), .string ⟨#[108, 105, 109, 105, 116]⟩, .string (numS l), .string ⟨#[108, 111, 97, 100]⟩, .string (numS o)] 9)) (fun j x hj => by
        have hj8 : j < 8 := (List.getElem?_eq_some_iff.1 hj).1
        match j, hj8, hj with
        | 0, _, hj | 1, _, hj | 2, _, hj | 3, _, hj | 4, _, hj | 5, _, hj | 6, _, hj | 7, _, hj => simp [fuW] at hj; subst hj; simp [go_sem]) (by simp) (by simp [fuW]) (by simp [fuW]) (by
          have : (Lib.join ((fuW i n r l o).map (·.data.toList)) [32]).length = (fuT i n r l o).size := by
            unfold fuT jnS
            rw [bs_size]; rfl
          show (Lib.join _ [32]).length ≤ _
          rw [this]; omega)
      exact this.mono fun e w1 ⟨he, hb⟩ => ⟨he, (grow_alloc _ _).trans (hb.mono (by simp))⟩
    rw [hf] at HO
    clear hf f2 hs HT
    generalize fuT i n r l o = R at *
    generalize numS i = b1 at *
    generalize numS r = b2 at *
    generalize numS l = b3 at *
    generalize numS o = b4 at *
    go_enter Tryz.func6, Tryz.ntmps6
    go_wp2_with fail
    with_reducible refine (HO.out _).mono ?_
    rintro e w1 ⟨rfl, hb1⟩
    have hcc := Hc.out _ hb1
    have hb1 := Lib.hid (grow_trans hb0.out hb1)
    have mkS : Hid (∀ W, Below w1.heap.size w1 W → W.cell? ⟨w.heap.size, 0, none⟩ = some (.int .i64 i) ∧ W.cell? ⟨w.heap.size, 1, none⟩ = some (.string n) ∧ W.cell? ⟨w.heap.size, 2, none⟩ = some (.int .i64 r) ∧ W.cell? ⟨w.heap.size, 3, none⟩ = some (.int .i64 l) ∧ W.cell? ⟨w.heap.size, 4, none⟩ = some (.int .i64 o) ∧ Below w1.heap.size w1 W) := fun W hW => ⟨cell_below hcc.1 hW, cell_below hcc.2.1 hW, cell_below hcc.2.2.1 hW, cell_below hcc.2.2.2.1 hW, cell_below hcc.2.2.2.2 hW, hW⟩
    obtain ⟨c0, c1, c2, c3, c4⟩ := hcc
    clear Hc hb0
    go_wp2_with fail
    go_region_held_law (fun W => W.cell? ⟨w.heap.size, 0, none⟩ = some (.int .i64 i) ∧ W.cell? ⟨w.heap.size, 1, none⟩ = some (.string n) ∧ W.cell? ⟨w.heap.size, 2, none⟩ = some (.int .i64 r) ∧ W.cell? ⟨w.heap.size, 3, none⟩ = some (.int .i64 l) ∧ W.cell? ⟨w.heap.size, 4, none⟩ = some (.int .i64 o) ∧ Below w1.heap.size w1 W)
      (first | exact mkS.out _ (by first | assumption | exact (‹_ ∧ _ ∧ _ ∧ _ ∧ _ ∧ Below w1.heap.size w1 _›).2.2.2.2.2) | exact mkS.out _ (grow_drew _) | exact mkS.out _ (grow_trans (by first | assumption | exact (‹_ ∧ _ ∧ _ ∧ _ ∧ _ ∧ Below w1.heap.size w1 _›).2.2.2.2.2) (grow_alloc _ _)))
      (first
        | (go_at_call 27; with_reducible refine (I1.out _ (grow_trans hb1.out (by first | assumption | exact (‹_ ∧ _ ∧ _ ∧ _ ∧ _ ∧ Below w1.heap.size w1 _›).2.2.2.2.2))).mono ?_; rintro e wc ⟨rfl, hbc⟩; have hbc6 := grow_trans (by first | assumption | exact (‹_ ∧ _ ∧ _ ∧ _ ∧ _ ∧ Below w1.heap.size w1 _›).2.2.2.2.2) hbc)
        | (go_at_call 27; with_reducible refine (I2.out _ (grow_trans hb1.out (by first | assumption | exact (‹_ ∧ _ ∧ _ ∧ _ ∧ _ ∧ Below w1.heap.size w1 _›).2.2.2.2.2))).mono ?_; rintro e wc ⟨rfl, hbc⟩; have hbc6 := grow_trans (by first | assumption | exact (‹_ ∧ _ ∧ _ ∧ _ ∧ _ ∧ Below w1.heap.size w1 _›).2.2.2.2.2) hbc)
        | (go_at_call 27; with_reducible refine (I3.out _ (grow_trans hb1.out (by first | assumption | exact (‹_ ∧ _ ∧ _ ∧ _ ∧ _ ∧ Below w1.heap.size w1 _›).2.2.2.2.2))).mono ?_; rintro e wc ⟨rfl, hbc⟩; have hbc6 := grow_trans (by first | assumption | exact (‹_ ∧ _ ∧ _ ∧ _ ∧ _ ∧ Below w1.heap.size w1 _›).2.2.2.2.2) hbc)
        | (go_at_call 27; with_reducible refine (I4.out _ (grow_trans hb1.out (by first | assumption | exact (‹_ ∧ _ ∧ _ ∧ _ ∧ _ ∧ Below w1.heap.size w1 _›).2.2.2.2.2))).mono ?_; rintro e wc ⟨rfl, hbc⟩; have hbc6 := grow_trans (by first | assumption | exact (‹_ ∧ _ ∧ _ ∧ _ ∧ _ ∧ Below w1.heap.size w1 _›).2.2.2.2.2) hbc))
    all_goals
      have HJ2 := Lib.hid (HJ.out wc)
      have hbw := Lib.hid (grow_trans hb1.out hbc6)
      go_wp2_with fail
      with_reducible refine HJ2.out.mono ?_
      rintro e w9 ⟨rfl, hb9⟩
      have hb9 := Lib.hid (grow_trans hbw.out hb9)
      go_wp2
      go_ret2
      exact ⟨rfl, hb9.out⟩
end Go.Proofs.YtnadeddkogapoaaGreatDoor
