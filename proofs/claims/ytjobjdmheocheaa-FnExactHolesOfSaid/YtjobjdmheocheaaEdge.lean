/- Sides of cells; EdgeLength in the program. Conditions: as each states. -/
import Derived.Test.YtjobjdmheocheaaGrow2
namespace Go.Proofs.Ytjobjdmheocheaa
open Go.ChangeShapes Go.WideShapes Go.ChangeAt Go.RowKit Go.Deep
set_option linter.unusedVariables false
set_option linter.unusedSimpArgs false
set_option maxRecDepth 100000

/-- Two cells share a column or a row. -/
def alongB (x a b : Int) : Bool := (a % x == b % x) || (a / x == b / x)
/-- Two cells are neighbors in one column or row. -/
def besB (x a b : Int) : Bool := (apartN x a b == 1) && alongB x a b
/-- The free sides of the first cells of a region. -/
def edgeS (x : Int) (xs : List Int) (k : Nat) : Int := ((xs.take k).map fun c => 4 - ((xs.filter (besB x c)).length : Int)).sum
theorem edgeS_succ {x : Int} {xs : List Int} {k : Nat} {z : Int} (h : xs[k]? = some z) : edgeS x xs (k + 1) = edgeS x xs k + (4 - ((xs.filter (besB x z)).length : Int)) := by
  obtain ⟨hk, rfl⟩ := List.getElem?_eq_some_iff.1 h
  unfold edgeS
  rw [List.take_succ_eq_append_getElem hk, List.map_append, List.sum_append]; simp
theorem edgeS_bd {x : Int} {xs : List Int} (hn : xs.length ≤ 25) : ∀ k : Nat, -25 * (k : Int) ≤ edgeS x xs k ∧ edgeS x xs k ≤ 4 * k
  | 0 => by simp [edgeS]
  | k + 1 => by
    have ih := edgeS_bd (x := x) hn k
    cases h : xs[k]? with
    | none =>
      rw [List.getElem?_eq_none_iff] at h
      have : edgeS x xs (k + 1) = edgeS x xs k := by unfold edgeS; rw [List.take_of_length_le (by omega), List.take_of_length_le h]
      rw [this]; omega
    | some z =>
      rw [edgeS_succ h]
      have : (xs.filter (besB x z)).length ≤ xs.length := List.length_filter_le _ _
      omega
set_option maxHeartbeats 2000000 in
theorem beside_any (x y : Int) (u : Value) (a b : Int) (w : World) (h1 : 1 ≤ x) (h2 : x ≤ 5) (h3 : 0 ≤ a) (h4 : a ≤ 25) (h5 : 0 ≤ b) (h6 : b ≤ 25) :
    Calls Try.prog 68 #[terrV x y u, .int .i64 a, .int .i64 b] w fun e w' => e = .returned (.bool (besB x a b)) ∧ Below w.heap.size w w' := by
  have hq := fun n : Later (w.alloc (.cells #[.int .i64 x, .int .i64 y, u] 28)) => n.cell
  have HA := Lib.hid fun W => apart_any x y u a b W h1 h2 h3 h4 h5 h6
  have HC1 := Lib.hid fun W => column_any x y u a W h1 h2 h3 h4
  have HC2 := Lib.hid fun W => column_any x y u b W h1 h2 h5 h6
  have HR1 := Lib.hid fun W => row_any x y u a W h1 h2 h3 h4
  have HR2 := Lib.hid fun W => row_any x y u b W h1 h2 h5 h6
  have HB : Hid (besB x a b = ((apartN x a b == 1) && ((a % x == b % x) || (a / x == b / x)))) := rfl
  clear h1 h2 h3 h4 h5 h6
  generalize besB x a b = R at *
  generalize apartN x a b = p at *
  generalize a % x = ca at *
  generalize b % x = cb at *
  generalize a / x = ra at *
  generalize b / x = rb at *
  by_cases hp : p = 1
  · by_cases hc : ca = cb
    · have e1 : (p == 1) = true := by simpa using hp
      have e2 : (ca == cb) = true := by simpa using hc
      have hR : R = true := by rw [HB.out, e1, e2]; rfl
      subst hR
      clear HB hp hc
      go_enter Try.func68, Try.ntmps68
      go_wp2_with fail
      refine wp_region_later (by kernel_rfl) (by kernel_rfl) ?_
      repeat (go_big_quiet_step ((first | (go_at_call 65; exact later_of (HA.out _)) | (go_at_call 98; first | exact later_of (HC1.out _) | exact later_of (HC2.out _)) | (go_at_call 99; first | exact later_of (HR1.out _) | exact later_of (HR2.out _)))))
      refine wpQuiet_nil ?_
      rintro _ ⟨wq, rfl⟩
      go_wp2
      go_ret
      exact ⟨rfl, grow_trans (grow_alloc _ _) wq.h⟩
    · have e1 : (p == 1) = true := by simpa using hp
      have e2 : (ca == cb) = false := by simpa using hc
      have hR : R = (ra == rb) := by rw [HB.out, e1, e2]; rfl
      subst hR
      clear HB hp hc
      go_enter Try.func68, Try.ntmps68
      go_wp2_with fail
      refine wp_region_later (by kernel_rfl) (by kernel_rfl) ?_
      repeat (go_big_quiet_step ((first | (go_at_call 65; exact later_of (HA.out _)) | (go_at_call 98; first | exact later_of (HC1.out _) | exact later_of (HC2.out _)) | (go_at_call 99; first | exact later_of (HR1.out _) | exact later_of (HR2.out _)))))
      refine wpQuiet_nil ?_
      rintro _ ⟨wq, rfl⟩
      go_wp2
      go_ret
      exact ⟨rfl, grow_trans (grow_alloc _ _) wq.h⟩
  · have e1 : (p == 1) = false := by simpa using hp
    have hR : R = false := by rw [HB.out, e1]; rfl
    subst hR
    clear HB hp
    go_enter Try.func68, Try.ntmps68
    go_wp2_with fail
    refine wp_region_later (by kernel_rfl) (by kernel_rfl) ?_
    repeat (go_big_quiet_step ((first | (go_at_call 65; exact later_of (HA.out _)) | (go_at_call 98; first | exact later_of (HC1.out _) | exact later_of (HC2.out _)) | (go_at_call 99; first | exact later_of (HR1.out _) | exact later_of (HR2.out _)))))
    refine wpQuiet_nil ?_
    rintro _ ⟨wq, rfl⟩
    go_wp2
    go_ret
    exact ⟨rfl, grow_trans (grow_alloc _ _) wq.h⟩
theorem callFunc_edge : ∀ args w, (callFunc 67 args).run Try.prog w = .ok (.enter 67 args) w := fun _ _ => by rfl
theorem edge1_any (x y : Int) (u : Value) (B C : Nat) (c z : Int) (w : World) (hc0 : w.cell? ⟨B, 0, none⟩ = some (.int .i64 x)) (hc1 : w.cell? ⟨B, 1, none⟩ = some (.int .i64 y)) (hc2 : w.cell? ⟨B, 2, none⟩ = some u) (hc : w.cell? ⟨C, 0, none⟩ = some (.int .i64 c))
    (h1 : 1 ≤ x) (h2 : x ≤ 5) (h3 : 0 ≤ c) (h4 : c ≤ 25) (h5 : 0 ≤ z) (h6 : z ≤ 25) :
    Calls Try.prog 67 #[.int .i64 z, .pointer (some ⟨B, 0, none⟩), .pointer (some ⟨C, 0, none⟩)] w fun e w' => e = .returned (.bool (besB x c z)) ∧ Below w.heap.size w w' := by
  have HA := Lib.hid (beside_any x y u c z w h1 h2 h3 h4 h5 h6)
  go_enter Try.func67, Try.ntmps67
  go_wp2_with fail
  with_reducible refine HA.out.mono ?_
  rintro e w1 ⟨rfl, hb1⟩
  go_wp2
  go_ret
  exact ⟨rfl, hb1⟩
set_option maxHeartbeats 4000000 in
theorem EdgeLength_any (x y : Int) (u : Value) (zs : List Int) (va : Value) (xs : List Int) (w : World) (h : Sl w 1 u zs.length (ints zs)) (ha : Sl w 1 va xs.length (ints xs)) :
    Calls Try.prog 30 #[terrV x y u, va] w fun e w' => e = .returned (okR (oneB x y zs xs) (edgeS x xs xs.length)) ∧ Below w.heap.size w w' := by
  obtain ⟨A, c, rfl⟩ := h.val
  obtain ⟨Aa, ca, rfl⟩ := ha.val
  have hb0 : Hid (Below w.heap.size w ((w.alloc (.cells #[.int .i64 x, .int .i64 y, .slice A zs.length c] 28)).alloc (.cells #[.slice Aa xs.length ca] 22))) := two_news _ _ _
  have hTB0 : Hid (TB ((w.alloc (.cells #[.int .i64 x, .int .i64 y, .slice A zs.length c] 28)).alloc (.cells #[.slice Aa xs.length ca] 22)) w.heap.size x y (.slice A zs.length c)) := by show TB _ _ _ _ _; unfold TB; simp [go_sem]
  have HR := Lib.hid (isRegion_one x y _ zs (.slice (some ⟨w.heap.size + 1, 0, none⟩) 1 1) _ xs ((w.alloc (.cells #[.int .i64 x, .int .i64 y, .slice A zs.length c] 28)).alloc (.cells #[.slice Aa xs.length ca] 22)) (h.below hb0.out) (Sl.boxAt (hp2 _ _ _)) (ha.below hb0.out))
  have Hs := Lib.hid fun W hW => ha.below (w' := W) hW
  have HF : Hid (oneB x y zs xs = true → (1 ≤ x ∧ x ≤ 5) ∧ zs.length ≤ 25 ∧ Rise xs ∧ (∀ z ∈ xs, 0 ≤ z ∧ z ≤ (zs.length : Int) - 1) ∧ xs.length ≤ zs.length) := one_facts
  clear h ha
  generalize oneB x y zs xs = T at *
  generalize zs.length = M at *
  cases T
  · generalize edgeS x xs xs.length = S at *
    generalize xs.length = N at *
    go_enter Try.func30, Try.ntmps30
    go_wp2_with fail
    with_reducible refine HR.out.mono ?_
    rintro e w1 ⟨rfl, hb1⟩
    have hb1 := Lib.hid (grow_trans hb0.out hb1)
    go_wp2
    go_ret2
    exact ⟨rfl, hb1.out⟩
  · obtain ⟨⟨hx1, hx2⟩, hm25, r1, s1, hl1⟩ := HF.out rfl
    have hbd := fun k => edgeS_bd (x := x) (xs := xs) (by omega) k
    have Hbd := Lib.hid hbd
    have S1 := Lib.hid s1
    have Hlen := Lib.hid fun p : Int → Bool => List.length_filter_le p xs
    clear HF r1 s1 hbd
    generalize hN : xs.length = N at *
    have HN := Lib.hid hN
    clear hN
    go_enter Try.func30, Try.ntmps30
    go_wp2_with fail
    with_reducible refine HR.out.mono ?_
    rintro e w1 ⟨rfl, hb1⟩
    have hT1 := Lib.hid (hTB0.out.below hb1)
    have hb1 := Lib.hid (grow_trans hb0.out hb1)
    clear HR
    go_wp2
    go_loopw [6, 16] (fun s i wr => ∃ k : Nat, k ≤ N ∧ i = .int .i64 k ∧ s = .int .i64 (edgeS x xs k) ∧ Hid (Below w.heap.size w wr) ∧ Hid (TB wr w.heap.size x y (.slice A M c))) (fun _ i _ => N - (intOf i).toNat)
    case atStart => exact ⟨0, Nat.zero_le _, rfl, by simp [edgeS], hb1.out, hT1.out⟩
    case round =>
      obtain ⟨k, hk, rfl, rfl, hb, hT⟩ := hrel
      by_cases hlt : k < N
      · obtain ⟨b, off, z, rfl, hz, hcell⟩ := (Hs.out _ hb.out).at1 HN.out hlt
        have hzb := S1.out z (List.mem_of_getElem? hz)
        have Hsucc := Lib.hid (edgeS_succ (x := x) hz)
        have hbk := Hbd.out k
        have hfl := Hlen.out (besB x z)
        clear hz
        have HC := Lib.hid fun W (hW : Below (wr.alloc (.cells #[.int .i64 z] 3)).heap.size (wr.alloc (.cells #[.int .i64 z] 3)) W) => filter_any (.slice (some ⟨b, off, none⟩) N ca) xs 67 #[] #[.pointer (some ⟨w.heap.size, 0, none⟩), .pointer (some ⟨wr.heap.size, 0, none⟩)] (besB x z) W (by rw [HN.out]; exact Hs.out W (grow_trans hb.out (grow_trans (grow_alloc _ _) hW))) (by have := HN.out; omega) callFunc_edge
          (fun W' z2 hz2 hW' => by
            have hw2 := grow_trans hW hW'
            have hTT := hT.out.below (grow_trans (grow_alloc _ _) hw2)
            have hz2b := S1.out z2 hz2
            have := edge1_any x y _ w.heap.size wr.heap.size z z2 W' hTT.1 hTT.2.1 hTT.2.2 (by rw [hw2.cell (by simp)]; simp [go_sem]) hx1 hx2 hzb.1 (by omega) hz2b.1 (by omega)
            simpa using this)
        generalize (xs.filter (besB x z)) = fl at *
        generalize edgeS x xs k = S at *
        generalize hS' : edgeS x xs (k + 1) = S' at *
        have HS' := Lib.hid hS'
        clear hS'
        go_wp2_with fail
        with_reducible refine (HC.out _ (Below.refl _ _)).mono ?_
        rintro e w4 ⟨v4, rfl, o4, hb4⟩
        have hb4' := grow_trans (grow_alloc wr (.cells #[.int .i64 z] 3)) hb4
        have hT4 := Lib.hid (hT.out.below hb4')
        have hb5 := Lib.hid (grow_trans hb.out hb4')
        obtain ⟨A4, c4, rfl, _⟩ := own_form o4
        clear o4 hb4 hb4' HC
        go_wp2
        go_roundw
        case rel => exact ⟨k + 1, by omega, by go_num, by rw [HS'.out, Hsucc.out], hb5.out, hT4.out⟩
        case measure => simp [intOf]; omega
      · obtain rfl : k = N := by omega
        go_wp2
        go_ret2
        exact ⟨rfl, hb.out⟩
end Go.Proofs.Ytjobjdmheocheaa
