/- The fire over a terrain: its steps, and contracts of the work between two cells. Conditions: as each states. -/
import Derived.Test.YtnacofmjipilhaaFireP
import Derived.Test.YtnacofmjipilhaaNear
import Derived.Test.YtnacofmjipilhaaSet2
namespace Go.Proofs.Ytnacofmjipilhaa
open Go.ChangeShapes Go.WideShapes Go.ChangeAt Go.RowKit Go.Deep
set_option linter.unusedVariables false
set_option linter.unusedSimpArgs false
set_option maxRecDepth 100000

/-- The work between two cells. -/
def wrkF (x : Int) (zs : List Int) (a b : Nat) : Int := if (a : Int) % x = (b : Int) % x ∨ (a : Int) / x = (b : Int) / x then 2 * (zs.getD a 0 + zs.getD b 0) else 3 * (zs.getD a 0 + zs.getD b 0)
/-- The cells in which fire starts. -/
def fireSr (zs srcs : List Int) (c : Nat) : Prop := c < zs.length ∧ hasB srcs c = true ∧ burnP zs c = true
/-- A step of fire. -/
def fireSt (x : Int) (zs : List Int) (a b : Nat) : Prop := b < zs.length ∧ nearP x a b = true ∧ burnP zs b = true
/-- Its end. -/
def fireD (x : Int) (zs : List Int) (ps : List (Int × Int)) (a b : Nat) (t : Int) : Int := doneF ps t (wrkF x zs a b)
theorem terr_vals {x y : Int} {zs : List Int} (h : terrB x y zs = true) (k : Nat) : 0 ≤ zs.getD k 0 ∧ zs.getD k 0 ≤ 20 := by
  unfold terrB at h
  simp only [Bool.and_eq_true, List.all_eq_true, decide_eq_true_eq] at h
  rcases Nat.lt_or_ge k zs.length with hk | hk
  · rw [List.getD_eq_getElem?_getD, List.getElem?_eq_getElem hk]
    have := inB_iff.1 (h.2 zs[k] (List.getElem_mem hk))
    exact this
  · rw [List.getD_eq_getElem?_getD, List.getElem?_eq_none hk]
    simp
theorem wrk_bd {x y : Int} {zs : List Int} (h : terrB x y zs = true) (a b : Nat) : 0 ≤ wrkF x zs a b ∧ wrkF x zs a b ≤ 120 := by
  have h1 := terr_vals h a
  have h2 := terr_vals h b
  unfold wrkF
  split <;> omega
theorem wrk_pos {x y : Int} {zs : List Int} (h : terrB x y zs = true) (a : Nat) {b : Nat} (hb : burnP zs b = true) : 0 < wrkF x zs a b := by
  have h1 := terr_vals h a
  unfold burnP at hb
  have h2 := of_decide_eq_true hb
  unfold wrkF
  split <;> omega
theorem fireX {x y : Int} {zs srcs : List Int} (ps : List (Int × Int)) {s : Int} (h : terrB x y zs = true) (h0 : 0 ≤ s) (h1 : s ≤ 1000) : FireX zs.length (fireSr zs srcs) (fireSt x zs) (fireD x zs ps) s := by
  have hd := terr_dims h
  refine ⟨h0, h1, by omega, fun c hc => hc.1, fun a b hs => hs.1, fun a b t ht hs => doneF_gt ps (wrk_pos h a hs.2.2), fun a b t t' ht => doneF_late ps _ ht, fun a b t ht hs => ?_⟩
  have h2 := (doneF_bd ps t (wrkF x zs a b)).2
  have h3 := wrk_bd h a b
  unfold fireD
  omega
/-- The ticks at which fire arrives. -/
noncomputable def arrL (x : Int) (zs : List Int) (ps : List (Int × Int)) (srcs : List Int) (s : Int) : List Int := lstL zs.length (fireSr zs srcs) (fireSt x zs) (fireD x zs ps) s
theorem arrL_le (x : Int) (zs : List Int) (ps : List (Int × Int)) (srcs : List Int) (s : Int) : (arrL x zs ps srcs s).length ≤ zs.length := lstL_le _ _ _ _ _
/-- A table of the least ticks of this fire. -/
abbrev LstF (x : Int) (zs : List Int) (ps : List (Int × Int)) (srcs : List Int) (s : Int) (L : List Int) : Prop := Least zs.length (fireSr zs srcs) (fireSt x zs) (fireD x zs ps) s L
set_option maxHeartbeats 2000000 in
theorem l4Work_any (x y : Int) (u : Value) (zs : List Int) (a b : Nat) (w : World) (h : Sl w 1 u zs.length (ints zs)) (ht : terrB x y zs = true) (ha : a < zs.length) (hb : b < zs.length) :
    Calls Try.prog 164 #[terrV x y u, .int .i64 a, .int .i64 b] w fun e w' => e = .returned (.int .i64 (wrkF x zs a b)) ∧ Below w.heap.size w w' := by
  obtain ⟨⟨h1, h2⟩, _, _, h25⟩ := terr_dims ht
  have va := terr_vals ht a
  have vb := terr_vals ht b
  have hmx := h.len
  unfold maxLen at hmx
  obtain ⟨A, c, rfl⟩ := h.val
  obtain ⟨bA, off, za, rfl, hza, hca⟩ := (h.below (grow_alloc w (.cells #[.int .i64 x, .int .i64 y, .slice A zs.length c] 79))).at1 rfl ha
  obtain ⟨bA2, off2, zb, e, hzb, hcb⟩ := (h.below (grow_alloc w (.cells #[.int .i64 x, .int .i64 y, .slice (some ⟨bA, off, none⟩) zs.length c] 79))).at1 rfl hb
  obtain ⟨rfl, rfl⟩ : bA = bA2 ∧ off = off2 := by simpa using e
  have ea : zs.getD a 0 = za := by rw [List.getD_eq_getElem?_getD, hza]; rfl
  have eb : zs.getD b 0 = zb := by rw [List.getD_eq_getElem?_getD, hzb]; rfl
  have HW : Hid (wrkF x zs a b = if (a : Int) % x = (b : Int) % x ∨ (a : Int) / x = (b : Int) / x then 2 * (za + zb) else 3 * (za + zb)) := by show _ = _; unfold wrkF; rw [ea, eb]
  rw [ea] at va
  rw [eb] at vb
  obtain ⟨⟨p1, p2⟩, p3, p4⟩ := cell_bds (c := (a : Int)) h1 h2 (by omega) (by omega)
  obtain ⟨⟨q1, q2⟩, q3, q4⟩ := cell_bds (c := (b : Int)) h1 h2 (by omega) (by omega)
  clear e hza hzb ea eb h ht
  generalize hN : zs.length = N at *
  generalize wrkF x zs a b = R at *
  clear hN
  have hal : (a : Int) < (N : Int) := by omega
  have hbl : (b : Int) < (N : Int) := by omega
  have hq := fun n : Later (w.alloc (.cells #[.int .i64 x, .int .i64 y, .slice (some ⟨bA, off, none⟩) N c] 79)) => n.cell
  have hk := World.block_lt_of_cell? _ _ hca
  have hk : bA < w.heap.size + 1 := by simpa using hk
  go_enter Try.func164, Try.ntmps164
  go_wp2_with fail
  refine wp_region_later (by kernel_rfl) (by kernel_rfl) ?_
  repeat (go_big_quiet_step (fail))
  refine wpQuiet_nil ?_
  rintro _ ⟨wq, rfl⟩
  have hb1 := wq.h
  have k0 : wq.w.cell? ⟨w.heap.size, 0, none⟩ = some (.int .i64 x) := by rw [hq wq _ _ (by simp)]; simp [go_sem]
  have hs1 : w.heap.size < wq.w.heap.size := by have := hb1.size; simp at this; omega
  generalize wq.w = w1 at hb1 k0 hs1 ⊢
  have hq1 := fun n : Later w1 => n.cell
  have Hb1 := Lib.hid (grow_trans (grow_alloc _ _) hb1)
  clear hq hb1 hca hcb hmx
  by_cases hC : (a : Int) % x = (b : Int) % x
  · have HR : Hid (R = 2 * (za + zb)) := by show _ = _; rw [HW.out, if_pos (Or.inl hC)]
    have hC' : ((a : Int) % x == (b : Int) % x) = true := by simpa using hC
    go_wp2_with fail
    refine wp_region_later (by kernel_rfl) (by kernel_rfl) ?_
    repeat (go_big_quiet_step (fail))
    refine wpQuiet_nil ?_
    rintro _ ⟨w2, rfl⟩
    go_wp2
    go_ret
    exact ⟨ret_int (by rw [HR.out]), grow_trans Hb1.out w2.h⟩
  · have hC' : ((a : Int) % x == (b : Int) % x) = false := by simpa using hC
    by_cases hD : (a : Int) / x = (b : Int) / x
    · have HR : Hid (R = 2 * (za + zb)) := by show _ = _; rw [HW.out, if_pos (Or.inr hD)]
      have hD' : ((a : Int) / x == (b : Int) / x) = true := by simpa using hD
      go_wp2_with fail
      refine wp_region_later (by kernel_rfl) (by kernel_rfl) ?_
      repeat (go_big_quiet_step (fail))
      refine wpQuiet_nil ?_
      rintro _ ⟨w2, rfl⟩
      go_wp2
      go_ret
      exact ⟨ret_int (by rw [HR.out]), grow_trans Hb1.out w2.h⟩
    · have HR : Hid (R = 3 * (za + zb)) := by show _ = _; rw [HW.out, if_neg (fun h => h.elim hC hD)]
      have hD' : ((a : Int) / x == (b : Int) / x) = false := by simpa using hD
      go_wp2_with fail
      refine wp_region_later (by kernel_rfl) (by kernel_rfl) ?_
      repeat (go_big_quiet_step (fail))
      refine wpQuiet_nil ?_
      rintro _ ⟨w2, rfl⟩
      go_wp2
      go_ret
      exact ⟨ret_int (by rw [HR.out]), grow_trans Hb1.out w2.h⟩
set_option maxHeartbeats 2000000 in
theorem work_any (x y : Int) (u : Value) (zs : List Int) (a b : Nat) (w : World) (h : Sl w 1 u zs.length (ints zs)) (ht : terrB x y zs = true) (ha : a < zs.length) (hb : b < zs.length) :
    Calls Try.prog 133 #[terrV x y u, .int .i64 a, .int .i64 b] w fun e w' => e = .returned (.int .i64 (wrkF x zs a b)) ∧ Below w.heap.size w w' := by
  obtain ⟨⟨h1, h2⟩, _, _, h25⟩ := terr_dims ht
  have va := terr_vals ht a
  have vb := terr_vals ht b
  have hmx := h.len
  unfold maxLen at hmx
  obtain ⟨A, c, rfl⟩ := h.val
  obtain ⟨bA, off, za, rfl, hza, hca⟩ := (h.below (grow_alloc w (.cells #[.int .i64 x, .int .i64 y, .slice A zs.length c] 79))).at1 rfl ha
  obtain ⟨bA2, off2, zb, e, hzb, hcb⟩ := (h.below (grow_alloc w (.cells #[.int .i64 x, .int .i64 y, .slice (some ⟨bA, off, none⟩) zs.length c] 79))).at1 rfl hb
  obtain ⟨rfl, rfl⟩ : bA = bA2 ∧ off = off2 := by simpa using e
  have ea : zs.getD a 0 = za := by rw [List.getD_eq_getElem?_getD, hza]; rfl
  have eb : zs.getD b 0 = zb := by rw [List.getD_eq_getElem?_getD, hzb]; rfl
  have HW : Hid (wrkF x zs a b = if (a : Int) % x = (b : Int) % x ∨ (a : Int) / x = (b : Int) / x then 2 * (za + zb) else 3 * (za + zb)) := by show _ = _; unfold wrkF; rw [ea, eb]
  rw [ea] at va
  rw [eb] at vb
  obtain ⟨⟨p1, p2⟩, p3, p4⟩ := cell_bds (c := (a : Int)) h1 h2 (by omega) (by omega)
  obtain ⟨⟨q1, q2⟩, q3, q4⟩ := cell_bds (c := (b : Int)) h1 h2 (by omega) (by omega)
  clear e hza hzb ea eb h ht
  generalize hN : zs.length = N at *
  generalize wrkF x zs a b = R at *
  clear hN
  have hal : (a : Int) < (N : Int) := by omega
  have hbl : (b : Int) < (N : Int) := by omega
  have a25 : (a : Int) ≤ 25 := by omega
  have b25 : (b : Int) ≤ 25 := by omega
  have hq := fun n : Later (w.alloc (.cells #[.int .i64 x, .int .i64 y, .slice (some ⟨bA, off, none⟩) N c] 79)) => n.cell
  have hk := World.block_lt_of_cell? _ _ hca
  have hk : bA < w.heap.size + 1 := by simpa using hk
  go_enter Try.func133, Try.ntmps133
  go_wp2_with fail
  refine wp_region_later (by kernel_rfl) (by kernel_rfl) ?_
  repeat (go_big_quiet_step (fail))
  refine wpQuiet_nil ?_
  rintro _ ⟨wq, rfl⟩
  have hb1 := wq.h
  have k0 : wq.w.cell? ⟨w.heap.size, 0, none⟩ = some (.int .i64 x) := by rw [hq wq _ _ (by simp)]; simp [go_sem]
  have k1 : wq.w.cell? ⟨w.heap.size, 1, none⟩ = some (.int .i64 y) := by rw [hq wq _ _ (by simp)]; simp [go_sem]
  have k2 : wq.w.cell? ⟨w.heap.size, 2, none⟩ = some (.slice (some ⟨bA, off, none⟩) N c) := by rw [hq wq _ _ (by simp)]; simp [go_sem]
  have hs1 : w.heap.size < wq.w.heap.size := by have := hb1.size; simp at this; omega
  generalize wq.w = w1 at hb1 k0 k1 k2 hs1 ⊢
  have hq1 := fun n : Later w1 => n.cell
  have Hb1 := Lib.hid (grow_trans (grow_alloc _ _) hb1)
  clear hq hb1 hca hcb hmx
  by_cases hC : (a : Int) % x = (b : Int) % x
  · have HR : Hid (R = 2 * (za + zb)) := by show _ = _; rw [HW.out, if_pos (Or.inl hC)]
    have hC' : ((a : Int) % x == (b : Int) % x) = true := by simpa using hC
    go_wp2_with fail
    refine wp_region_later (by kernel_rfl) (by kernel_rfl) ?_
    repeat (go_big_quiet_step ((first | (go_at_call 176; first | exact later_of (column_any _ _ _ _ _ h1 h2 (by omega) a25) | exact later_of (column_any _ _ _ _ _ h1 h2 (by omega) b25)))))
    refine wpQuiet_nil ?_
    rintro _ ⟨w2, rfl⟩
    go_wp2
    go_ret
    exact ⟨ret_int (by rw [HR.out]), grow_trans Hb1.out w2.h⟩
  · have hC' : ((a : Int) % x == (b : Int) % x) = false := by simpa using hC
    by_cases hD : (a : Int) / x = (b : Int) / x
    · have HR : Hid (R = 2 * (za + zb)) := by show _ = _; rw [HW.out, if_pos (Or.inr hD)]
      have hD' : ((a : Int) / x == (b : Int) / x) = true := by simpa using hD
      go_wp2_with fail
      refine wp_region_later (by kernel_rfl) (by kernel_rfl) ?_
      repeat (go_big_quiet_step ((first | (go_at_call 176; first | exact later_of (column_any _ _ _ _ _ h1 h2 (by omega) a25) | exact later_of (column_any _ _ _ _ _ h1 h2 (by omega) b25)) | (go_at_call 177; first | exact later_of (row_any _ _ _ _ _ h1 h2 (by omega) a25) | exact later_of (row_any _ _ _ _ _ h1 h2 (by omega) b25)))))
      refine wpQuiet_nil ?_
      rintro _ ⟨w2, rfl⟩
      go_wp2
      go_ret
      exact ⟨ret_int (by rw [HR.out]), grow_trans Hb1.out w2.h⟩
    · have HR : Hid (R = 3 * (za + zb)) := by show _ = _; rw [HW.out, if_neg (fun h => h.elim hC hD)]
      have hD' : ((a : Int) / x == (b : Int) / x) = false := by simpa using hD
      go_wp2_with fail
      refine wp_region_later (by kernel_rfl) (by kernel_rfl) ?_
      repeat (go_big_quiet_step ((first | (go_at_call 176; first | exact later_of (column_any _ _ _ _ _ h1 h2 (by omega) a25) | exact later_of (column_any _ _ _ _ _ h1 h2 (by omega) b25)) | (go_at_call 177; first | exact later_of (row_any _ _ _ _ _ h1 h2 (by omega) a25) | exact later_of (row_any _ _ _ _ _ h1 h2 (by omega) b25)))))
      refine wpQuiet_nil ?_
      rintro _ ⟨w2, rfl⟩
      go_wp2
      go_ret
      exact ⟨ret_int (by rw [HR.out]), grow_trans Hb1.out w2.h⟩
end Go.Proofs.Ytnacofmjipilhaa
