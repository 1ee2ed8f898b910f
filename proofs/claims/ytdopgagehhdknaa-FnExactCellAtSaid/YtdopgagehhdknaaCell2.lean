/- The exported functions on cells: CellAt, PlaceOf, StepsApart, in the program and in the reference. Conditions: none; each stands at any arguments. -/
import Derived.Test.YtdopgagehhdknaaCell
namespace Go.Proofs.Ytdopgagehhdknaa
open Go.ChangeShapes Go.WideShapes Go.ChangeAt Go.RowKit Go.Deep
set_option linter.unusedVariables false
set_option linter.unusedSimpArgs false
set_option maxRecDepth 100000

theorem l1Most_any (a b : Int) (w : World) :
    Calls Try.prog 104 #[.int .i64 a, .int .i64 b] w fun e w' => e = .returned (.int .i64 (max a b)) ∧ w = w' := by
  go_enter Try.func104, Try.ntmps104
  go_wp2
  all_goals (go_ret; exact ⟨ret_int (by omega), rfl⟩)
theorem l2Apart_any (x y : Int) (u : Value) (a b : Int) (w : World) (h1 : 1 ≤ x) (h2 : x ≤ 5) (h3 : 0 ≤ a) (h4 : a ≤ 25) (h5 : 0 ≤ b) (h6 : b ≤ 25) :
    Calls Try.prog 80 #[terrV x y u, .int .i64 a, .int .i64 b] w fun e w' => e = .returned (.int .i64 (apartN x a b)) ∧ Below w.heap.size w w' := by
  have hq := fun n : Later (w.alloc (.cells #[.int .i64 x, .int .i64 y, u] 34)) => n.cell
  obtain ⟨⟨p1, p2⟩, p3, p4⟩ := cell_bds h1 h2 h3 h4
  obtain ⟨⟨q1, q2⟩, q3, q4⟩ := cell_bds h1 h2 h5 h6
  go_enter Try.func80, Try.ntmps80
  go_wp2_with fail
  refine wp_region_later (by kernel_rfl) (by kernel_rfl) ?_
  repeat (go_big_quiet_step (fail))
  refine wpQuiet_nil ?_
  rintro _ ⟨wq, rfl⟩
  go_wp2_with (go_at_call 104; refine (l1Most_any _ _ _).mono ?_; rintro e w' ⟨rfl, rfl⟩)
  go_ret
  exact ⟨ret_int (by unfold apartN; omega), grow_trans (grow_alloc _ _) wq.h⟩
set_option maxHeartbeats 2000000 in
theorem sCellAt_any (x y : Int) (u : Value) (zs : List Int) (c r : Int) (w : World) (h : Sl w 1 u zs.length (ints zs)) (hx : I64 x) (hy : I64 y) :
    Calls Try.prog 27 #[terrV x y u, .int .i64 c, .int .i64 r] w fun e w' => e = .returned (okR (terrB x y zs && inB c 0 (x - 1) && inB r 0 (y - 1)) (r * x + c)) ∧ Below w.heap.size w w' := by
  have Hs := Lib.hid fun W hW => l2Good_any x y u zs W (h.below (w' := W) hW)
  obtain ⟨A, k, rfl⟩ := h.val
  have hd := terr_dims (x := x) (y := y) (zs := zs)
  clear h
  generalize terrB x y zs = R at *
  cases R
  case false =>
    clear hd
    go_enter Try.func27, Try.ntmps27
    go_wp2_with (go_at_call 61; refine (Hs.out _ (grow_alloc _ _)).mono ?_; rintro e w1 ⟨rfl, hb1⟩)
    exact bodyPost_ret (v := .tuple #[.int .i64 0, .bool false]) (by simp [results, Try.results27, go_sem]) rfl ⟨rfl, grow_trans (grow_alloc _ _) hb1⟩
  case true =>
    obtain ⟨⟨x1, x2⟩, ⟨y1, y2⟩, _, _⟩ := hd rfl
    clear hx hy
    cases hc0 : inB c 0 (x - 1)
    · go_enter Try.func27, Try.ntmps27
      go_wp2_with fail
      with_reducible refine (Hs.out _ (grow_alloc _ _)).mono ?_
      rintro e w1 ⟨rfl, hb1⟩
      have hc := (bcell hb1).1
      go_wp2_with (go_at_call 68; refine (l1In_any _ _ _ _).mono ?_; rintro e w' ⟨rfl, rfl⟩; rw [hc0])
      exact bodyPost_ret (v := .tuple #[.int .i64 0, .bool false]) (by simp [results, Try.results27, go_sem]) rfl ⟨by simp [okR], grow_trans (grow_alloc _ _) hb1⟩
    · cases hr0 : inB r 0 (y - 1)
      · go_enter Try.func27, Try.ntmps27
        go_wp2_with fail
        with_reducible refine (Hs.out _ (grow_alloc _ _)).mono ?_
        rintro e w1 ⟨rfl, hb1⟩
        have hc := (bcell hb1).1
        go_wp2_with (go_at_call 68; refine (l1In_any _ _ _ _).mono ?_; rintro e w' ⟨rfl, rfl⟩; first | rw [hc0] | rw [hr0])
        exact bodyPost_ret (v := .tuple #[.int .i64 0, .bool false]) (by simp [results, Try.results27, go_sem]) rfl ⟨by simp [okR], grow_trans (grow_alloc _ _) hb1⟩
      · obtain ⟨c1, c2⟩ := inB_iff.1 hc0
        obtain ⟨r1, r2⟩ := inB_iff.1 hr0
        obtain ⟨p1, p2⟩ := mul_bound (a := r) (b := x) (x := 5) (y := 5) (by omega) (by omega) (by omega) (by omega)
        go_enter Try.func27, Try.ntmps27
        go_wp2_with fail
        with_reducible refine (Hs.out _ (grow_alloc _ _)).mono ?_
        rintro e w1 ⟨rfl, hb1⟩
        have hc := (bcell hb1).1
        go_wp2_with (go_at_call 68; refine (l1In_any _ _ _ _).mono ?_; rintro e w' ⟨rfl, rfl⟩; first | rw [hc0] | rw [hr0])
        exact bodyPost_ret (v := .tuple #[.int .i64 (r * x + c), .bool true]) (by simp [results, Try.results27, go_sem]) rfl ⟨by simp [okR], grow_trans (grow_alloc _ _) hb1⟩
set_option maxHeartbeats 2000000 in
theorem CellAt_any (x y : Int) (u : Value) (zs : List Int) (c r : Int) (w : World) (h : Sl w 1 u zs.length (ints zs)) (hx : I64 x) (hy : I64 y) :
    Calls Try.prog 28 #[terrV x y u, .int .i64 c, .int .i64 r] w fun e w' => e = .returned (okR (terrB x y zs && inB c 0 (x - 1) && inB r 0 (y - 1)) (r * x + c)) ∧ Below w.heap.size w w' := by
  have Hs := Lib.hid fun W hW => IsTerrain_any x y u zs W (h.below (w' := W) hW)
  obtain ⟨A, k, rfl⟩ := h.val
  have hd := terr_dims (x := x) (y := y) (zs := zs)
  clear h
  generalize terrB x y zs = R at *
  cases R
  case false =>
    clear hd
    go_enter Try.func28, Try.ntmps28
    go_wp2_with (go_at_call 23; refine (Hs.out _ (grow_alloc _ _)).mono ?_; rintro e w1 ⟨rfl, hb1⟩)
    exact bodyPost_ret (v := .tuple #[.int .i64 0, .bool false]) (by simp [results, Try.results28, go_sem]) rfl ⟨rfl, grow_trans (grow_alloc _ _) hb1⟩
  case true =>
    obtain ⟨⟨x1, x2⟩, ⟨y1, y2⟩, _, _⟩ := hd rfl
    clear hx hy
    cases hc0 : inB c 0 (x - 1)
    · go_enter Try.func28, Try.ntmps28
      go_wp2_with fail
      with_reducible refine (Hs.out _ (grow_alloc _ _)).mono ?_
      rintro e w1 ⟨rfl, hb1⟩
      have hc := (bcell hb1).1
      go_wp2_with (go_at_call 58; refine (in_any _ _ _ _).mono ?_; rintro e w' ⟨rfl, rfl⟩; rw [hc0])
      exact bodyPost_ret (v := .tuple #[.int .i64 0, .bool false]) (by simp [results, Try.results28, go_sem]) rfl ⟨by simp [okR], grow_trans (grow_alloc _ _) hb1⟩
    · cases hr0 : inB r 0 (y - 1)
      · go_enter Try.func28, Try.ntmps28
        go_wp2_with fail
        with_reducible refine (Hs.out _ (grow_alloc _ _)).mono ?_
        rintro e w1 ⟨rfl, hb1⟩
        have hc := (bcell hb1).1
        go_wp2_with (go_at_call 58; refine (in_any _ _ _ _).mono ?_; rintro e w' ⟨rfl, rfl⟩; first | rw [hc0] | rw [hr0])
        exact bodyPost_ret (v := .tuple #[.int .i64 0, .bool false]) (by simp [results, Try.results28, go_sem]) rfl ⟨by simp [okR], grow_trans (grow_alloc _ _) hb1⟩
      · obtain ⟨c1, c2⟩ := inB_iff.1 hc0
        obtain ⟨r1, r2⟩ := inB_iff.1 hr0
        obtain ⟨p1, p2⟩ := mul_bound (a := r) (b := x) (x := 5) (y := 5) (by omega) (by omega) (by omega) (by omega)
        go_enter Try.func28, Try.ntmps28
        go_wp2_with fail
        with_reducible refine (Hs.out _ (grow_alloc _ _)).mono ?_
        rintro e w1 ⟨rfl, hb1⟩
        have hc := (bcell hb1).1
        go_wp2_with (go_at_call 58; refine (in_any _ _ _ _).mono ?_; rintro e w' ⟨rfl, rfl⟩; first | rw [hc0] | rw [hr0])
        exact bodyPost_ret (v := .tuple #[.int .i64 (r * x + c), .bool true]) (by simp [results, Try.results28, go_sem]) rfl ⟨by simp [okR], grow_trans (grow_alloc _ _) hb1⟩
/-- A place's answer. -/
def placeR (b : Bool) (p q : Int) : Value := if b then .tuple #[.int .i64 p, .int .i64 q, .bool true] else .tuple #[.int .i64 0, .int .i64 0, .bool false]
theorem placeR_shape (b : Bool) (p q : Int) : ∃ m m2 c, placeR b p q = .tuple #[.int .i64 m, .int .i64 m2, .bool c] := by cases b <;> exact ⟨_, _, _, rfl⟩
theorem cell_in {x y : Int} {zs : List Int} {c : Int} (h : terrB x y zs = true) (hc : inB c 0 (zs.length - 1) = true) : 1 ≤ x ∧ x ≤ 5 ∧ 0 ≤ c ∧ c ≤ 25 := by
  obtain ⟨⟨x1, x2⟩, _, _, hn⟩ := terr_dims h
  obtain ⟨c1, c2⟩ := inB_iff.1 hc
  omega
theorem sPlaceOf_any (x y : Int) (u : Value) (zs : List Int) (c : Int) (w : World) (h : Sl w 1 u zs.length (ints zs)) :
    Calls Try.prog 34 #[terrV x y u, .int .i64 c] w fun e w' => e = .returned (placeR (terrB x y zs && inB c 0 (zs.length - 1)) (c % x) (c / x)) ∧ Below w.heap.size w w' := by
  have Hs := Lib.hid fun W hW => l2Cell_any x y u zs c W (h.below (w' := W) hW)
  obtain ⟨A, k, rfl⟩ := h.val
  have hd := cell_in (x := x) (y := y) (zs := zs) (c := c)
  clear h
  generalize terrB x y zs = R at *
  generalize inB c 0 (zs.length - 1) = B at *
  cases hRB : (R && B)
  case false =>
    clear hd
    rw [hRB] at Hs
    go_enter Try.func34, Try.ntmps34
    go_wp2_with (go_at_call 74; refine (Hs.out _ (grow_alloc _ _)).mono ?_; rintro e w1 ⟨rfl, hb1⟩)
    exact bodyPost_ret (v := .tuple #[.int .i64 0, .int .i64 0, .bool false]) (by simp [results, Try.results34, go_sem]) rfl ⟨rfl, grow_trans (grow_alloc _ _) hb1⟩
  case true =>
    obtain ⟨h1, h2⟩ := Bool.and_eq_true_iff.1 hRB
    obtain ⟨x1, x2, c1, c2⟩ := hd h1 h2
    obtain ⟨⟨p1, p2⟩, p3, p4⟩ := cell_bds x1 x2 c1 c2
    rw [hRB] at Hs
    clear hRB
    go_enter Try.func34, Try.ntmps34
    go_wp2_with fail
    with_reducible refine (Hs.out _ (grow_alloc _ _)).mono ?_
    rintro e w1 ⟨rfl, hb1⟩
    have hc := (bcell hb1).1
    have hq := fun n : Later w1 => (bcell (grow_trans hb1 n.h)).1
    go_wp2_with fail
    refine wp_region_later (by kernel_rfl) (by kernel_rfl) ?_
    repeat (go_big_quiet_step (fail))
    refine wpQuiet_nil ?_
    rintro _ ⟨wq, rfl⟩
    go_wp2
    exact bodyPost_ret (v := .tuple #[.int .i64 (c % x), .int .i64 (c / x), .bool true]) (by simp [results, Try.results34, go_sem]) rfl ⟨by simp [placeR], grow_trans (grow_alloc _ _) (grow_trans hb1 wq.h)⟩
set_option maxHeartbeats 1000000 in
theorem PlaceOf_any (x y : Int) (u : Value) (zs : List Int) (c : Int) (w : World) (h : Sl w 1 u zs.length (ints zs)) :
    Calls Try.prog 35 #[terrV x y u, .int .i64 c] w fun e w' => e = .returned (placeR (terrB x y zs && inB c 0 (zs.length - 1)) (c % x) (c / x)) ∧ Below w.heap.size w w' := by
  have Hs := Lib.hid fun W hW => IsTerrain_any x y u zs W (h.below (w' := W) hW)
  have Hc := Lib.hid fun W hW => isCell_any x y u _ _ c W (h.below (w' := W) hW)
  obtain ⟨A, k, rfl⟩ := h.val
  have hd := cell_in (x := x) (y := y) (zs := zs) (c := c)
  clear h
  generalize terrB x y zs = R at *
  generalize inB c 0 (zs.length - 1) = B at *
  cases R
  case false =>
    clear hd
    go_enter Try.func35, Try.ntmps35
    go_wp2_with (go_at_call 23; refine (Hs.out _ (grow_alloc _ _)).mono ?_; rintro e w1 ⟨rfl, hb1⟩)
    exact bodyPost_ret (v := .tuple #[.int .i64 0, .int .i64 0, .bool false]) (by simp [results, Try.results35, go_sem]) rfl ⟨rfl, grow_trans (grow_alloc _ _) hb1⟩
  case true =>
    cases B
    case false =>
      clear hd
      go_enter Try.func35, Try.ntmps35
      go_wp2_with fail
      with_reducible refine (Hs.out _ (grow_alloc _ _)).mono ?_
      rintro e w1 ⟨rfl, hb1⟩
      have hc := (bcell hb1).1
      go_wp2_with fail
      with_reducible refine (Hc.out _ (grow_trans (grow_alloc _ _) hb1)).mono ?_
      rintro e w2 ⟨rfl, hb2⟩
      go_wp2
      exact bodyPost_ret (v := .tuple #[.int .i64 0, .int .i64 0, .bool false]) (by simp [results, Try.results35, go_sem]) rfl ⟨rfl, grow_trans (grow_alloc _ _) (grow_trans hb1 hb2)⟩
    case true =>
      obtain ⟨x1, x2, c1, c2⟩ := hd rfl rfl
      go_enter Try.func35, Try.ntmps35
      go_wp2_with fail
      with_reducible refine (Hs.out _ (grow_alloc _ _)).mono ?_
      rintro e w1 ⟨rfl, hb1⟩
      have hc := (bcell hb1).1
      go_wp2_with fail
      with_reducible refine (Hc.out _ (grow_trans (grow_alloc _ _) hb1)).mono ?_
      rintro e w2 ⟨rfl, hb2⟩
      replace hb2 := grow_trans hb1 hb2
      replace hc := (bcell hb2).1
      have hq := fun n : Later w2 => (bcell (grow_trans hb2 n.h)).1
      go_wp2_with fail
      refine wp_region_later (by kernel_rfl) (by kernel_rfl) ?_
      repeat (go_big_quiet_step ((first | (go_at_call 76; exact later_of (column_any _ _ _ _ _ x1 x2 c1 c2)) | (go_at_call 77; exact later_of (row_any _ _ _ _ _ x1 x2 c1 c2)))))
      refine wpQuiet_nil ?_
      rintro _ ⟨wq, rfl⟩
      go_wp2
      exact bodyPost_ret (v := .tuple #[.int .i64 (c % x), .int .i64 (c / x), .bool true]) (by simp [results, Try.results35, go_sem]) rfl ⟨by simp [placeR], grow_trans (grow_alloc _ _) (grow_trans hb2 wq.h)⟩
set_option maxHeartbeats 1000000 in
theorem sStepsApart_any (x y : Int) (u : Value) (zs : List Int) (a b : Int) (w : World) (h : Sl w 1 u zs.length (ints zs)) :
    Calls Try.prog 38 #[terrV x y u, .int .i64 a, .int .i64 b] w fun e w' => e = .returned (okR (terrB x y zs && inB a 0 (zs.length - 1) && inB b 0 (zs.length - 1)) (apartN x a b)) ∧ Below w.heap.size w w' := by
  have Ha := Lib.hid fun W hW => l2Cell_any x y u zs a W (h.below (w' := W) hW)
  have Hb := Lib.hid fun W hW => l2Cell_any x y u zs b W (h.below (w' := W) hW)
  obtain ⟨A, k, rfl⟩ := h.val
  have hd := cell_in (x := x) (y := y) (zs := zs) (c := a)
  have he := cell_in (x := x) (y := y) (zs := zs) (c := b)
  clear h
  generalize terrB x y zs = R at *
  generalize inB a 0 (zs.length - 1) = B at *
  generalize inB b 0 (zs.length - 1) = C at *
  cases hRB : (R && B)
  case false =>
    clear hd he
    rw [hRB] at Ha
    go_enter Try.func38, Try.ntmps38
    go_wp2_with (go_at_call 74; refine (Ha.out _ (grow_alloc _ _)).mono ?_; rintro e w1 ⟨rfl, hb1⟩)
    exact bodyPost_ret (v := .tuple #[.int .i64 0, .bool false]) (by simp [results, Try.results38, go_sem]) rfl ⟨rfl, grow_trans (grow_alloc _ _) hb1⟩
  case true =>
    obtain ⟨rfl, rfl⟩ := Bool.and_eq_true_iff.1 hRB
    clear hRB
    obtain ⟨x1, x2, a1, a2⟩ := hd rfl rfl
    cases C
    case false =>
      clear hd he
      go_enter Try.func38, Try.ntmps38
      go_wp2_with fail
      with_reducible refine (Ha.out _ (grow_alloc _ _)).mono ?_
      rintro e w1 ⟨rfl, hb1⟩
      have hc := (bcell hb1).1
      go_wp2_with fail
      with_reducible refine (Hb.out _ (grow_trans (grow_alloc _ _) hb1)).mono ?_
      rintro e w2 ⟨rfl, hb2⟩
      go_wp2
      exact bodyPost_ret (v := .tuple #[.int .i64 0, .bool false]) (by simp [results, Try.results38, go_sem]) rfl ⟨rfl, grow_trans (grow_alloc _ _) (grow_trans hb1 hb2)⟩
    case true =>
      obtain ⟨_, _, b1, b2⟩ := he rfl rfl
      clear hd he
      go_enter Try.func38, Try.ntmps38
      go_wp2_with fail
      with_reducible refine (Ha.out _ (grow_alloc _ _)).mono ?_
      rintro e w1 ⟨rfl, hb1⟩
      have hc := (bcell hb1).1
      go_wp2_with fail
      with_reducible refine (Hb.out _ (grow_trans (grow_alloc _ _) hb1)).mono ?_
      rintro e w2 ⟨rfl, hb2⟩
      replace hb2 := grow_trans hb1 hb2
      replace hc := (bcell hb2).1
      go_wp2_with fail
      with_reducible refine (l2Apart_any _ _ _ _ _ _ x1 x2 a1 a2 b1 b2).mono ?_
      rintro e w3 ⟨rfl, hb3⟩
      go_wp2
      exact bodyPost_ret (v := .tuple #[.int .i64 (apartN x a b), .bool true]) (by simp [results, Try.results38, go_sem]) rfl ⟨by simp [okR], grow_trans (grow_alloc _ _) (grow_trans hb2 hb3)⟩
set_option maxHeartbeats 2000000 in
theorem StepsApart_any (x y : Int) (u : Value) (zs : List Int) (a b : Int) (w : World) (h : Sl w 1 u zs.length (ints zs)) :
    Calls Try.prog 39 #[terrV x y u, .int .i64 a, .int .i64 b] w fun e w' => e = .returned (okR (terrB x y zs && inB a 0 (zs.length - 1) && inB b 0 (zs.length - 1)) (apartN x a b)) ∧ Below w.heap.size w w' := by
  have Hs := Lib.hid fun W hW => IsTerrain_any x y u zs W (h.below (w' := W) hW)
  have Ha := Lib.hid fun W hW => isCell_any x y u _ _ a W (h.below (w' := W) hW)
  have Hb := Lib.hid fun W hW => isCell_any x y u _ _ b W (h.below (w' := W) hW)
  obtain ⟨A, k, rfl⟩ := h.val
  have hd := cell_in (x := x) (y := y) (zs := zs) (c := a)
  have he := cell_in (x := x) (y := y) (zs := zs) (c := b)
  clear h
  generalize terrB x y zs = R at *
  generalize inB a 0 (zs.length - 1) = B at *
  generalize inB b 0 (zs.length - 1) = C at *
  cases R
  case false =>
    clear hd he
    go_enter Try.func39, Try.ntmps39
    go_wp2_with (go_at_call 23; refine (Hs.out _ (grow_alloc _ _)).mono ?_; rintro e w1 ⟨rfl, hb1⟩)
    exact bodyPost_ret (v := .tuple #[.int .i64 0, .bool false]) (by simp [results, Try.results39, go_sem]) rfl ⟨rfl, grow_trans (grow_alloc _ _) hb1⟩
  case true =>
    cases B
    case false =>
      clear hd he
      go_enter Try.func39, Try.ntmps39
      go_wp2_with fail
      with_reducible refine (Hs.out _ (grow_alloc _ _)).mono ?_
      rintro e w1 ⟨rfl, hb1⟩
      have hc := (bcell hb1).1
      go_wp2_with fail
      with_reducible refine (Ha.out _ (grow_trans (grow_alloc _ _) hb1)).mono ?_
      rintro e w2 ⟨rfl, hb2⟩
      go_wp2
      exact bodyPost_ret (v := .tuple #[.int .i64 0, .bool false]) (by simp [results, Try.results39, go_sem]) rfl ⟨rfl, grow_trans (grow_alloc _ _) (grow_trans hb1 hb2)⟩
    case true =>
      obtain ⟨x1, x2, a1, a2⟩ := hd rfl rfl
      cases C
      case false =>
        clear hd he
        go_enter Try.func39, Try.ntmps39
        go_wp2_with fail
        with_reducible refine (Hs.out _ (grow_alloc _ _)).mono ?_
        rintro e w1 ⟨rfl, hb1⟩
        have hc := (bcell hb1).1
        go_wp2_with fail
        with_reducible refine (Ha.out _ (grow_trans (grow_alloc _ _) hb1)).mono ?_
        rintro e w2 ⟨rfl, hb2⟩
        replace hb2 := grow_trans hb1 hb2
        replace hc := (bcell hb2).1
        go_wp2_with fail
        with_reducible refine (Hb.out _ (grow_trans (grow_alloc _ _) hb2)).mono ?_
        rintro e w3 ⟨rfl, hb3⟩
        go_wp2
        exact bodyPost_ret (v := .tuple #[.int .i64 0, .bool false]) (by simp [results, Try.results39, go_sem]) rfl ⟨rfl, grow_trans (grow_alloc _ _) (grow_trans hb2 hb3)⟩
      case true =>
        obtain ⟨_, _, b1, b2⟩ := he rfl rfl
        clear hd he
        go_enter Try.func39, Try.ntmps39
        go_wp2_with fail
        with_reducible refine (Hs.out _ (grow_alloc _ _)).mono ?_
        rintro e w1 ⟨rfl, hb1⟩
        have hc := (bcell hb1).1
        go_wp2_with fail
        with_reducible refine (Ha.out _ (grow_trans (grow_alloc _ _) hb1)).mono ?_
        rintro e w2 ⟨rfl, hb2⟩
        replace hb2 := grow_trans hb1 hb2
        replace hc := (bcell hb2).1
        go_wp2_with fail
        with_reducible refine (Hb.out _ (grow_trans (grow_alloc _ _) hb2)).mono ?_
        rintro e w3 ⟨rfl, hb3⟩
        replace hb3 := grow_trans hb2 hb3
        replace hc := (bcell hb3).1
        go_wp2_with fail
        with_reducible refine (apart_any _ _ _ _ _ _ x1 x2 a1 a2 b1 b2).mono ?_
        rintro e w4 ⟨rfl, hb4⟩
        go_wp2
        exact bodyPost_ret (v := .tuple #[.int .i64 (apartN x a b), .bool true]) (by simp [results, Try.results39, go_sem]) rfl ⟨by simp [okR], grow_trans (grow_alloc _ _) (grow_trans hb3 hb4)⟩
end Go.Proofs.Ytdopgagehhdknaa
