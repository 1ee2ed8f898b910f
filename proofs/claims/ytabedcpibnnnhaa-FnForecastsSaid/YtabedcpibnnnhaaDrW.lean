/- Forecasts that are drawn. Conditions: as each states. -/
import Derived.Test.YtabedcpibnnnhaaDrB
import Derived.Test.YtabedcpibnnnhaaWeath
import Derived.Test.YtabedcpibnnnhaaApp3
namespace Go.Proofs.Ytabedcpibnnnhaa
open Go.ChangeShapes Go.WideShapes Go.ChangeAt Go.RowKit Go.Deep
set_option linter.unusedVariables false
set_option linter.unusedSimpArgs false
set_option maxRecDepth 100000

/-- A weather as drawn. -/
def WxS (p : Wx) : Prop := -1 ≤ p.s ∧ p.s ≤ 121
/-- The number of elements that a slice value tells. -/
def lenV : Value → Nat
  | .slice _ n _ => n
  | _ => 0
theorem grow_own {w W W' : World} {row r' : Option Nat} (h : w.grownBy W row) (hg : W.grownBy W' r') (hr : ∀ j, r' = some j → w.heap.size ≤ j) : w.grownBy W' row :=
  ⟨hg.os.trans h.os, hg.tape.trans h.tape, hg.output.trans h.output, Nat.le_trans h.size hg.size, fun i hi hn => (hg.block i (Nat.lt_of_lt_of_le hi h.size) (fun e => by have := hr i e.symm; omega)).trans (h.block i hi hn)⟩
theorem wxs_snoc (l : List Wx) (p : Wx) : wxs (l ++ [p]) = wxs l ++ encW p := by simp [wxs, List.flatMap_append]
/-- The state of a draw of a forecast: the reader, the list so far. -/
structure Fc (w wr : World) (C m : Nat) (v : Value) (l : List Wx) : Prop where
  hc : Cur wr C m
  hg : w.grownBy wr (some C)
  ho : wr.ownsRow w.heap.size 53 4 v l.length (wxs l)
  hl : ∀ p ∈ l, WxS p
  hC : C < w.heap.size
theorem Fc.below {w wr wr' : World} {C m : Nat} {v : Value} {l : List Wx} (h : Fc w wr C m v l) (hb : Below wr.heap.size wr wr') : Fc w wr' C m v l :=
  ⟨h.hc.below hb, grownBy_trans h.hg (grownBy_of_below hb), own_below h.ho hb, h.hl, h.hC⟩
theorem Fc.curs {w wr wr' : World} {C m m' : Nat} {v : Value} {l : List Wx} (h : Fc w wr C m v l) (hc : Cur wr' C m') (hg : wr.grownBy wr' (some C)) : Fc w wr' C m' v l :=
  ⟨hc, grownBy_trans h.hg hg, own_kept h.ho hg (fun j hj e => by have := (h.ho.lt j hj).1; have := h.hC; injection e with e; omega), h.hl, h.hC⟩
theorem Fc.push {w wr wA : World} {C m : Nat} {v vA : Value} {l : List Wx} {p : Wx} (h : Fc w wr C m v l) (ho : wA.ownsRow w.heap.size 53 4 vA (l.length + 1) (wxs l ++ encW p)) (hg : wr.grownBy wA v.ownBlock) (hp : WxS p) : Fc w wA C m vA (l ++ [p]) := by
  have hr : ∀ j, v.ownBlock = some j → w.heap.size ≤ j := fun j hj => (h.ho.lt j hj).1
  refine ⟨h.hc.kept hg (fun j hj => Nat.lt_of_lt_of_le h.hC (hr j hj)), grow_own h.hg hg hr, ?_, ?_, h.hC⟩
  · rw [wxs_snoc, List.length_append]; exact ho
  · intro q hq
    rcases List.mem_append.1 hq with h1 | h1
    · exact h.hl q h1
    · simp at h1; subst h1; exact hp
theorem Fc.up {w wr : World} {C m m' : Nat} {v : Value} {l : List Wx} (h : Fc w wr C m v l) (hm : m ≤ m') : Fc w wr C m' v l := ⟨h.hc.up hm, h.hg, h.ho, h.hl, h.hC⟩
/-- A store into a box of one's own. -/
theorem Fc.box {w wr : World} {C m B : Nat} {v : Value} {l : List Wx} {t : TypeId} {vs : List Value} (h : Fc w wr C m v l) (hB : w.heap.size ≤ B) (hx : Bx wr t B vs) (ht : t ≠ 53 ∨ v.ownBlock ≠ some B) (j : Nat) (u : Value) : Fc w (wr.setCell ⟨B, j, none⟩ u) C m v l := by
  have hs : wr.grownBy (wr.setCell ⟨B, j, none⟩ u) (some B) := ⟨rfl, rfl, rfl, by simp, fun k _ hk => heap_setCell_other wr ⟨B, j, none⟩ k u (fun e => hk (by simp [e]))⟩
  have hne : v.ownBlock ≠ some B := by
    rcases ht with ht | ht
    · intro e
      rcases h.ho.2 with ⟨rfl, _⟩ | ⟨g, cap, cur, rfl, _, hg, _⟩
      · simp [Value.ownBlock] at e
      · simp [Value.ownBlock] at e
        subst e
        rcases hx.2 with ⟨e1, _⟩ | ⟨g', cap', cur', e1, _, hg', _⟩
        · cases e1
        · injection e1 with e1; injection e1 with e1; injection e1 with e1; subst e1
          rw [hg] at hg'; injection hg' with hg'; injection hg' with _ e2; exact ht e2.symm
    · exact ht
  exact ⟨h.hc.other (by have := h.hC; omega) j u, grow_set h.hg hB j u, own_kept h.ho hs (fun i hi e => hne (by rw [hi]; exact e)), h.hl, h.hC⟩
theorem four_cells {W : World} {B : Nat} {t : TypeId} {a b c d : Value} (h : Bx W t B [a, b, c, d]) : (W.cell? ⟨B, 0, none⟩ = some a ∧ W.cell? ⟨B, 1, none⟩ = some b ∧ W.cell? ⟨B, 2, none⟩ = some c ∧ W.cell? ⟨B, 3, none⟩ = some d) ∧ True :=
  ⟨⟨h.cell 0 rfl, h.cell 1 rfl, h.cell 2 rfl, h.cell 3 rfl⟩, trivial⟩
theorem own_spotW {w : World} {base s n g c : Nat} {e : TypeId} {cs : List Value} (h : w.ownsRow base e s (.slice (some ⟨g, 0, none⟩) n c) n cs) (j : Nat) (hj : j < n * s) : ∃ u, w.cell? ⟨g, j, none⟩ = some u ∧ w.frozen? ⟨g, j, none⟩ = false := by
  have hl := h.1
  have h1 := h.cellAt j (by omega)
  rw [List.getElem?_eq_getElem (by omega)] at h1
  exact ⟨_, h1, h.frozenAt j⟩
theorem set_flat (l : List Wx) (j : Nat) (p : Wx) (hj : j < l.length) : ((((wxs l).set (j * 4) (.int .i64 p.f)).set (j * 4 + 1) (.int .i64 p.s)).set (j * 4 + 2) (.int .i64 p.g)).set (j * 4 + 3) (.int .i64 p.h) = wxs (l.set j p) := by
  induction l generalizing j with
  | nil => simp at hj
  | cons a l ih =>
    cases j with
    | zero => simp [wxs, encW]
    | succ j =>
      have := ih j (by simpa using hj)
      have e1 : (j + 1) * 4 = j * 4 + 4 := by omega
      rw [e1]
      simp only [wxs, List.flatMap_cons, List.set_cons_succ, encW, List.cons_append, List.nil_append] at this ⊢
      rw [← this]
/-- An element of the list written. -/
theorem Fc.set4 {w wr : World} {C m g c j : Nat} {l : List Wx} (h : Fc w wr C m (.slice (some ⟨g, 0, none⟩) l.length c) l) (hj : j < l.length) (p : Wx) (hp : WxS p) :
    Fc w ((((wr.setCell ⟨g, j * 4, none⟩ (.int .i64 p.f)).setCell ⟨g, j * 4 + 1, none⟩ (.int .i64 p.s)).setCell ⟨g, j * 4 + 2, none⟩ (.int .i64 p.g)).setCell ⟨g, j * 4 + 3, none⟩ (.int .i64 p.h)) C m (.slice (some ⟨g, 0, none⟩) l.length c) (l.set j p) := by
  obtain ⟨o1, g1⟩ := h.ho.stored (j * 4) (.int .i64 p.f)
  obtain ⟨o2, g2⟩ := o1.stored (j * 4 + 1) (.int .i64 p.s)
  obtain ⟨o3, g3⟩ := o2.stored (j * 4 + 2) (.int .i64 p.g)
  obtain ⟨o4, g4⟩ := o3.stored (j * 4 + 3) (.int .i64 p.h)
  have hg := grownBy_trans g1 (grownBy_trans g2 (grownBy_trans g3 g4))
  have hlt := (h.ho.lt g rfl).1
  refine ⟨h.hc.kept hg (fun q hq => by cases hq; exact Nat.lt_of_lt_of_le h.hC hlt), grow_own h.hg hg (fun q hq => by cases hq; exact hlt), ?_, ?_, h.hC⟩
  · rw [List.length_set, ← set_flat l j p hj]; exact o4
  · intro q hq
    rcases List.mem_or_eq_of_mem_set hq with h1 | h1
    · exact h.hl q h1
    · subst h1; exact hp
/-- A list drawn, handed back. -/
def RetW (w : World) (C m : Nat) (e : Ending) (w' : World) : Prop :=
  ∃ v l, e = .returned v ∧ Sl w' 4 v l.length (wxs l) ∧ l.length ≤ 25 ∧ (∀ q, v.ownBlock = some q → w.heap.size ≤ q) ∧ Cur w' C m ∧ w.grownBy w' (some C)
theorem Fc.ret {w wr : World} {C m m' : Nat} {v : Value} {l : List Wx} (h : Fc w wr C m v l) (hl : l.length ≤ 25) (hm : m ≤ m') : RetW w C m' (.returned v) wr :=
  ⟨v, l, rfl, Sl.of_own h.ho, hl, fun q hq => (h.ho.lt q hq).1, h.hc.up hm, h.hg⟩
theorem Fc.ret0 {w wr : World} {C m m' g c n : Nat} {l : List Wx} (h : Fc w wr C m (.slice (some ⟨g, 0, none⟩) n c) l) (hm : m ≤ m') (hc : c ≤ maxLen) : RetW w C m' (.returned (.slice (some ⟨g, 0, none⟩) 0 c)) wr :=
  ⟨_, [], rfl, ⟨_, _, rfl, Nat.zero_le _, hc, by simp, fun hp => by simp at hp⟩, by simp, fun q hq => (h.ho.lt q hq).1, h.hc.up hm, h.hg⟩
theorem kindW {W : World} {B : Nat} {t : TypeId} {vs : List Value} (h : Bx W t B vs) : ∃ cur, W.heap[B]? = some (.cells cur t (0, 0)) := by
  rcases h.2 with ⟨e1, _⟩ | ⟨g', cap', cur', e1, _, hg', _⟩
  · cases e1
  · injection e1 with e1; injection e1 with e1; injection e1 with e1; subst e1
    exact ⟨_, hg'⟩
theorem kindO {w : World} {B k n : Nat} {e : TypeId} {v : Value} {cs : List Value} (h : w.ownsRow B e k v n cs) {j : Nat} (hj : v.ownBlock = some j) : ∃ cur, w.heap[j]? = some (.cells cur e (0, 0)) := by
  rcases h.2 with ⟨rfl, _⟩ | ⟨g, cap, cur, rfl, _, hg, _⟩
  · simp [Value.ownBlock] at hj
  · simp [Value.ownBlock] at hj
    subst hj
    exact ⟨cur, hg⟩
set_option maxHeartbeats 16000000 in
theorem forecast_any (C m : Nat) (w : World) (h : Cur w C m) (hm : m ≤ 1099511620000) :
    Calls Try.prog 58 #[.pointer (some ⟨C, 0, none⟩)] w (RetW w C (m + 300)) := by
  obtain ⟨i0, hi, hz0, hz1, hz2⟩ := info_parts info_weather
  have hlt := h.lt
  have hb0 := grow_alloc w (.cells #[] 53)
  have hF0 : Fc w (w.alloc (.cells #[] 53)) C m (.slice (some ⟨w.heap.size, 0, none⟩) 0 0) [] := by
    refine ⟨h.below hb0, grownBy_of_below hb0, ?_, fun p hp => by simp at hp, hlt⟩
    have := World.ownsRow_lit (base := w.heap.size) (e := 53) (size := 4) w #[] 0 (Nat.le_refl _) (by unfold maxLen; omega) rfl
    simpa using this
  have hP := Lib.hid (pick_any C m 8 _ hF0.hc (by omega) (by omega))
  replace hF0 := Lib.hid hF0
  clear h hb0
  go_enter Try.func58, Try.ntmps58
  go_wp2_with fail
  refine hP.out.mono ?_
  rintro e w1 ⟨v, rfl, ⟨x, rfl, x0, x1⟩, hc, hg⟩
  replace hF0 := Lib.hid (hF0.out.curs hc hg)
  obtain ⟨x, rfl⟩ := Int.eq_ofNat_of_zero_le x0
  clear hP hc hg x0
  go_wp2
  go_loopw [3, 4] (fun v iv wr => ∃ l : List Wx, ∃ i : Int, ∃ g c : Nat, l.length ≤ x + 1 ∧ iv = .int .i64 i ∧ Hid (i = 1 + (x : Int) - (l.length : Int)) ∧ v = .slice (some ⟨g, 0, none⟩) l.length c ∧ Hid (Fc w wr C (m + 2 + 12 * l.length) v l)) (fun _ iv _ => (intOf iv).toNat)
  case atStart => exact ⟨[], _, _, _, Nat.zero_le _, rfl, by show _ = _; simp, rfl, hF0.out⟩
  case round =>
    obtain ⟨l, i, g, c, hk, rfl, hi0, rfl, hF⟩ := hrel
    clear hF0
    have hie := hi0.out
    by_cases hlt2 : l.length < x + 1
    case pos =>
      have d0 : decide (0 < i) = true := decide_eq_true (by omega)
      have hBz := Lib.hid (breeze_any C _ wr hF.out.hc (by omega))
      go_wp2_with fail
      refine hBz.out.mono ?_
      rintro e w2 ⟨f, s, rfl, hFS, hc, hg⟩
      replace hF := hF.out.curs hc hg
      obtain ⟨⟨f0, f1⟩, s0, s1⟩ := hFS
      have hbx := grow_alloc w2 (.cells #[.int .i64 f, .int .i64 s] 51)
      replace hF := hF.below hbx
      have hT : Bx (w2.alloc (.cells #[.int .i64 f, .int .i64 s] 51)) 51 w2.heap.size (bzC f s) := Bx.new w2 (bzC f s) _
      have hTC : w2.heap.size ≠ C := by have := hc.lt; omega
      replace hF := Lib.hid hF
      replace hT := Lib.hid hT
      clear hBz hc hg hbx
      go_wp2_with fail
      replace hF := hF.out
      replace hT := hT.out
      generalize w2.alloc (.cells #[.int .i64 f, .int .i64 s] 51) = W3 at *
      generalize w2.heap.size = T at *
      refine wp_region_held_drew (S := fun W => W.cell? ⟨T, 0, none⟩ = some (.int .i64 f) ∧ W.cell? ⟨T, 1, none⟩ = some (.int .i64 s)) (by kernel_rfl) ((bz_cells (hT.below (grow_drew _))).1) (fun hHeld => ?_)
      replace hF := hF.below (grow_drew _)
      replace hT := hT.below (grow_drew _)
      generalize W3.drew = Wd at *
      refine wpAnyH_take (i := 0) (v := ?_) rfl (by kernel_rfl) (by kernel_rfl) (by kernel_rfl) (fun _ _ _ h => h) (Or.inl ⟨by rfl, ?_⟩) (by assumption) ?_
      rotate_left
      · intro w hSw
        try dsimp only at hSw
        go_simp
        try (with_reducible rfl)
      try simp only [Act.put, List.setIfInBounds_toArray, List.set_cons_zero, List.set_cons_succ]
      refine wpAnyH_take (i := 1) (v := ?_) rfl (by kernel_rfl) (by kernel_rfl) (by kernel_rfl) (fun _ _ _ h => h) (Or.inl ⟨by rfl, ?_⟩) (by assumption) ?_
      rotate_left
      · intro w hSw
        try dsimp only at hSw
        go_simp
        try (with_reducible rfl)
      try simp only [Act.put, List.setIfInBounds_toArray, List.set_cons_zero, List.set_cons_succ]
      refine wpAnyH_take (i := 2) (v := ?_) rfl (by kernel_rfl) (by kernel_rfl) (by kernel_rfl) (fun _ _ _ h => h) (Or.inl ⟨by rfl, ?_⟩) (by assumption) ?_
      rotate_left
      · intro w hSw
        try dsimp only at hSw
        go_simp
        try (with_reducible rfl)
      try simp only [Act.put, List.setIfInBounds_toArray, List.set_cons_zero, List.set_cons_succ]
      refine wpAnyH_take (i := 3) (v := ?_) rfl (by kernel_rfl) (by kernel_rfl) (by kernel_rfl) (fun _ _ _ h => h) (Or.inl ⟨by rfl, ?_⟩) (by assumption) ?_
      rotate_left
      · intro w hSw
        try dsimp only at hSw
        go_simp
        try (with_reducible rfl)
      try simp only [Act.put, List.setIfInBounds_toArray, List.set_cons_zero, List.set_cons_succ]
      refine wpAnyH_take (i := 4) (v := ?_) rfl (by kernel_rfl) (by kernel_rfl) (by kernel_rfl) (fun _ _ _ h => h) (Or.inl ⟨by rfl, ?_⟩) (by assumption) ?_
      rotate_left
      · intro w hSw
        try dsimp only at hSw
        go_simp
        try (with_reducible rfl)
      try simp only [Act.put, List.setIfInBounds_toArray, List.set_cons_zero, List.set_cons_succ]
      refine wpAnyH_take (i := 9) (v := ?_) rfl (by kernel_rfl) (by kernel_rfl) (by kernel_rfl) (fun _ _ _ h => h) (Or.inl ⟨by rfl, ?_⟩) (by assumption) ?_
      rotate_left
      · intro w hSw
        try dsimp only at hSw
        go_simp
        try (with_reducible rfl)
      try simp only [Act.put, List.setIfInBounds_toArray, List.set_cons_zero, List.set_cons_succ]
      refine wpAnyH_ready (rs := [5, 10]) (by kernel_rfl) (by simp) ?_
      refine AllReadyH.cons rfl (fun K hK => ?_) (AllReadyH.cons rfl (fun K hK => ?_) AllReadyH.nil)
      · skip
        go_simp
        have np : Wd.heap.size ≠ C := by have := hF.hc.lt; omega
        have sp : Sl (Wd.alloc (.cells #[.int .i64 0, .int .i64 5, .int .i64 30, .int .i64 90] 3)) 1 (.slice (some ⟨Wd.heap.size, 0, none⟩) 4 4) 4 (([0, 5, 30, 90] : List Int).map (Value.int .i64)) := lit_sl Wd (([0, 5, 30, 90] : List Int).map (Value.int .i64)) 3 (by simp)
        replace hT := hT.below (grow_alloc Wd (.cells #[.int .i64 0, .int .i64 5, .int .i64 30, .int .i64 90] 3))
        replace hF := hF.below (grow_alloc Wd (.cells #[.int .i64 0, .int .i64 5, .int .i64 30, .int .i64 90] 3))
        generalize Wd.alloc (.cells #[.int .i64 0, .int .i64 5, .int .i64 30, .int .i64 90] 3) = Wn0 at *
        generalize Wd.heap.size = bp at *
        refine hK.out _ _ ((bz_cells hT).1) (fun hHeld => ?_)
        clear hK K
        refine wpAnyH_ready (rs := [6, 10]) (by kernel_rfl) (by simp) ?_
        refine AllReadyH.cons rfl (fun K hK => ?_) (AllReadyH.cons rfl (fun K hK => ?_) AllReadyH.nil)
        · skip
          go_simp
          go_at_call 59
          refine (among_cut _ _ bp 4 4 [0, 5, 30, 90] Wn0 rfl hF.hc (by omega) sp np (by omega) (by omega)).mono ?_
          rintro e wya ⟨ya, hya, rfl, hc', hg'⟩
          have bya := small_ofB (a := 0) (b := 90) (by decide) hya
          clear hya sp
          replace hT := hT.kept hg' (by simpa using hTC)
          replace hF := hF.curs hc' hg'
          clear hc' hg'
          refine hK.out _ _ ((bz_cells hT).1) (fun hHeld => ?_)
          clear hK K
          have e7 : IntKind.i64.wrap (s + ya) = s + ya := IntWalk.i64_in _ (by omega)
          refine wpAnyH_take (i := 7) (v := ?_) rfl (by kernel_rfl) (by kernel_rfl) (by kernel_rfl) (fun _ _ _ h => h) (Or.inl ⟨by rfl, ?_⟩) (by assumption) ?_
          rotate_left
          · intro w hSw
            try dsimp only at hSw
            go_simp
            try (with_reducible rfl)
          try simp only [Act.put, List.setIfInBounds_toArray, List.set_cons_zero, List.set_cons_succ]
          refine wpAnyH_ready (rs := [8, 10]) (by kernel_rfl) (by simp) ?_
          refine AllReadyH.cons rfl (fun K hK => ?_) (AllReadyH.cons rfl (fun K hK => ?_) AllReadyH.nil)
          · skip
            go_simp
            go_at_call 88
            refine (l1Least_any _ _ _).mono ?_
            rintro e wq ⟨rfl, rfl⟩
            refine hK.out _ _ ((bz_cells hT).1) (fun hHeld => ?_)
            clear hK K
            refine wpAnyH_ready (rs := [10]) (by kernel_rfl) (by simp) ?_
            refine AllReadyH.cons rfl (fun K hK => ?_) AllReadyH.nil
            go_simp
            have nq : wya.heap.size ≠ C := by have := hF.hc.lt; omega
            have sq : Sl (wya.alloc (.cells #[.int .i64 0, .int .i64 12, .int .i64 25, .int .i64 60, .int .i64 100] 3)) 1 (.slice (some ⟨wya.heap.size, 0, none⟩) 5 5) 5 (([0, 12, 25, 60, 100] : List Int).map (Value.int .i64)) := lit_sl wya (([0, 12, 25, 60, 100] : List Int).map (Value.int .i64)) 3 (by simp)
            replace hT := hT.below (grow_alloc wya (.cells #[.int .i64 0, .int .i64 12, .int .i64 25, .int .i64 60, .int .i64 100] 3))
            replace hF := hF.below (grow_alloc wya (.cells #[.int .i64 0, .int .i64 12, .int .i64 25, .int .i64 60, .int .i64 100] 3))
            generalize wya.alloc (.cells #[.int .i64 0, .int .i64 12, .int .i64 25, .int .i64 60, .int .i64 100] 3) = Wn3 at *
            generalize wya.heap.size = bq at *
            refine hK.out _ _ ((bz_cells hT).1) (fun hHeld => ?_)
            clear hK K
            refine wpAnyH_ready (rs := [11]) (by kernel_rfl) (by simp) ?_
            refine AllReadyH.cons rfl (fun K hK => ?_) AllReadyH.nil
            go_simp
            go_at_call 59
            refine (among_cut _ _ bq 5 5 [0, 12, 25, 60, 100] Wn3 rfl hF.hc (by omega) sq nq (by omega) (by omega)).mono ?_
            rintro e wyb ⟨yb, hyb, rfl, hc', hg'⟩
            have byb := small_ofB (a := 0) (b := 100) (by decide) hyb
            clear hyb sq
            replace hT := hT.kept hg' (by simpa using hTC)
            replace hF := hF.curs hc' hg'
            clear hc' hg'
            refine hK.out _ _ ((bz_cells hT).1) (fun hHeld => ?_)
            clear hK K
            refine wpAnyH_take (i := 12) (v := ?_) rfl (by kernel_rfl) (by kernel_rfl) (by kernel_rfl) (fun _ _ _ h => h) (Or.inl ⟨by rfl, ?_⟩) (by assumption) ?_
            rotate_left
            · intro w hSw
              try dsimp only at hSw
              go_simp
              try (with_reducible rfl)
            try simp only [Act.put, List.setIfInBounds_toArray, List.set_cons_zero, List.set_cons_succ]
            refine wpAnyH_ready (rs := [13]) (by kernel_rfl) (by simp) ?_
            refine AllReadyH.cons rfl (fun K hK => ?_) AllReadyH.nil
            go_simp
            have hN := lit_news wyb 53 [.int .i64 f, .int .i64 s, .int .i64 (min 200 (s + ya)), .int .i64 yb] (by simp) (by simp)
            change ∀ j u, _ → (wyb.alloc (.cells #[.int .i64 f, .int .i64 s, .int .i64 (min 200 (s + ya)), .int .i64 yb] 53)).cell? _ = _ at hN
            replace hT := hT.below (grow_alloc wyb (.cells #[.int .i64 f, .int .i64 s, .int .i64 (min 200 (s + ya)), .int .i64 yb] 53))
            replace hF := hF.below (grow_alloc wyb (.cells #[.int .i64 f, .int .i64 s, .int .i64 (min 200 (s + ya)), .int .i64 yb] 53))
            generalize wyb.alloc (.cells #[.int .i64 f, .int .i64 s, .int .i64 (min 200 (s + ya)), .int .i64 yb] 53) = Wo at *
            generalize wyb.heap.size = bo at *
            refine hK.out _ _ ((bz_cells hT).1) (fun hHeld => ?_)
            clear hK K
            refine wpAnyH_ready (rs := [14]) (by kernel_rfl) (by simp) ?_
            refine AllReadyH.cons rfl (fun K hK => ?_) AllReadyH.nil
            refine step_append_ownW _ rfl (.tmp 18) (.tmp 31) 44 rfl w.heap.size 53 i0 (wxV 0 0 0 0) 4 32 Try.underlying44 hi hz0 hz1 hz2 rfl (by decide) (.slice (some ⟨g, 0, none⟩) l.length c) l.length (wxs l) (by rfl) hF.ho ⟨bo, 0, none⟩ 1 1 [.int .i64 f, .int .i64 s, .int .i64 (min 200 (s + ya)), .int .i64 yb] (by rfl) (by simp) hN (by intro u hu; simp at hu; rcases hu with rfl | rfl | rfl | rfl <;> rfl) (by unfold maxLen; omega) (by omega) hF.hg.size ?_
            intro vA wA hown' hgrow
            have hTn : some T ≠ (Value.slice (some ⟨g, 0, none⟩) l.length c).ownBlock := fun e => by obtain ⟨c1, k1⟩ := kindW hT; obtain ⟨c2, k2⟩ := kindO hF.ho e.symm; rw [k1] at k2; cases k2
            replace hT := hT.kept hgrow hTn
            replace hF := hF.push (p := ⟨f, s, min 200 (s + ya), yb⟩) hown' hgrow ⟨s0, s1⟩
            obtain ⟨gA, cA, rfl⟩ : ∃ gA cA, vA = .slice (some ⟨gA, 0, none⟩) (l.length + 1) cA := by rcases hown'.2 with ⟨_, h1⟩ | ⟨g2, cap2, cur2, hv2, _⟩; omega; exact ⟨_, _, hv2⟩
            clear hown' hgrow hN
            refine hK.out _ _ ((bz_cells hT).1) (fun hHeld => ?_)
            clear hK K
            refine wpAnyH_take (i := 15) (v := ?_) rfl (by kernel_rfl) (by kernel_rfl) (by kernel_rfl) (fun _ _ _ h => h) (Or.inl ⟨by rfl, ?_⟩) (by assumption) ?_
            rotate_left
            · intro w hSw
              try dsimp only at hSw
              go_simp
              try (with_reducible rfl)
            try simp only [Act.put, List.setIfInBounds_toArray, List.set_cons_zero, List.set_cons_succ]
            refine wpAnyH_done (by kernel_rfl) ?_ _
            have hFz : Hid (Fc w wA C (m + 2 + 12 * (l ++ [(⟨f, s, min 200 (s + ya), yb⟩ : Wx)]).length) (.slice (some ⟨gA, 0, none⟩) (l.length + 1) cA) (l ++ [(⟨f, s, min 200 (s + ya), yb⟩ : Wx)])) := hF.up (by rw [List.length_append, List.length_singleton]; omega)
            clear hT hHeld hF
            go_wp2
            go_roundw
            case rel => exact ⟨l ++ [(⟨f, s, min 200 (s + ya), yb⟩ : Wx)], _, gA, cA, by simp; omega, rfl, by show _ = _; simp; omega, by simp, hFz.out⟩
            case measure => simp [intOf]; omega
          · skip
            go_simp
            have nq : wya.heap.size ≠ C := by have := hF.hc.lt; omega
            have sq : Sl (wya.alloc (.cells #[.int .i64 0, .int .i64 12, .int .i64 25, .int .i64 60, .int .i64 100] 3)) 1 (.slice (some ⟨wya.heap.size, 0, none⟩) 5 5) 5 (([0, 12, 25, 60, 100] : List Int).map (Value.int .i64)) := lit_sl wya (([0, 12, 25, 60, 100] : List Int).map (Value.int .i64)) 3 (by simp)
            replace hT := hT.below (grow_alloc wya (.cells #[.int .i64 0, .int .i64 12, .int .i64 25, .int .i64 60, .int .i64 100] 3))
            replace hF := hF.below (grow_alloc wya (.cells #[.int .i64 0, .int .i64 12, .int .i64 25, .int .i64 60, .int .i64 100] 3))
            generalize wya.alloc (.cells #[.int .i64 0, .int .i64 12, .int .i64 25, .int .i64 60, .int .i64 100] 3) = Wn2 at *
            generalize wya.heap.size = bq at *
            refine hK.out _ _ ((bz_cells hT).1) (fun hHeld => ?_)
            clear hK K
            refine wpAnyH_ready (rs := [8]) (by kernel_rfl) (by simp) ?_
            refine AllReadyH.cons rfl (fun K hK => ?_) AllReadyH.nil
            go_simp
            go_at_call 88
            refine (l1Least_any _ _ _).mono ?_
            rintro e wq ⟨rfl, rfl⟩
            refine hK.out _ _ ((bz_cells hT).1) (fun hHeld => ?_)
            clear hK K
            refine wpAnyH_ready (rs := [11]) (by kernel_rfl) (by simp) ?_
            refine AllReadyH.cons rfl (fun K hK => ?_) AllReadyH.nil
            go_simp
            go_at_call 59
            refine (among_cut _ _ bq 5 5 [0, 12, 25, 60, 100] Wn2 rfl hF.hc (by omega) sq nq (by omega) (by omega)).mono ?_
            rintro e wyb ⟨yb, hyb, rfl, hc', hg'⟩
            have byb := small_ofB (a := 0) (b := 100) (by decide) hyb
            clear hyb sq
            replace hT := hT.kept hg' (by simpa using hTC)
            replace hF := hF.curs hc' hg'
            clear hc' hg'
            refine hK.out _ _ ((bz_cells hT).1) (fun hHeld => ?_)
            clear hK K
            refine wpAnyH_take (i := 12) (v := ?_) rfl (by kernel_rfl) (by kernel_rfl) (by kernel_rfl) (fun _ _ _ h => h) (Or.inl ⟨by rfl, ?_⟩) (by assumption) ?_
            rotate_left
            · intro w hSw
              try dsimp only at hSw
              go_simp
              try (with_reducible rfl)
            try simp only [Act.put, List.setIfInBounds_toArray, List.set_cons_zero, List.set_cons_succ]
            refine wpAnyH_ready (rs := [13]) (by kernel_rfl) (by simp) ?_
            refine AllReadyH.cons rfl (fun K hK => ?_) AllReadyH.nil
            go_simp
            have hN := lit_news wyb 53 [.int .i64 f, .int .i64 s, .int .i64 (min 200 (s + ya)), .int .i64 yb] (by simp) (by simp)
            change ∀ j u, _ → (wyb.alloc (.cells #[.int .i64 f, .int .i64 s, .int .i64 (min 200 (s + ya)), .int .i64 yb] 53)).cell? _ = _ at hN
            replace hT := hT.below (grow_alloc wyb (.cells #[.int .i64 f, .int .i64 s, .int .i64 (min 200 (s + ya)), .int .i64 yb] 53))
            replace hF := hF.below (grow_alloc wyb (.cells #[.int .i64 f, .int .i64 s, .int .i64 (min 200 (s + ya)), .int .i64 yb] 53))
            generalize wyb.alloc (.cells #[.int .i64 f, .int .i64 s, .int .i64 (min 200 (s + ya)), .int .i64 yb] 53) = Wo at *
            generalize wyb.heap.size = bo at *
            refine hK.out _ _ ((bz_cells hT).1) (fun hHeld => ?_)
            clear hK K
            refine wpAnyH_ready (rs := [14]) (by kernel_rfl) (by simp) ?_
            refine AllReadyH.cons rfl (fun K hK => ?_) AllReadyH.nil
            refine step_append_ownW _ rfl (.tmp 18) (.tmp 31) 44 rfl w.heap.size 53 i0 (wxV 0 0 0 0) 4 32 Try.underlying44 hi hz0 hz1 hz2 rfl (by decide) (.slice (some ⟨g, 0, none⟩) l.length c) l.length (wxs l) (by rfl) hF.ho ⟨bo, 0, none⟩ 1 1 [.int .i64 f, .int .i64 s, .int .i64 (min 200 (s + ya)), .int .i64 yb] (by rfl) (by simp) hN (by intro u hu; simp at hu; rcases hu with rfl | rfl | rfl | rfl <;> rfl) (by unfold maxLen; omega) (by omega) hF.hg.size ?_
            intro vA wA hown' hgrow
            have hTn : some T ≠ (Value.slice (some ⟨g, 0, none⟩) l.length c).ownBlock := fun e => by obtain ⟨c1, k1⟩ := kindW hT; obtain ⟨c2, k2⟩ := kindO hF.ho e.symm; rw [k1] at k2; cases k2
            replace hT := hT.kept hgrow hTn
            replace hF := hF.push (p := ⟨f, s, min 200 (s + ya), yb⟩) hown' hgrow ⟨s0, s1⟩
            obtain ⟨gA, cA, rfl⟩ : ∃ gA cA, vA = .slice (some ⟨gA, 0, none⟩) (l.length + 1) cA := by rcases hown'.2 with ⟨_, h1⟩ | ⟨g2, cap2, cur2, hv2, _⟩; omega; exact ⟨_, _, hv2⟩
            clear hown' hgrow hN
            refine hK.out _ _ ((bz_cells hT).1) (fun hHeld => ?_)
            clear hK K
            refine wpAnyH_take (i := 15) (v := ?_) rfl (by kernel_rfl) (by kernel_rfl) (by kernel_rfl) (fun _ _ _ h => h) (Or.inl ⟨by rfl, ?_⟩) (by assumption) ?_
            rotate_left
            · intro w hSw
              try dsimp only at hSw
              go_simp
              try (with_reducible rfl)
            try simp only [Act.put, List.setIfInBounds_toArray, List.set_cons_zero, List.set_cons_succ]
            refine wpAnyH_done (by kernel_rfl) ?_ _
            have hFz : Hid (Fc w wA C (m + 2 + 12 * (l ++ [(⟨f, s, min 200 (s + ya), yb⟩ : Wx)]).length) (.slice (some ⟨gA, 0, none⟩) (l.length + 1) cA) (l ++ [(⟨f, s, min 200 (s + ya), yb⟩ : Wx)])) := hF.up (by rw [List.length_append, List.length_singleton]; omega)
            clear hT hHeld hF
            go_wp2
            go_roundw
            case rel => exact ⟨l ++ [(⟨f, s, min 200 (s + ya), yb⟩ : Wx)], _, gA, cA, by simp; omega, rfl, by show _ = _; simp; omega, by simp, hFz.out⟩
            case measure => simp [intOf]; omega
        · skip
          go_simp
          have nq : Wn0.heap.size ≠ C := by have := hF.hc.lt; omega
          have sq : Sl (Wn0.alloc (.cells #[.int .i64 0, .int .i64 12, .int .i64 25, .int .i64 60, .int .i64 100] 3)) 1 (.slice (some ⟨Wn0.heap.size, 0, none⟩) 5 5) 5 (([0, 12, 25, 60, 100] : List Int).map (Value.int .i64)) := lit_sl Wn0 (([0, 12, 25, 60, 100] : List Int).map (Value.int .i64)) 3 (by simp)
          replace sp := sp.below (grow_alloc Wn0 (.cells #[.int .i64 0, .int .i64 12, .int .i64 25, .int .i64 60, .int .i64 100] 3))
          replace hT := hT.below (grow_alloc Wn0 (.cells #[.int .i64 0, .int .i64 12, .int .i64 25, .int .i64 60, .int .i64 100] 3))
          replace hF := hF.below (grow_alloc Wn0 (.cells #[.int .i64 0, .int .i64 12, .int .i64 25, .int .i64 60, .int .i64 100] 3))
          generalize Wn0.alloc (.cells #[.int .i64 0, .int .i64 12, .int .i64 25, .int .i64 60, .int .i64 100] 3) = Wn1 at *
          generalize Wn0.heap.size = bq at *
          refine hK.out _ _ ((bz_cells hT).1) (fun hHeld => ?_)
          clear hK K
          refine wpAnyH_ready (rs := [6]) (by kernel_rfl) (by simp) ?_
          refine AllReadyH.cons rfl (fun K hK => ?_) AllReadyH.nil
          go_simp
          go_at_call 59
          refine (among_cut _ _ bp 4 4 [0, 5, 30, 90] Wn1 rfl hF.hc (by omega) sp np (by omega) (by omega)).mono ?_
          rintro e wya ⟨ya, hya, rfl, hc', hg'⟩
          have bya := small_ofB (a := 0) (b := 90) (by decide) hya
          clear hya sp
          replace sq := sq.kept hg' (.inr (by simp [Value.ownBlock]; omega))
          replace hT := hT.kept hg' (by simpa using hTC)
          replace hF := hF.curs hc' hg'
          clear hc' hg'
          refine hK.out _ _ ((bz_cells hT).1) (fun hHeld => ?_)
          clear hK K
          have e7 : IntKind.i64.wrap (s + ya) = s + ya := IntWalk.i64_in _ (by omega)
          refine wpAnyH_take (i := 7) (v := ?_) rfl (by kernel_rfl) (by kernel_rfl) (by kernel_rfl) (fun _ _ _ h => h) (Or.inl ⟨by rfl, ?_⟩) (by assumption) ?_
          rotate_left
          · intro w hSw
            try dsimp only at hSw
            go_simp
            try (with_reducible rfl)
          try simp only [Act.put, List.setIfInBounds_toArray, List.set_cons_zero, List.set_cons_succ]
          refine wpAnyH_ready (rs := [8]) (by kernel_rfl) (by simp) ?_
          refine AllReadyH.cons rfl (fun K hK => ?_) AllReadyH.nil
          go_simp
          go_at_call 88
          refine (l1Least_any _ _ _).mono ?_
          rintro e wq ⟨rfl, rfl⟩
          refine hK.out _ _ ((bz_cells hT).1) (fun hHeld => ?_)
          clear hK K
          refine wpAnyH_ready (rs := [11]) (by kernel_rfl) (by simp) ?_
          refine AllReadyH.cons rfl (fun K hK => ?_) AllReadyH.nil
          go_simp
          go_at_call 59
          refine (among_cut _ _ bq 5 5 [0, 12, 25, 60, 100] wya rfl hF.hc (by omega) sq nq (by omega) (by omega)).mono ?_
          rintro e wyb ⟨yb, hyb, rfl, hc', hg'⟩
          have byb := small_ofB (a := 0) (b := 100) (by decide) hyb
          clear hyb sq
          replace hT := hT.kept hg' (by simpa using hTC)
          replace hF := hF.curs hc' hg'
          clear hc' hg'
          refine hK.out _ _ ((bz_cells hT).1) (fun hHeld => ?_)
          clear hK K
          refine wpAnyH_take (i := 12) (v := ?_) rfl (by kernel_rfl) (by kernel_rfl) (by kernel_rfl) (fun _ _ _ h => h) (Or.inl ⟨by rfl, ?_⟩) (by assumption) ?_
          rotate_left
          · intro w hSw
            try dsimp only at hSw
            go_simp
            try (with_reducible rfl)
          try simp only [Act.put, List.setIfInBounds_toArray, List.set_cons_zero, List.set_cons_succ]
          refine wpAnyH_ready (rs := [13]) (by kernel_rfl) (by simp) ?_
          refine AllReadyH.cons rfl (fun K hK => ?_) AllReadyH.nil
          go_simp
          have hN := lit_news wyb 53 [.int .i64 f, .int .i64 s, .int .i64 (min 200 (s + ya)), .int .i64 yb] (by simp) (by simp)
          change ∀ j u, _ → (wyb.alloc (.cells #[.int .i64 f, .int .i64 s, .int .i64 (min 200 (s + ya)), .int .i64 yb] 53)).cell? _ = _ at hN
          replace hT := hT.below (grow_alloc wyb (.cells #[.int .i64 f, .int .i64 s, .int .i64 (min 200 (s + ya)), .int .i64 yb] 53))
          replace hF := hF.below (grow_alloc wyb (.cells #[.int .i64 f, .int .i64 s, .int .i64 (min 200 (s + ya)), .int .i64 yb] 53))
          generalize wyb.alloc (.cells #[.int .i64 f, .int .i64 s, .int .i64 (min 200 (s + ya)), .int .i64 yb] 53) = Wo at *
          generalize wyb.heap.size = bo at *
          refine hK.out _ _ ((bz_cells hT).1) (fun hHeld => ?_)
          clear hK K
          refine wpAnyH_ready (rs := [14]) (by kernel_rfl) (by simp) ?_
          refine AllReadyH.cons rfl (fun K hK => ?_) AllReadyH.nil
          refine step_append_ownW _ rfl (.tmp 18) (.tmp 31) 44 rfl w.heap.size 53 i0 (wxV 0 0 0 0) 4 32 Try.underlying44 hi hz0 hz1 hz2 rfl (by decide) (.slice (some ⟨g, 0, none⟩) l.length c) l.length (wxs l) (by rfl) hF.ho ⟨bo, 0, none⟩ 1 1 [.int .i64 f, .int .i64 s, .int .i64 (min 200 (s + ya)), .int .i64 yb] (by rfl) (by simp) hN (by intro u hu; simp at hu; rcases hu with rfl | rfl | rfl | rfl <;> rfl) (by unfold maxLen; omega) (by omega) hF.hg.size ?_
          intro vA wA hown' hgrow
          have hTn : some T ≠ (Value.slice (some ⟨g, 0, none⟩) l.length c).ownBlock := fun e => by obtain ⟨c1, k1⟩ := kindW hT; obtain ⟨c2, k2⟩ := kindO hF.ho e.symm; rw [k1] at k2; cases k2
          replace hT := hT.kept hgrow hTn
          replace hF := hF.push (p := ⟨f, s, min 200 (s + ya), yb⟩) hown' hgrow ⟨s0, s1⟩
          obtain ⟨gA, cA, rfl⟩ : ∃ gA cA, vA = .slice (some ⟨gA, 0, none⟩) (l.length + 1) cA := by rcases hown'.2 with ⟨_, h1⟩ | ⟨g2, cap2, cur2, hv2, _⟩; omega; exact ⟨_, _, hv2⟩
          clear hown' hgrow hN
          refine hK.out _ _ ((bz_cells hT).1) (fun hHeld => ?_)
          clear hK K
          refine wpAnyH_take (i := 15) (v := ?_) rfl (by kernel_rfl) (by kernel_rfl) (by kernel_rfl) (fun _ _ _ h => h) (Or.inl ⟨by rfl, ?_⟩) (by assumption) ?_
          rotate_left
          · intro w hSw
            try dsimp only at hSw
            go_simp
            try (with_reducible rfl)
          try simp only [Act.put, List.setIfInBounds_toArray, List.set_cons_zero, List.set_cons_succ]
          refine wpAnyH_done (by kernel_rfl) ?_ _
          have hFz : Hid (Fc w wA C (m + 2 + 12 * (l ++ [(⟨f, s, min 200 (s + ya), yb⟩ : Wx)]).length) (.slice (some ⟨gA, 0, none⟩) (l.length + 1) cA) (l ++ [(⟨f, s, min 200 (s + ya), yb⟩ : Wx)])) := hF.up (by rw [List.length_append, List.length_singleton]; omega)
          clear hT hHeld hF
          go_wp2
          go_roundw
          case rel => exact ⟨l ++ [(⟨f, s, min 200 (s + ya), yb⟩ : Wx)], _, gA, cA, by simp; omega, rfl, by show _ = _; simp; omega, by simp, hFz.out⟩
          case measure => simp [intOf]; omega
      · skip
        go_simp
        have nq : Wd.heap.size ≠ C := by have := hF.hc.lt; omega
        have sq : Sl (Wd.alloc (.cells #[.int .i64 0, .int .i64 12, .int .i64 25, .int .i64 60, .int .i64 100] 3)) 1 (.slice (some ⟨Wd.heap.size, 0, none⟩) 5 5) 5 (([0, 12, 25, 60, 100] : List Int).map (Value.int .i64)) := lit_sl Wd (([0, 12, 25, 60, 100] : List Int).map (Value.int .i64)) 3 (by simp)
        replace hT := hT.below (grow_alloc Wd (.cells #[.int .i64 0, .int .i64 12, .int .i64 25, .int .i64 60, .int .i64 100] 3))
        replace hF := hF.below (grow_alloc Wd (.cells #[.int .i64 0, .int .i64 12, .int .i64 25, .int .i64 60, .int .i64 100] 3))
        generalize Wd.alloc (.cells #[.int .i64 0, .int .i64 12, .int .i64 25, .int .i64 60, .int .i64 100] 3) = Wn0 at *
        generalize Wd.heap.size = bq at *
        refine hK.out _ _ ((bz_cells hT).1) (fun hHeld => ?_)
        clear hK K
        refine wpAnyH_ready (rs := [5]) (by kernel_rfl) (by simp) ?_
        refine AllReadyH.cons rfl (fun K hK => ?_) AllReadyH.nil
        go_simp
        have np : Wn0.heap.size ≠ C := by have := hF.hc.lt; omega
        have sp : Sl (Wn0.alloc (.cells #[.int .i64 0, .int .i64 5, .int .i64 30, .int .i64 90] 3)) 1 (.slice (some ⟨Wn0.heap.size, 0, none⟩) 4 4) 4 (([0, 5, 30, 90] : List Int).map (Value.int .i64)) := lit_sl Wn0 (([0, 5, 30, 90] : List Int).map (Value.int .i64)) 3 (by simp)
        replace sq := sq.below (grow_alloc Wn0 (.cells #[.int .i64 0, .int .i64 5, .int .i64 30, .int .i64 90] 3))
        replace hT := hT.below (grow_alloc Wn0 (.cells #[.int .i64 0, .int .i64 5, .int .i64 30, .int .i64 90] 3))
        replace hF := hF.below (grow_alloc Wn0 (.cells #[.int .i64 0, .int .i64 5, .int .i64 30, .int .i64 90] 3))
        generalize Wn0.alloc (.cells #[.int .i64 0, .int .i64 5, .int .i64 30, .int .i64 90] 3) = Wn1 at *
        generalize Wn0.heap.size = bp at *
        refine hK.out _ _ ((bz_cells hT).1) (fun hHeld => ?_)
        clear hK K
        refine wpAnyH_ready (rs := [6]) (by kernel_rfl) (by simp) ?_
        refine AllReadyH.cons rfl (fun K hK => ?_) AllReadyH.nil
        go_simp
        go_at_call 59
        refine (among_cut _ _ bp 4 4 [0, 5, 30, 90] Wn1 rfl hF.hc (by omega) sp np (by omega) (by omega)).mono ?_
        rintro e wya ⟨ya, hya, rfl, hc', hg'⟩
        have bya := small_ofB (a := 0) (b := 90) (by decide) hya
        clear hya sp
        replace sq := sq.kept hg' (.inr (by simp [Value.ownBlock]; omega))
        replace hT := hT.kept hg' (by simpa using hTC)
        replace hF := hF.curs hc' hg'
        clear hc' hg'
        refine hK.out _ _ ((bz_cells hT).1) (fun hHeld => ?_)
        clear hK K
        have e7 : IntKind.i64.wrap (s + ya) = s + ya := IntWalk.i64_in _ (by omega)
        refine wpAnyH_take (i := 7) (v := ?_) rfl (by kernel_rfl) (by kernel_rfl) (by kernel_rfl) (fun _ _ _ h => h) (Or.inl ⟨by rfl, ?_⟩) (by assumption) ?_
        rotate_left
        · intro w hSw
          try dsimp only at hSw
          go_simp
          try (with_reducible rfl)
        try simp only [Act.put, List.setIfInBounds_toArray, List.set_cons_zero, List.set_cons_succ]
        refine wpAnyH_ready (rs := [8]) (by kernel_rfl) (by simp) ?_
        refine AllReadyH.cons rfl (fun K hK => ?_) AllReadyH.nil
        go_simp
        go_at_call 88
        refine (l1Least_any _ _ _).mono ?_
        rintro e wq ⟨rfl, rfl⟩
        refine hK.out _ _ ((bz_cells hT).1) (fun hHeld => ?_)
        clear hK K
        refine wpAnyH_ready (rs := [11]) (by kernel_rfl) (by simp) ?_
        refine AllReadyH.cons rfl (fun K hK => ?_) AllReadyH.nil
        go_simp
        go_at_call 59
        refine (among_cut _ _ bq 5 5 [0, 12, 25, 60, 100] wya rfl hF.hc (by omega) sq nq (by omega) (by omega)).mono ?_
        rintro e wyb ⟨yb, hyb, rfl, hc', hg'⟩
        have byb := small_ofB (a := 0) (b := 100) (by decide) hyb
        clear hyb sq
        replace hT := hT.kept hg' (by simpa using hTC)
        replace hF := hF.curs hc' hg'
        clear hc' hg'
        refine hK.out _ _ ((bz_cells hT).1) (fun hHeld => ?_)
        clear hK K
        refine wpAnyH_take (i := 12) (v := ?_) rfl (by kernel_rfl) (by kernel_rfl) (by kernel_rfl) (fun _ _ _ h => h) (Or.inl ⟨by rfl, ?_⟩) (by assumption) ?_
        rotate_left
        · intro w hSw
          try dsimp only at hSw
          go_simp
          try (with_reducible rfl)
        try simp only [Act.put, List.setIfInBounds_toArray, List.set_cons_zero, List.set_cons_succ]
        refine wpAnyH_ready (rs := [13]) (by kernel_rfl) (by simp) ?_
        refine AllReadyH.cons rfl (fun K hK => ?_) AllReadyH.nil
        go_simp
        have hN := lit_news wyb 53 [.int .i64 f, .int .i64 s, .int .i64 (min 200 (s + ya)), .int .i64 yb] (by simp) (by simp)
        change ∀ j u, _ → (wyb.alloc (.cells #[.int .i64 f, .int .i64 s, .int .i64 (min 200 (s + ya)), .int .i64 yb] 53)).cell? _ = _ at hN
        replace hT := hT.below (grow_alloc wyb (.cells #[.int .i64 f, .int .i64 s, .int .i64 (min 200 (s + ya)), .int .i64 yb] 53))
        replace hF := hF.below (grow_alloc wyb (.cells #[.int .i64 f, .int .i64 s, .int .i64 (min 200 (s + ya)), .int .i64 yb] 53))
        generalize wyb.alloc (.cells #[.int .i64 f, .int .i64 s, .int .i64 (min 200 (s + ya)), .int .i64 yb] 53) = Wo at *
        generalize wyb.heap.size = bo at *
        refine hK.out _ _ ((bz_cells hT).1) (fun hHeld => ?_)
        clear hK K
        refine wpAnyH_ready (rs := [14]) (by kernel_rfl) (by simp) ?_
        refine AllReadyH.cons rfl (fun K hK => ?_) AllReadyH.nil
        refine step_append_ownW _ rfl (.tmp 18) (.tmp 31) 44 rfl w.heap.size 53 i0 (wxV 0 0 0 0) 4 32 Try.underlying44 hi hz0 hz1 hz2 rfl (by decide) (.slice (some ⟨g, 0, none⟩) l.length c) l.length (wxs l) (by rfl) hF.ho ⟨bo, 0, none⟩ 1 1 [.int .i64 f, .int .i64 s, .int .i64 (min 200 (s + ya)), .int .i64 yb] (by rfl) (by simp) hN (by intro u hu; simp at hu; rcases hu with rfl | rfl | rfl | rfl <;> rfl) (by unfold maxLen; omega) (by omega) hF.hg.size ?_
        intro vA wA hown' hgrow
        have hTn : some T ≠ (Value.slice (some ⟨g, 0, none⟩) l.length c).ownBlock := fun e => by obtain ⟨c1, k1⟩ := kindW hT; obtain ⟨c2, k2⟩ := kindO hF.ho e.symm; rw [k1] at k2; cases k2
        replace hT := hT.kept hgrow hTn
        replace hF := hF.push (p := ⟨f, s, min 200 (s + ya), yb⟩) hown' hgrow ⟨s0, s1⟩
        obtain ⟨gA, cA, rfl⟩ : ∃ gA cA, vA = .slice (some ⟨gA, 0, none⟩) (l.length + 1) cA := by rcases hown'.2 with ⟨_, h1⟩ | ⟨g2, cap2, cur2, hv2, _⟩; omega; exact ⟨_, _, hv2⟩
        clear hown' hgrow hN
        refine hK.out _ _ ((bz_cells hT).1) (fun hHeld => ?_)
        clear hK K
        refine wpAnyH_take (i := 15) (v := ?_) rfl (by kernel_rfl) (by kernel_rfl) (by kernel_rfl) (fun _ _ _ h => h) (Or.inl ⟨by rfl, ?_⟩) (by assumption) ?_
        rotate_left
        · intro w hSw
          try dsimp only at hSw
          go_simp
          try (with_reducible rfl)
        try simp only [Act.put, List.setIfInBounds_toArray, List.set_cons_zero, List.set_cons_succ]
        refine wpAnyH_done (by kernel_rfl) ?_ _
        have hFz : Hid (Fc w wA C (m + 2 + 12 * (l ++ [(⟨f, s, min 200 (s + ya), yb⟩ : Wx)]).length) (.slice (some ⟨gA, 0, none⟩) (l.length + 1) cA) (l ++ [(⟨f, s, min 200 (s + ya), yb⟩ : Wx)])) := hF.up (by rw [List.length_append, List.length_singleton]; omega)
        clear hT hHeld hF
        go_wp2
        go_roundw
        case rel => exact ⟨l ++ [(⟨f, s, min 200 (s + ya), yb⟩ : Wx)], _, gA, cA, by simp; omega, rfl, by show _ = _; simp; omega, by simp, hFz.out⟩
        case measure => simp [intOf]; omega
    case neg =>
      have hl1 : 1 ≤ l.length := by omega
      have hl8 : l.length ≤ 8 := by omega
      have d0 : decide (0 < i) = false := decide_eq_false (by omega)
      have hP := Lib.hid (pick_any C _ (l.length : Int) wr hF.out.hc (by omega) (by omega))
      go_wp2_with fail
      refine hP.out.mono ?_
      rintro e w2 ⟨v, rfl, ⟨j, rfl, j0, j1⟩, hc, hg⟩
      replace hF := hF.out.curs hc hg
      obtain ⟨j, rfl⟩ := Int.eq_ofNat_of_zero_le j0
      have hj : j < l.length := by omega
      obtain ⟨b, off, f, s, gu, hu, hA, hx, c0, c1, c2, c3⟩ := Sl.wx (Sl.of_own hF.ho) rfl hj
      injection hA with hA
      injection hA with hA1 hA2
      subst hA1 hA2
      simp only [Nat.zero_add] at c0 c1 c2 c3
      obtain ⟨s0, s1⟩ := hF.hl _ (List.mem_of_getElem? hx)
      simp only at s0 s1
      have hgl := (hF.ho.lt g rfl)
      have hbx := grow_alloc w2 (.cells #[.int .i64 f, .int .i64 s, .int .i64 gu, .int .i64 hu] 53)
      replace hF := hF.below hbx
      have hT : Bx (w2.alloc (.cells #[.int .i64 f, .int .i64 s, .int .i64 gu, .int .i64 hu] 53)) 53 w2.heap.size [.int .i64 f, .int .i64 s, .int .i64 gu, .int .i64 hu] := Bx.new w2 [.int .i64 f, .int .i64 s, .int .i64 gu, .int .i64 hu] _
      have hTC : w2.heap.size ≠ C := by have := hc.lt; omega
      have hTg : w2.heap.size ≠ g := by omega
      have hTw : w.heap.size ≤ w2.heap.size := by omega
      have hcm : c ≤ maxLen := by
        rcases hF.ho.2 with ⟨e1, _⟩ | ⟨g', cap', cur', e1, _, _, _, hcc, _⟩
        · cases e1
        · injection e1 with _ _ e1; subst e1; exact hcc
      have hP := Lib.hid (pick_any C _ 50 _ hF.hc (by omega) (by omega))
      replace hF := Lib.hid hF
      replace hT := Lib.hid hT
      clear hx hgl hbx hc hg j0 j1 hi0 hie hk hlt2
      go_wp2_with fail
      refine hP.out.mono ?_
      rintro e w3 ⟨v, rfl, ⟨z, rfl, z0, z1⟩, hc, hg⟩
      replace hF := Lib.hid ((hF.out.curs hc hg).up (m' := m + 120) (by omega))
      replace hT := Lib.hid (hT.out.kept hg (by simpa using hTC))
      clear hP hc hg c0 c1 c2 c3
      generalize w2.heap.size = T at *
      rcases (show z = 0 ∨ z = 1 ∨ z = 2 ∨ z = 3 ∨ 4 ≤ z by omega) with rfl | rfl | rfl | rfl | hz
      · skip
        have es : IntKind.i64.wrap (s - 1) = s - 1 := IntWalk.i64_in _ (by omega)
        have hA := among_lit C _ 2 ([s - 1, 201] : List Int) _ rfl hF.out.hc (by omega) (by omega) (by omega)
        simp only [List.map_cons, List.map_nil] at hA
        replace hA := Lib.hid hA
        obtain ⟨⟨t0, t1, t2, t3⟩, _⟩ := four_cells hT.out
        go_wp2_with fail
        clear t0 t1 t2 t3
        refine hA.out.mono ?_
        rintro e w4 ⟨y, hy, rfl, hc, hg⟩
        have hF4 := hF.out.curs hc hg
        have hT4 := hT.out.kept hg (by simpa using hTC)
        have k4 := hT4.cell 2 rfl
        have k5 := hT4.fz 2
        replace hF := Lib.hid (hF4.box hTw hT4 (.inr (by simp [Value.ownBlock]; omega)) 2 (.int .i64 y))
        replace hT : Hid (Bx (w4.setCell ⟨T, 2, none⟩ (.int .i64 y)) 53 T [.int .i64 f, .int .i64 s, .int .i64 y, .int .i64 hu]) := hT4.set 2 (.int .i64 y)
        clear hA hc hg hF4 hT4 hy
        obtain ⟨⟨t0, t1, t2, t3⟩, _⟩ := four_cells hT.out
        obtain ⟨u0, x0', y0'⟩ := own_spotW hF.out.ho (j * 4) (by omega)
        obtain ⟨o1, _⟩ := hF.out.ho.stored (j * 4) (.int .i64 (f))
        obtain ⟨u1, x1', y1'⟩ := own_spotW o1 (j * 4 + 1) (by omega)
        obtain ⟨o2, _⟩ := o1.stored (j * 4 + 1) (.int .i64 (s))
        obtain ⟨u2, x2', y2'⟩ := own_spotW o2 (j * 4 + 2) (by omega)
        obtain ⟨o3, _⟩ := o2.stored (j * 4 + 2) (.int .i64 (y))
        obtain ⟨u3, x3', y3'⟩ := own_spotW o3 (j * 4 + 3) (by omega)
        have hE := Lib.hid ((hF.out.set4 (j := j) (by omega) ⟨f, s, y, hu⟩ ⟨by simp only; omega, by simp only; omega⟩).ret (m' := m + 300) (by rw [List.length_set]; omega) (by omega))
        clear o1 o2 o3 hF hT
        go_wp2
        go_ret
        exact hE.out
      · skip
        have hA := among_lit C _ 2 ([-1, 101] : List Int) _ rfl hF.out.hc (by omega) (by omega) (by omega)
        simp only [List.map_cons, List.map_nil] at hA
        replace hA := Lib.hid hA
        obtain ⟨⟨t0, t1, t2, t3⟩, _⟩ := four_cells hT.out
        go_wp2_with fail
        clear t0 t1 t2 t3
        refine hA.out.mono ?_
        rintro e w4 ⟨y, hy, rfl, hc, hg⟩
        have hF4 := hF.out.curs hc hg
        have hT4 := hT.out.kept hg (by simpa using hTC)
        have k4 := hT4.cell 3 rfl
        have k5 := hT4.fz 3
        replace hF := Lib.hid (hF4.box hTw hT4 (.inr (by simp [Value.ownBlock]; omega)) 3 (.int .i64 y))
        replace hT : Hid (Bx (w4.setCell ⟨T, 3, none⟩ (.int .i64 y)) 53 T [.int .i64 f, .int .i64 s, .int .i64 gu, .int .i64 y]) := hT4.set 3 (.int .i64 y)
        clear hA hc hg hF4 hT4 hy
        obtain ⟨⟨t0, t1, t2, t3⟩, _⟩ := four_cells hT.out
        obtain ⟨u0, x0', y0'⟩ := own_spotW hF.out.ho (j * 4) (by omega)
        obtain ⟨o1, _⟩ := hF.out.ho.stored (j * 4) (.int .i64 (f))
        obtain ⟨u1, x1', y1'⟩ := own_spotW o1 (j * 4 + 1) (by omega)
        obtain ⟨o2, _⟩ := o1.stored (j * 4 + 1) (.int .i64 (s))
        obtain ⟨u2, x2', y2'⟩ := own_spotW o2 (j * 4 + 2) (by omega)
        obtain ⟨o3, _⟩ := o2.stored (j * 4 + 2) (.int .i64 (gu))
        obtain ⟨u3, x3', y3'⟩ := own_spotW o3 (j * 4 + 3) (by omega)
        have hE := Lib.hid ((hF.out.set4 (j := j) (by omega) ⟨f, s, gu, y⟩ ⟨by simp only; omega, by simp only; omega⟩).ret (m' := m + 300) (by rw [List.length_set]; omega) (by omega))
        clear o1 o2 o3 hF hT
        go_wp2
        go_ret
        exact hE.out
      · skip
        go_wp2
        go_loopw [3] (fun v wr => ∃ l2 : List Wx, ∃ g2 c2 : Nat, v = .slice (some ⟨g2, 0, none⟩) l2.length c2 ∧ l.length ≤ l2.length ∧ l2.length ≤ 25 ∧ T ≠ g2 ∧ Hid (Fc w wr C (m + 120 + 2 * l2.length) v l2) ∧ Hid (Bx wr 53 T [.int .i64 f, .int .i64 s, .int .i64 gu, .int .i64 hu])) (fun v _ => 26 - lenV v)
        case atStart => exact ⟨l, g, c, rfl, Nat.le_refl _, by omega, hTg, hF.out.up (by omega), hT.out⟩
        case round =>
          clear hF hT
          obtain ⟨l2, g2, c2, rfl, h1, h2, hTg2, hF2, hT2⟩ := hrel
          have hP := Lib.hid (pick_any C _ 2 wr hF2.out.hc (by omega) (by omega))
          go_wp2_with fail
          refine hP.out.mono ?_
          rintro e w4 ⟨v, rfl, ⟨y, rfl, y0, y1⟩, hc, hg⟩
          have hF := Lib.hid (hF2.out.curs hc hg)
          have hT := Lib.hid (hT2.out.kept hg (by simpa using hTC))
          clear hP hc hg hF2 hT2
          have hTw4 := hT.out.lt
          by_cases hlt : (l2.length : Int) < 24 + y
          case pos =>
            have d1 : decide ((l2.length : Int) < 24 + y) = true := decide_eq_true hlt
            have hbn := grow_alloc w4 (.cells #[.int .i64 0, .int .i64 0, .int .i64 3, .int .i64 50] 53)
            have hF3 := Lib.hid (hF.out.below hbn)
            have hT3 := Lib.hid (hT.out.below hbn)
            have hN := Lib.hid (lit_news w4 53 [.int .i64 0, .int .i64 0, .int .i64 3, .int .i64 50] (by simp) (by simp))
            clear hbn hF hT
            go_wp2_with ((at_builtin; refine wpList_append_own_at _ rfl _ _ 44 rfl w.heap.size 53 i0 (wxV 0 0 0 0) 4 32 Try.underlying44 hi hz0 hz1 hz2 rfl (by decide) _ _ _ rfl hF3.out.ho ⟨w4.heap.size, 0, none⟩ 1 1 [.int .i64 0, .int .i64 0, .int .i64 3, .int .i64 50] rfl rfl ?c1 ?c2 ?c3 ?c4 ?c5 ?_))
            case c1 => exact hN.out
            case c2 => intro u hu; simp at hu; rcases hu with rfl | rfl | rfl <;> rfl
            case c3 => unfold maxLen; omega
            case c4 => omega
            case c5 => exact hF3.out.hg.size
            intro v5 w5 hown' hgrow hnil hat
            obtain ⟨gA, cA, rfl⟩ : ∃ gA cA, v5 = .slice (some ⟨gA, 0, none⟩) (l2.length + 1) cA := by rcases hown'.2 with ⟨_, h1⟩ | ⟨g3, cap2, cur2, hv2, _⟩; omega; exact ⟨_, _, hv2⟩
            have hTgA : T ≠ gA := by
              rcases hat with e | e
              · simp [Value.ownBlock] at e; omega
              · simp [Value.ownBlock] at e; omega
            have hF5 : Hid (Fc w w5 C (m + 120 + 2 * (l2 ++ [(⟨0, 0, 3, 50⟩ : Wx)]).length) (.slice (some ⟨gA, 0, none⟩) (l2.length + 1) cA) (l2 ++ [(⟨0, 0, 3, 50⟩ : Wx)])) := (hF3.out.push (p := ⟨0, 0, 3, 50⟩) hown' hgrow ⟨by decide, by decide⟩).up (by rw [List.length_append, List.length_singleton]; omega)
            have hT5 := Lib.hid (hT3.out.kept hgrow (by simp [Value.ownBlock]; omega))
            clear hown' hgrow hnil hat hF3 hT3 hN
            go_wp2
            go_roundw
            case rel => exact ⟨l2 ++ [(⟨0, 0, 3, 50⟩ : Wx)], gA, cA, by simp, by simp; omega, by simp; omega, hTgA, hF5.out, hT5.out⟩
            case measure => simp [lenV]; omega
          case neg =>
            have d1 : decide ((l2.length : Int) < 24 + y) = false := decide_eq_false hlt
            obtain ⟨⟨t0, t1, t2, t3⟩, _⟩ := four_cells hT.out
            obtain ⟨u0, x0', y0'⟩ := own_spotW hF.out.ho (j * 4) (by omega)
            obtain ⟨o1, _⟩ := hF.out.ho.stored (j * 4) (.int .i64 (f))
            obtain ⟨u1, x1', y1'⟩ := own_spotW o1 (j * 4 + 1) (by omega)
            obtain ⟨o2, _⟩ := o1.stored (j * 4 + 1) (.int .i64 (s))
            obtain ⟨u2, x2', y2'⟩ := own_spotW o2 (j * 4 + 2) (by omega)
            obtain ⟨o3, _⟩ := o2.stored (j * 4 + 2) (.int .i64 (gu))
            obtain ⟨u3, x3', y3'⟩ := own_spotW o3 (j * 4 + 3) (by omega)
            have hE := Lib.hid ((hF.out.set4 (j := j) (by omega) ⟨f, s, gu, hu⟩ ⟨by simp only; omega, by simp only; omega⟩).ret (m' := m + 300) (by rw [List.length_set]; omega) (by omega))
            clear o1 o2 o3 hF hT
            go_wp2
            go_ret
            exact hE.out
      · skip
        have hE := Lib.hid (hF.out.ret0 (m' := m + 300) (by omega) hcm)
        clear hF hT
        go_wp2
        go_ret
        exact hE.out
      · skip
        have z2 : (z == 0) = false := by simpa using (show z ≠ 0 by omega)
        have z3 : (z == 1) = false := by simpa using (show z ≠ 1 by omega)
        have z4 : (z == 2) = false := by simpa using (show z ≠ 2 by omega)
        have z5 : (z == 3) = false := by simpa using (show z ≠ 3 by omega)
        obtain ⟨⟨t0, t1, t2, t3⟩, _⟩ := four_cells hT.out
        obtain ⟨u0, x0', y0'⟩ := own_spotW hF.out.ho (j * 4) (by omega)
        obtain ⟨o1, _⟩ := hF.out.ho.stored (j * 4) (.int .i64 (f))
        obtain ⟨u1, x1', y1'⟩ := own_spotW o1 (j * 4 + 1) (by omega)
        obtain ⟨o2, _⟩ := o1.stored (j * 4 + 1) (.int .i64 (s))
        obtain ⟨u2, x2', y2'⟩ := own_spotW o2 (j * 4 + 2) (by omega)
        obtain ⟨o3, _⟩ := o2.stored (j * 4 + 2) (.int .i64 (gu))
        obtain ⟨u3, x3', y3'⟩ := own_spotW o3 (j * 4 + 3) (by omega)
        have hE := Lib.hid ((hF.out.set4 (j := j) (by omega) ⟨f, s, gu, hu⟩ ⟨by simp only; omega, by simp only; omega⟩).ret (m' := m + 300) (by rw [List.length_set]; omega) (by omega))
        clear o1 o2 o3 hF hT
        go_wp2
        go_ret
        exact hE.out
end Go.Proofs.Ytabedcpibnnnhaa
