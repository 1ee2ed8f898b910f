/- The reference's path of a fire. Conditions: as each states. -/
import Derived.Test.YtnacofmjipilhaaPathP
import Derived.Test.YtnacofmjipilhaaArr5
namespace Go.Proofs.Ytnacofmjipilhaa
open Go.ChangeShapes Go.WideShapes Go.ChangeAt Go.RowKit Go.Deep
set_option linter.unusedVariables false
set_option linter.unusedSimpArgs false
set_option maxRecDepth 100000

theorem q_one (w : World) (z : Int) : Qw (w.alloc (.cells #[.int .i64 z] 3)) w.heap.size 3 1 (.slice (some ⟨w.heap.size, 0, none⟩) 1 1) 1 [.int .i64 z] := by
  have := World.ownsRow_lit (base := w.heap.size) (e := 3) (size := 1) w #[.int .i64 z] 1 (Nat.le_refl _) (by unfold maxLen; omega) rfl
  exact Qw.of_own (by simpa using this)
theorem q_snoc {w : World} {B : Nat} {v : Value} {l : List Int} {z : Int} (h : Qw w B 3 1 v (l.length + 1) (ints l ++ [.int .i64 z])) : Qw w B 3 1 v (l ++ [z]).length (ints (l ++ [z])) := by simpa using h
/-- What a search for where fire came from holds. -/
def NotYet (x : Int) (zs : List Int) (ps : List (Int × Int)) (L : List Int) (c : Nat) (nl : List Int) (k : Nat) : Prop := ∀ (i : Nat) (z : Int), i < k → nl[i]? = some z → pkB x zs ps L c z.toNat = false
theorem NotYet.next {x : Int} {zs : List Int} {ps : List (Int × Int)} {L : List Int} {c : Nat} {nl : List Int} {k q : Nat} (h : NotYet x zs ps L c nl k) (hq : nl[k]? = some (q : Int)) (hn : pkB x zs ps L c q = false) : NotYet x zs ps L c nl (k + 1) := by
  intro i z hi hz
  by_cases e : i = k
  · subst e
    rw [hq] at hz
    cases hz
    simpa using hn
  · exact h i z (by omega) hz
theorem pk_no1 {x : Int} {zs : List Int} {ps : List (Int × Int)} {L : List Int} {c q : Nat} (h : tm L q = -1) : pkB x zs ps L c q = false := by unfold pkB; simp [h]
theorem pk_no2 {x : Int} {zs : List Int} {ps : List (Int × Int)} {L : List Int} {c q : Nat} (h : ¬ doneF ps (tm L q) (wrkF x zs q c) = tm L c) : pkB x zs ps L c q = false := by unfold pkB; simp [h]
theorem pk_yes {x : Int} {zs : List Int} {ps : List (Int × Int)} {L : List Int} {c q : Nat} (h0 : tm L q ≠ -1) (h : doneF ps (tm L q) (wrkF x zs q c) = tm L c) : pkB x zs ps L c q = true := by unfold pkB; simp [h, h0]
set_option maxHeartbeats 16000000 in
theorem l4Path_any (x y : Int) (u : Value) (zs : List Int) (v : Value) (ps : List (Int × Int)) (r : Value) (srcs : List Int) (s : Int) (L : List Int) (T : Value)
    (ht : terrB x y zs = true) (hp : phB ps = true) (hs0 : 0 ≤ s) (hs1 : s ≤ 1000) (hL : LstF x zs ps srcs s L) (hbd : ∀ c, -1 ≤ tm L c ∧ tm L c ≤ 4000) :
    ∀ (n c : Nat) (w : World), Sl w 1 u zs.length (ints zs) → Sl w 2 v ps.length (phs ps) → Sl w 1 r srcs.length (ints srcs) → Sl w 1 T L.length (ints L) → (tm L c).toNat < n → c < zs.length → tm L c ≠ -1 →
    Calls Try.prog 127 #[terrV x y u, v, r, T, .int .i64 c] w (RetQ w 3 1 (pathL x zs ps srcs L c).length (ints (pathL x zs ps srcs L c))) := by
  intro n
  induction n with
  | zero => intro c w _ _ _ _ h; omega
  | succ n ih =>
    intro c w h hps hr hT hn hcN hc1
    obtain ⟨⟨hx1, hx2⟩, ⟨hy1, hy2⟩, hxy, h25⟩ := terr_dims ht
    have hll := hL.len
    have hbx : Below w.heap.size w (w.alloc (.cells #[.int .i64 x, .int .i64 y, u] 79)) := grow_alloc _ _
    have HHas := Lib.hid (l1Has_any r srcs c _ (hr.below hbx))
    cases hh : hasB srcs c with
    | true =>
      have hP := Lib.hid (path_src (x := x) (zs := zs) (ps := ps) (L := L) hh)
      rw [hh] at HHas
      have hq : Hid (Qw ((w.alloc (.cells #[.int .i64 x, .int .i64 y, u] 79)).alloc (.cells #[.int .i64 c] 3)) w.heap.size 3 1 (.slice (some ⟨w.heap.size + 1, 0, none⟩) 1 1) 1 [.int .i64 c]) := by
        show Qw _ _ _ _ _ _ _
        have := (q_one (w.alloc (.cells #[.int .i64 x, .int .i64 y, u] 79)) c).lower hbx.size
        simpa using this
      have hb2 := Lib.hid (grow_trans hbx (grow_alloc _ (.cells #[.int .i64 c] 3)))
      clear ih h hps hr hT hL hbd ht hp hbx
      generalize pathL x zs ps srcs L c = P at *
      go_enter Try.func127, Try.ntmps127
      go_wp2_with fail
      with_reducible refine HHas.out.mono ?_
      rintro e w1 ⟨rfl, rfl⟩
      go_wp2
      go_ret
      exact ⟨_, rfl, by rw [hP.out]; exact hq.out, hb2.out⟩
    | false =>
      obtain ⟨a0, ha0, hna0, hpk0⟩ := hL.came ht hs0 hs1 hc1 hh
      obtain ⟨j0, hj0⟩ := List.getElem?_of_mem (near_has ha0 hna0)
      have Hstep : Hid (∀ (a k : Nat), (selN (nearP x c) zs.length)[k]? = some (a : Int) → NotYet x zs ps L c (selN (nearP x c) zs.length) k → pkB x zs ps L c a = true → a < zs.length ∧ (tm L a).toNat < n ∧ tm L a ≠ -1 ∧ pathL x zs ps srcs L c = pathL x zs ps srcs L a ++ [(c : Int)]) := by
        intro a k hk hny hpk
        obtain ⟨l1, l2, l3⟩ := hL.less ht hs0 hs1 hc1 hpk
        have hO : pkO x zs ps L c = some (a : Int) := find_first hk (by simpa using hpk) hny
        exact ⟨(hL.pos ht hs0 hs1 l1).2, by omega, l1, path_step hh hO l2 l3⟩
      have Hj0 : Hid (∀ k, NotYet x zs ps L c (selN (nearP x c) zs.length) k → k < (selN (nearP x c) zs.length).length) := by
        intro k hny
        have h1 := (List.getElem?_eq_some_iff.1 hj0).1
        rcases Nat.lt_or_ge j0 k with h2 | h2
        · have := hny j0 _ h2 hj0
          rw [Int.toNat_natCast, hpk0] at this; cases this
        · omega
      have Hnext : Hid (∀ (k q : Nat), NotYet x zs ps L c (selN (nearP x c) zs.length) k → (selN (nearP x c) zs.length)[k]? = some (q : Int) → pkB x zs ps L c q = false → NotYet x zs ps L c (selN (nearP x c) zs.length) (k + 1)) := fun k q h1 h2 h3 => h1.next h2 h3
      have hny0 : Hid (NotYet x zs ps L c (selN (nearP x c) zs.length) 0) := fun i z hi => by omega
      have Hnat : Hid (∀ (j : Nat) (z : Int), (selN (nearP x c) zs.length)[j]? = some z → ∃ d : Nat, z = d ∧ d < zs.length ∧ nearP x c d = true) := fun (j : Nat) (z : Int) hz => near_at (x := x) (N := zs.length) (a := c) hz
      have HNear := Lib.hid (l2Near_any x y u zs c _ (h.below hbx) hx1 hx2 (by omega) (by omega) h25)
      have HIH := Lib.hid fun W hW a h1 h2 h3 => ih a W (h.below (w' := W) hW) (hps.below hW) (hr.below hW) (hT.below hW) h1 h2 h3
      have HWk := Lib.hid fun W hW a ha => l4Work_any x y u zs a c W (h.below (w' := W) hW) ht ha hcN
      have HDn := Lib.hid fun W hW t z h1 h2 h3 h4 => l4Done_any v ps t z W (hps.below (w' := W) hW) hp h1 h2 h3 h4
      have HWb := Lib.hid fun a => wrk_bd ht a c
      have HTm := Lib.hid fun W hW => hT.below (w' := W) hW
      have Hpos : Hid (∀ q, tm L q ≠ -1 → 0 ≤ tm L q) := fun q hq => (hL.pos ht hs0 hs1 hq).1
      have Hbd := Lib.hid hbd
      have Hlen : Hid ((pathL x zs ps srcs L c).length ≤ 4001) := Nat.le_trans (path_len x zs ps srcs L 4000 c (by have := hbd c; omega)) (by omega)
      have hmT := hT.len
      unfold maxLen at hmT
      obtain ⟨AT, cT, rfl⟩ := hT.val
      obtain ⟨i0, hi, hz0, hz1, hz2⟩ := info_parts info_int
      have hTB : Hid (TB (w.alloc (.cells #[.int .i64 x, .int .i64 y, u] 79)) w.heap.size x y u) := by show TB _ _ _ _ _; unfold TB; simp [go_sem]
      rw [hh] at HHas
      have Hbx := Lib.hid hbx
      rw [hll] at hmT HTm
      have hlt : L.length = zs.length := hll
      clear ih h hps hr hT hL hbd ht hp hbx hh hj0 hpk0 hna0 ha0 hll hxy
      generalize NotYet x zs ps L c (selN (nearP x c) zs.length) = NY at *
      generalize selN (nearP x c) zs.length = nl at *
      have hpc : Hid (∀ q, tm L q = -1 → pkB x zs ps L c q = false) := fun q h => pk_no1 h
      have hpd : Hid (∀ q, ¬ doneF ps (tm L q) (wrkF x zs q c) = tm L c → pkB x zs ps L c q = false) := fun q h => pk_no2 h
      have hpe : Hid (∀ q, tm L q ≠ -1 → doneF ps (tm L q) (wrkF x zs q c) = tm L c → pkB x zs ps L c q = true) := fun q h0 h => pk_yes h0 h
      generalize hN : zs.length = N at *
      have HN := Lib.hid hN
      have HLl := Lib.hid hlt
      rw [hlt] at HIH ⊢
      clear hN hlt
      have hcz : (c : Int) < (N : Int) := by omega
      go_enter Try.func127, Try.ntmps127
      go_wp2_with fail
      with_reducible refine HHas.out.mono ?_
      rintro e w1 ⟨rfl, rfl⟩
      obtain ⟨t0, t1, t2⟩ := hTB.out
      go_wp2_with fail
      with_reducible refine HNear.out.mono ?_
      rintro e w4 ⟨nv, rfl, on, hb4⟩
      have hT4 := Lib.hid (hTB.out.below hb4)
      have hb4 := Lib.hid (grow_trans Hbx.out hb4)
      obtain ⟨An, cn, rfl⟩ := (Sl.of_own on).val
      have on := Lib.hid (Sl.of_own on)
      clear t0 t1 t2
      obtain ⟨wm, rfl⟩ : ∃ wm : World, wm = w4 := ⟨_, rfl⟩
      go_wp2
      go_loopw [12] (fun i wr => ∃ k : Nat, i = .int .i64 k ∧ Hid (Below w.heap.size w wr) ∧ Hid (TB wr w.heap.size x y u) ∧ Hid (Sl wr 1 (.slice An nl.length cn) nl.length (ints nl)) ∧ Hid (NY k)) (fun i _ => nl.length - (intOf i).toNat)
      case atStart => exact ⟨0, rfl, hb4.out, hT4.out, on.out, hny0.out⟩
      case round =>
        obtain ⟨k, rfl, hb5, hT5, hn5, hny⟩ := hrel
        have hkl := Hj0.out k hny.out
        have hklz : (k : Int) < (nl.length : Int) := by omega
        obtain ⟨bn, ofn, z, rfl, hz, hcn⟩ := hn5.out.at1 rfl hkl
        obtain ⟨q, rfl, hq1, hq2⟩ := Hnat.out k z hz
        have hqz : (q : Int) < (N : Int) := by omega
        obtain ⟨bT, ofT, zq, rfl, hzq, hcq⟩ := (HTm.out wr hb5.out).at1 HLl.out hq1
        obtain ⟨bT2, ofT2, zc, e2, hzc, hcc⟩ := (HTm.out wr hb5.out).at1 HLl.out hcN
        obtain ⟨rfl, rfl⟩ : bT = bT2 ∧ ofT = ofT2 := by simpa using e2
        have Hzq : Hid (tm L q = zq) := tm_at hzq
        have Hzc : Hid (tm L c = zc) := tm_at hzc
        have Hz := Lib.hid hz
        obtain ⟨t0, t1, t2⟩ := hT5.out
        have s1 := World.block_lt_of_cell? _ _ hcn
        have s2 := World.block_lt_of_cell? _ _ hcq
        have s3 := World.block_lt_of_cell? _ _ t0
        simp only at s1 s2 s3
        have hnl25 := hn5.out.len
        unfold maxLen at hnl25
        clear e2 hz hzq hzc
        have hzqb := Hbd.out q
        have hzcb := Hbd.out c
        rw [Hzq.out] at hzqb
        rw [Hzc.out] at hzcb
        by_cases hzq1 : zq = -1
        · have hny2 := Lib.hid (Hnext.out k q hny.out Hz.out (hpc.out q (by rw [Hzq.out, hzq1])))
          subst hzq1
          have hq := fun n : Later wr => n.cell
          go_wp2_with fail
          refine wp_region_later (by kernel_rfl) (by kernel_rfl) ?_
          repeat (go_big_quiet_step (fail))
          refine wpQuiet_nil ?_
          rintro _ ⟨wl, rfl⟩
          have hbl := wl.h
          have hb6 := Lib.hid (grow_trans hb5.out hbl)
          have hT6 := Lib.hid (hT5.out.below hbl)
          have hn6 := Lib.hid (hn5.out.below hbl)
          clear hq hcn hcq hcc t0 t1 t2 hbl
          generalize wl.w = w6 at *
          go_wp2
          go_roundw
          case rel => exact ⟨k + 1, by go_num, hb6.out, hT6.out, hn6.out, hny2.out⟩
          case measure => simp [intOf]; omega
        · have hzq1' : (zq == -1) = false := by simpa using hzq1
          have hq0 := Hpos.out q (by rw [Hzq.out]; exact hzq1)
          have hwb := HWb.out q
          have HW2 := Lib.hid fun W hW => HWk.out W hW q hq1
          have HD2 := Lib.hid fun W hW => HDn.out W hW (tm L q) (wrkF x zs q c) hq0 (by rw [Hzq.out]; omega) (by omega) (by omega)
          have hpd2 := Lib.hid (hpd.out q)
          have hpe2 := Lib.hid (hpe.out q (by rw [Hzq.out]; exact hzq1))
          rw [Hzq.out] at HD2 hpd2 hpe2
          rw [Hzc.out] at hpd2 hpe2
          generalize wrkF x zs q c = wk at *
          generalize doneF ps zq wk = X at *
          by_cases hX : X = zc
          · subst hX
            obtain ⟨ha1, ha2, ha3, hpa⟩ := Hstep.out q k Hz.out hny.out (hpe2.out rfl)
            have hPL := Hlen.out
            have HP := Lib.hid hpa
            rw [hpa] at hPL
            rw [List.length_append, List.length_singleton] at hPL
            have HR := Lib.hid fun W hW => HIH.out W hW q ha2 ha1 ha3
            clear hpa
            generalize pathL x zs ps srcs L q = Pq at *
            generalize pathL x zs ps srcs L c = P at *
            have hq := fun n : Later wr => n.cell
            go_wp2_with fail
            refine wp_region_later (by kernel_rfl) (by kernel_rfl) ?_
            repeat (go_big_quiet_step ((first | (go_at_call 164; exact later_of (HW2.out _ (grow_trans hb5.out (Later.h _)))) | (go_at_call 163; exact later_of (HD2.out _ (grow_trans hb5.out (Later.h _)))))))
            refine wpQuiet_nil ?_
            rintro _ ⟨wl, rfl⟩
            have hbl := wl.h
            have hb6 := Lib.hid (grow_trans hb5.out hbl)
            have hT6 := Lib.hid (hT5.out.below hbl)
            have hcn6 := cell_below hcn hbl
            clear hq hcn hcq hcc t0 t1 t2 hbl
            generalize wl.w = w6 at *
            obtain ⟨t0, t1, t2⟩ := hT6.out
            have mkS : Hid (∀ W, Below w6.heap.size w6 W → W.cell? ⟨w.heap.size, 0, none⟩ = some (.int .i64 x) ∧ W.cell? ⟨w.heap.size, 1, none⟩ = some (.int .i64 y) ∧ W.cell? ⟨w.heap.size, 2, none⟩ = some u ∧ W.cell? ⟨bn, ofn + k, none⟩ = some (.int .i64 q) ∧ Below w6.heap.size w6 W) := fun W hW => ⟨cell_below t0 hW, cell_below t1 hW, cell_below t2 hW, cell_below hcn6 hW, hW⟩
            clear Hstep Hj0 Hnext hny0 Hnat HNear HIH HWk HDn HWb HTm hpc hpd hpe hpd2 hpe2 HW2 HD2
            go_wp2_with fail
            go_region_held_law (fun W => W.cell? ⟨w.heap.size, 0, none⟩ = some (.int .i64 x) ∧ W.cell? ⟨w.heap.size, 1, none⟩ = some (.int .i64 y) ∧ W.cell? ⟨w.heap.size, 2, none⟩ = some u ∧ W.cell? ⟨bn, ofn + k, none⟩ = some (.int .i64 q) ∧ Below w6.heap.size w6 W)
              (first | exact mkS.out _ (by first | assumption | exact (‹_ ∧ _ ∧ _ ∧ _ ∧ Below w6.heap.size w6 _›).2.2.2.2) | exact mkS.out _ (grow_drew _) | exact mkS.out _ (grow_trans (by first | assumption | exact (‹_ ∧ _ ∧ _ ∧ _ ∧ Below w6.heap.size w6 _›).2.2.2.2) (grow_alloc _ _)))
              (first
                | (go_at_call 127; refine (HR.out _ (grow_trans hb6.out (by first | assumption | exact (‹_ ∧ _ ∧ _ ∧ _ ∧ Below w6.heap.size w6 _›).2.2.2.2))).mono ?_; rintro e wc ⟨vc, rfl, hqc, hbc⟩; have hqc := hqc.lower (Below.size (by first | assumption | exact (‹_ ∧ _ ∧ _ ∧ _ ∧ Below w6.heap.size w6 _›).2.2.2.2)); have hbc6 := grow_trans (by first | assumption | exact (‹_ ∧ _ ∧ _ ∧ _ ∧ Below w6.heap.size w6 _›).2.2.2.2) hbc)
                | (refine step_append_q (o := ⟨some 65, _, _, _, _, _⟩) _ (by rfl) (.tmp 62) (.tmp 64) 67 (by rfl) w6.heap.size 3 i0 (.int .i64 0) 1 8 Try.underlying67 hi hz0 hz1 hz2 rfl (by decide) vc Pq.length (ints Pq) (by rfl) (hqc) (.slice (some ⟨w6.heap.size, 0, none⟩) 1 1) 1 [.int .i64 c] (by rfl) (((Sl.boxAt (hp0 w6 (.cells #[.int .i64 c] 3))).below (grow_drew _)).below hbc) (ints_one [(c : Int)]) (by unfold maxLen; omega) (by omega) (Below.size (by first | assumption | exact (‹_ ∧ _ ∧ _ ∧ _ ∧ Below w6.heap.size w6 _›).2.2.2.2)) ?_; intro v2 w2 hq2 hg2 hd2; have hb3 := Below.grown (by first | assumption | exact (‹_ ∧ _ ∧ _ ∧ _ ∧ Below w6.heap.size w6 _›).2.2.2.2) hg2 (Below.size (by first | assumption | exact (‹_ ∧ _ ∧ _ ∧ _ ∧ Below w6.heap.size w6 _›).2.2.2.2)) (fun j hj => (hqc.lt j hj).1))
                | (refine step_append_q (o := ⟨some 65, _, _, _, _, _⟩) _ (by rfl) (.tmp 62) (.tmp 64) 67 (by rfl) w6.heap.size 3 i0 (.int .i64 0) 1 8 Try.underlying67 hi hz0 hz1 hz2 rfl (by decide) vc Pq.length (ints Pq) (by rfl) (hqc.below (grow_alloc wc (.cells #[.int .i64 c] 3))) (.slice (some ⟨wc.heap.size, 0, none⟩) 1 1) 1 [.int .i64 c] (by rfl) (Sl.boxAt (hp0 wc (.cells #[.int .i64 c] 3))) (ints_one [(c : Int)]) (by unfold maxLen; omega) (by omega) (Below.size (by first | assumption | exact (‹_ ∧ _ ∧ _ ∧ _ ∧ Below w6.heap.size w6 _›).2.2.2.2)) ?_; intro v2 w2 hq2 hg2 hd2; have hb3 := Below.grown (by first | assumption | exact (‹_ ∧ _ ∧ _ ∧ _ ∧ Below w6.heap.size w6 _›).2.2.2.2) hg2 (Below.size (by first | assumption | exact (‹_ ∧ _ ∧ _ ∧ _ ∧ Below w6.heap.size w6 _›).2.2.2.2)) (fun j hj => (hqc.lt j hj).1)))
            all_goals
              have hq2 := Lib.hid ((q_snoc hq2).lower hb6.out.size)
              have hb3 := Lib.hid (grow_trans hb6.out hb3)
              go_wp2
              go_ret
              exact ⟨_, rfl, by rw [HP.out]; exact hq2.out, hb3.out⟩
          · have hny2 := Lib.hid (Hnext.out k q hny.out Hz.out (hpd2.out hX))
            have hX' : (X == zc) = false := by simpa using hX
            have hq := fun n : Later wr => n.cell
            go_wp2_with fail
            refine wp_region_later (by kernel_rfl) (by kernel_rfl) ?_
            repeat (go_big_quiet_step ((first | (go_at_call 164; exact later_of (HW2.out _ (grow_trans hb5.out (Later.h _)))) | (go_at_call 163; exact later_of (HD2.out _ (grow_trans hb5.out (Later.h _)))))))
            refine wpQuiet_nil ?_
            rintro _ ⟨wl, rfl⟩
            have hbl := wl.h
            have hb6 := Lib.hid (grow_trans hb5.out hbl)
            have hT6 := Lib.hid (hT5.out.below hbl)
            have hn6 := Lib.hid (hn5.out.below hbl)
            clear hq hcn hcq hcc t0 t1 t2 hbl
            generalize wl.w = w6 at *
            go_wp2
            go_roundw
            case rel => exact ⟨k + 1, by go_num, hb6.out, hT6.out, hn6.out, hny2.out⟩
            case measure => simp [intOf]; omega
end Go.Proofs.Ytnacofmjipilhaa
