/- PartsOf in the reference. Conditions: none. -/
import Derived.Test.YtjobjdmheocheaaParts
namespace Go.Proofs.Ytjobjdmheocheaa
open Go.ChangeShapes Go.WideShapes Go.ChangeAt Go.RowKit Go.Deep
set_option linter.unusedVariables false
set_option linter.unusedSimpArgs false
set_option maxRecDepth 100000

theorem RowsW.add {w w' : World} {B T T' : Nat} {ov ov' v : Value} {vs : List Value} {xss : List (List Int)} {l : List Int} (h : RowsW w B T ov vs xss) (hv : Qw w B 3 1 v l.length (ints l)) (hvl : ∀ j, v.ownBlock = some j → j < T')
    (hq : Qw w' B 22 1 ov' (vs.length + 1) (vs ++ [v])) (hg : w.grownBy w' ov.ownBlock) (hT : T ≤ T') (hT' : w'.heap.size ≤ T') : RowsW w' B T' ov' (vs ++ [v]) (xss ++ [l]) := by
  have hkp : ∀ {u : Value} {m : List Int}, Qw w B 3 1 u m.length (ints m) → Qw w' B 3 1 u m.length (ints m) := fun hu => hu.kept hg (fun j hj e => by
    obtain ⟨c1, k1⟩ := hu.kind hj
    obtain ⟨c2, k2⟩ := h.outer.kind e.symm
    exact kind_ne k1 k2 (by decide) rfl)
  refine ⟨by simpa using hq, by simp [h.len], fun i u m hu hm => ?_, fun j hj => Nat.lt_of_lt_of_le (hq.lt j hj).2 hT', fun i u j hu hj => ?_⟩
  · by_cases hi : i < vs.length
    · rw [List.getElem?_append_left hi] at hu
      rw [List.getElem?_append_left (by rw [← h.len]; exact hi)] at hm
      exact hkp (h.row i u m hu hm)
    · have hi' : i = vs.length := by
        have := (List.getElem?_eq_some_iff.1 hu).1
        simp at this; omega
      subst hi'
      rw [List.getElem?_append_right (Nat.le_refl _)] at hu
      rw [h.len, List.getElem?_append_right (Nat.le_refl _)] at hm
      simp at hu hm
      subst hu hm
      exact hkp hv
  · by_cases hi : i < vs.length
    · rw [List.getElem?_append_left hi] at hu
      exact Nat.lt_of_lt_of_le (h.ltr i u j hu hj) hT
    · have hi' : i = vs.length := by
        have := (List.getElem?_eq_some_iff.1 hu).1
        simp at this; omega
      subst hi'
      rw [List.getElem?_append_right (Nat.le_refl _)] at hu
      simp at hu
      subst hu
      exact hvl j hj
theorem RowsW.grow {w : World} {B B' T T' : Nat} {v : Value} {vs : List Value} {xss : List (List Int)} (h : RowsW w B T v vs xss) (hT : T ≤ T') (hB : B' ≤ B) : RowsW w B' T' v vs xss :=
  ⟨h.outer.lower hB, h.len, fun i u l hu hl => (h.row i u l hu hl).lower hB, fun j hj => Nat.lt_of_lt_of_le (h.lto j hj) hT, fun i u j hu hj => Nat.lt_of_lt_of_le (h.ltr i u j hu hj) hT⟩
theorem RowsW.nil {w : World} {B : Nat} {v : Value} (h : Qw w B 22 1 v 0 []) : RowsW w B w.heap.size v [] [] := ⟨h, rfl, by simp, fun j hj => (h.lt j hj).2, by simp⟩
theorem heads_le (R : Int → List Int) (cs : List Int) (k : Nat) : (heads R (cs.take k)).length ≤ k := by
  unfold heads
  rw [List.length_map]
  exact Nat.le_trans (List.length_filter_le _ _) (by simp; omega)
theorem tot_le {xss : List (List Int)} {n : Nat} (h : ∀ p ∈ xss, p.length ≤ n) : ∀ k, tot xss k ≤ k * n
  | 0 => by simp [tot]
  | k + 1 => by
    have ih := tot_le h k
    rw [Nat.succ_mul]
    cases hl : xss[k]? with
    | none =>
      rw [List.getElem?_eq_none_iff] at hl
      have : tot xss (k + 1) = tot xss k := by unfold tot; rw [List.take_of_length_le (by omega), List.take_of_length_le hl]
      omega
    | some l =>
      rw [tot_succ hl]
      have := h l (List.mem_of_getElem? hl)
      omega
theorem heads_bound {R : Int → List Int} {cs : List Int} {N : Nat} (hR : ∀ c, (R c).length ≤ N) (hN : N ≤ 25) (hc : cs.length ≤ 25) : (heads R cs).length ≤ 1048576 ∧ tot (heads R cs) (heads R cs).length ≤ 1048576 := by
  have hl : (heads R cs).length ≤ 25 := by
    have := heads_le R cs cs.length
    rw [List.take_length] at this
    omega
  have ht := tot_le (xss := heads R cs) (n := N) (fun p hp => by
    unfold heads at hp
    obtain ⟨c, _, rfl⟩ := List.mem_map.1 hp
    exact hR c) (heads R cs).length
  have h2 := Nat.mul_le_mul hl hN
  omega
theorem parts_bound (x y : Int) (zs xs : List Int) : (selRR (oneB x y zs xs) (pcs (partL x zs.length xs) xs)).length ≤ 1048576 ∧ tot (selRR (oneB x y zs xs) (pcs (partL x zs.length xs) xs)) (selRR (oneB x y zs xs) (pcs (partL x zs.length xs) xs)).length ≤ 1048576 := by
  unfold selRR
  split
  · rename_i h
    obtain ⟨_, hzl, hr1, hr2, hxl⟩ := one_facts h
    rw [pcs_eq (part_cls hr2) hr1]
    exact heads_bound (fun c => rchL_le _ _ _) hzl (by omega)
  · simp [tot]
set_option maxHeartbeats 4000000 in
theorem sPartsOf_any (x y : Int) (u : Value) (zs : List Int) (va : Value) (xs : List Int) (w : World) (h : Sl w 1 u zs.length (ints zs)) (ha : Sl w 1 va xs.length (ints xs)) :
    Calls Try.prog 41 #[terrV x y u, va] w (RetRW w (selRR (oneB x y zs xs) (pcs (partL x zs.length xs) xs)) (oneB x y zs xs)) := by
  obtain ⟨i0, hi, hz0, hz1, hz2⟩ := info_parts info_ints
  have HA := Lib.hid fun W hW => l2Set_any x y u zs va xs W (h.below (w' := W) hW) (ha.below hW)
  have Hs := Lib.hid fun W hW => ha.below (w' := W) hW
  have HT : Hid (oneB x y zs xs = (terrB x y zs && setB xs 0 (zs.length - 1))) := rfl
  have HF : Hid (oneB x y zs xs = true → zs.length ≤ 25 ∧ (∀ z ∈ xs, 0 ≤ z ∧ z ≤ (zs.length : Int) - 1) ∧ xs.length ≤ zs.length ∧ (∀ c ∈ xs, c ∈ partL x zs.length xs c) ∧ pcs (partL x zs.length xs) xs = heads (partL x zs.length xs) xs) := by
    show _ → _
    intro hT
    obtain ⟨_, hzl, hr1, hr2, hxl⟩ := one_facts hT
    have hc := part_cls (x := x) hr2
    exact ⟨hzl, hr2, hxl, hc.own, pcs_eq hc hr1⟩
  have HS : Hid (oneB x y zs xs = true → ∀ W, Below w.heap.size w W → ∀ c ∈ xs, Calls Try.prog 84 #[terrV x y u, va, .int .i64 c, .bool true] W (RetQ W 3 1 (partL x zs.length xs c).length (ints (partL x zs.length xs c)))) := by
    show _ → _
    intro hT W hW c hc
    obtain ⟨⟨hx1, hx2⟩, hzl, hr1, hr2, hxl⟩ := one_facts hT
    have := l6Spread_in_any x y u zs va xs c W (h.below hW) (ha.below hW) hx1 hx2 hzl (hr2 c hc).1 (hr2 c hc).2
    rw [part_spr hc] at this
    exact this
  have hPl : Hid (∀ c, (partL x zs.length xs c).length ≤ zs.length) := fun c => rchL_le _ _ _
  obtain ⟨A, c, rfl⟩ := h.val
  obtain ⟨Aa, ca, rfl⟩ := ha.val
  clear h ha
  rw [← HT.out] at HA
  have hTB0 : Hid (TB ((w.alloc (.cells #[.int .i64 x, .int .i64 y, .slice A zs.length c] 28)).alloc (.cells #[] 22)) w.heap.size x y (.slice A zs.length c)) := by show TB _ _ _ _ _; unfold TB; simp [go_sem]
  have hq0 : Hid (Qw ((w.alloc (.cells #[.int .i64 x, .int .i64 y, .slice A zs.length c] 28)).alloc (.cells #[] 22)) (w.heap.size + 1) 22 1 (.slice (some ⟨w.heap.size + 1, 0, none⟩) 0 0) 0 []) := Qw.emptyAt (hp2 _ _ _) (Nat.le_refl _)
  have hb0 : Hid (Below w.heap.size w ((w.alloc (.cells #[.int .i64 x, .int .i64 y, .slice A zs.length c] 28)).alloc (.cells #[] 22))) := two_news _ _ _
  generalize oneB x y zs xs = P at *
  generalize hPP : partL x zs.length xs = R at *
  clear hPP HT
  generalize hL : pcs R xs = L at *
  clear hL
  generalize zs.length = M at *
  generalize hN : xs.length = N at *
  have HN := Lib.hid hN
  clear hN
  cases P with
  | false =>
    go_enter Try.func41, Try.ntmps41
    go_wp2_with fail
    with_reducible refine (HA.out _ hb0.out).mono ?_
    rintro e w1 ⟨rfl, hb1⟩
    have hq1 := Lib.hid (hq0.out.below hb1)
    have hb1 := Lib.hid (grow_trans hb0.out hb1)
    go_wp2
    exact bodyPost_ret (v := .tuple #[.slice (some ⟨w.heap.size + 1, 0, none⟩) 0 0, .bool false]) (by simp [results, Try.results41, go_sem]) rfl ⟨_, [], rfl, (RowsW.nil hq1.out).grow (Nat.le_refl _) (Nat.le_succ _), hb1.out⟩
  | true =>
    obtain ⟨hm25, s1, hl1, hown, hLe⟩ := HF.out rfl
    have HS2 := Lib.hid (HS.out rfl)
    have S1 := Lib.hid s1
    have Hown := Lib.hid hown
    have HLe := Lib.hid hLe
    clear HF HS s1 hown hLe
    go_enter Try.func41, Try.ntmps41
    go_wp2_with fail
    with_reducible refine (HA.out _ hb0.out).mono ?_
    rintro e w1 ⟨rfl, hb1⟩
    have hT1 := Lib.hid (hTB0.out.below hb1)
    have hR1 := Lib.hid (RowsW.nil (hq0.out.below hb1))
    have hs1 := ((hq0.out.below hb1).lt _ rfl).2
    have hb1 := Lib.hid (grow_trans hb0.out hb1)
    have hR1' : Hid (RowsW w1 (w.heap.size + 1) w1.heap.size (.slice (some ⟨w.heap.size + 1, 0, none⟩) 0 0) [] (heads R (xs.take 0))) := by show RowsW _ _ _ _ _ _; simpa [heads] using hR1.out
    go_wp2
    go_loopw [6, 7] (fun o i wr => ∃ k : Nat, k ≤ N ∧ i = .int .i64 k ∧ w.heap.size + 1 < wr.heap.size ∧ ∃ vs : List Value, Hid (Below w.heap.size w wr) ∧ Hid (TB wr w.heap.size x y (.slice A M c)) ∧ Hid (RowsW wr (w.heap.size + 1) wr.heap.size o vs (heads R (xs.take k)))) (fun _ i _ => N - (intOf i).toNat)
    case atStart => exact ⟨0, Nat.zero_le _, rfl, hs1, [], hb1.out, hT1.out, hR1'.out⟩
    case round =>
      obtain ⟨k, hk, rfl, hsz, vs, hb, hT, hR⟩ := hrel
      by_cases hlt : k < N
      · obtain ⟨b, off, z, rfl, hz, hcell⟩ := (Hs.out _ hb.out).at1 HN.out hlt
        obtain ⟨t0, t1, t2⟩ := hT.out
        have hzm := List.mem_of_getElem? hz
        have hzb := S1.out z hzm
        have hzo := Hown.out z hzm
        have hhl := heads_le R xs k
        have Hht := Lib.hid (heads_take (R := R) hz)
        have hvl : vs.length ≤ k := by rw [hR.out.len]; exact hhl
        have hlt' : (k : Int) < (N : Int) := by omega
        have HC := Lib.hid (HS2.out wr.drew hb.out.drew z hzm)
        have hbd := Lib.hid hb.out.drew
        have hTd := Lib.hid (hT.out.below (grow_drew wr))
        have hRd : Hid (RowsW wr.drew (w.heap.size + 1) wr.drew.heap.size u6 vs (heads R (xs.take k))) := hR.out.below (grow_drew wr)
        have hszd : w.heap.size + 1 < wr.drew.heap.size := hsz
        have hcd : wr.drew.cell? ⟨b, off + k, none⟩ = some (.int .i64 z) := hcell
        have hRlen := hPl.out z
        clear hz hzm hb hT hR
        go_wp2_with fail
        go_still_tail 6, (by kernel_rfl)
        change wpList _ _ _ _ _ wr.drew
        clear t0 t1 t2 hcell hsz
        generalize wr.drew = wd at *
        go_wp2_with fail
        with_reducible refine HC.out.mono ?_
        rintro e w4 ⟨v4, rfl, o4, hb4⟩
        have hc4 := cell_below hcd hb4
        have hs4 := hb4.size
        have hT4 := Lib.hid (hTd.out.below hb4)
        have hR4 := Lib.hid ((hRd.out.below hb4).grow hs4 (Nat.le_refl _))
        have o4 := o4.lower (show w.heap.size + 1 ≤ wd.heap.size by omega)
        have hb4 := Lib.hid (grow_trans hbd.out hb4)
        clear HC hbd hTd hRd hcd
        generalize hacc' : heads R (xs.take (k + 1)) = acc' at *
        have Hacc' := Lib.hid hacc'
        generalize heads R (xs.take k) = acc at *
        clear hacc'
        generalize R z = pl at *
        obtain ⟨d, rest, rfl⟩ : ∃ d rest, pl = d :: rest := by
          cases pl with
          | nil => cases hzo
          | cons d rest => exact ⟨d, rest, rfl⟩
        clear hzo
        obtain ⟨A4, c4, rfl⟩ := (Sl.of_q o4).val
        obtain ⟨b4, off4, d', hA4, hd', hcell4⟩ := (Sl.of_q o4).at1 (xs := d :: rest) rfl (Nat.succ_pos _)
        subst hA4
        obtain rfl : d' = d := by simpa using hd'.symm
        clear hd'
        rw [Nat.add_zero] at hcell4
        generalize hPL : (d' :: rest).length = PL at *
        have HPL := Lib.hid hPL
        have hPL1 : (0 : Int) < (PL : Int) := by rw [← hPL]; simp
        have o4 := Lib.hid o4
        clear hPL
        by_cases hdz : d' = z
        · have e1 : (d' == z) = true := by simpa using hdz
          have He : Hid (acc' = acc ++ [d' :: rest]) := by show _ = _; have := Hht.out; simp only [List.head?_cons, hdz, beq_self_eq_true, if_true] at this; rw [this, hdz]
          clear hdz Hht
          go_wp2_with fail
          go_quiet (fail)
          have hb5 := Lib.hid (hb4.out.trans ((grow_drewN w4 nq).mono hb4.out.size))
          have hT5 := Lib.hid (hT4.out.below (grow_drewN w4 nq))
          have hR5 : Hid (RowsW (w4.drewN nq) (w.heap.size + 1) (w4.drewN nq).heap.size u6 vs acc) := hR4.out.below (grow_drewN w4 nq)
          have o5 := Lib.hid (o4.out.below (grow_drewN w4 nq))
          have hs5 : w.heap.size + 1 < (w4.drewN nq).heap.size := by show _ < w4.heap.size; omega
          clear hb4 hT4 hR4 o4 hc4 hcell4 hs4
          generalize w4.drewN nq = w5 at *
          go_wp2_with ((at_builtin; refine wpList_append_q _ rfl _ _ 44 rfl (w.heap.size + 1) 22 i0 (.slice none 0 0) 1 24 Try.underlying44 hi hz0 hz1 hz2 rfl (by decide) _ _ _ rfl (Qw.below hR5.out.outer (grow_alloc _ _)) _ 1 [.slice (some ⟨b4, off4, none⟩) PL c4] rfl (Sl.boxAt (hp0 _ _)) (by intro u hu; simp at hu; subst hu; rfl) (by unfold maxLen; omega) (by omega) (by simp; omega) ?_))
          intro vA wA hqA hgA hdA
          have hgs := hgA.size
          have hgs2 : w5.heap.size < wA.heap.size := by simp at hgs; omega
          have hR7 := Lib.hid (RowsW.add (l := d' :: rest) (T' := wA.heap.size) (hR5.out.below (grow_alloc _ _)) ((by rw [HPL.out]; exact o5.out : Qw w5 (w.heap.size + 1) 3 1 (.slice (some ⟨b4, off4, none⟩) PL c4) (d' :: rest).length (ints (d' :: rest))).below (grow_alloc _ _)) (fun j hj => by have := (o5.out.lt j hj).2; omega) hqA hgA (by omega) (Nat.le_refl _))
          have hb7 := Lib.hid ((hb5.out.alloc hb5.out.size _).grown hgA (by simp; omega) (fun j hj => by have := (hR5.out.outer.lt j hj).1; omega))
          have hT7 := Lib.hid ((hT5.out.below (grow_alloc _ _)).kept hgA (fun e => by have := (hR5.out.outer.lt _ e.symm).1; omega))
          clear hgA hdA hqA hgs
          go_wp2
          go_roundw
          case rel => exact ⟨k + 1, by omega, by go_num, by omega, _, hb7.out, hT7.out, by show RowsW _ _ _ _ _ _; rw [Hacc'.out, He.out]; exact hR7.out⟩
          case measure => simp [intOf]; omega
        · have e1 : (d' == z) = false := by simpa using hdz
          have He : Hid (acc' = acc) := by show _ = _; have := Hht.out; simpa [hdz] using this
          clear hdz Hht
          go_wp2_with fail
          go_quiet (fail)
          go_wp2
          go_roundw
          case rel => exact ⟨k + 1, by omega, by go_num, by show _ < w4.heap.size; omega, vs, hb4.out.trans ((grow_drewN w4 _).mono hb4.out.size), hT4.out.below (grow_drewN w4 _), by show RowsW _ _ _ _ _ _; rw [Hacc'.out, He.out]; exact hR4.out.below (grow_drewN w4 _)⟩
          case measure => simp [intOf]; omega
      · obtain rfl : k = N := by omega
        have hall : xs.take k = xs := List.take_of_length_le (by have := HN.out; omega)
        rw [hall, ← HLe.out] at hR
        clear hall
        go_wp2
        exact bodyPost_ret (v := .tuple #[_, .bool true]) (by simp [results, Try.results41, go_sem]) rfl ⟨_, vs, rfl, hR.out.grow (Nat.le_refl _) (Nat.le_succ _), hb.out⟩
end Go.Proofs.Ytjobjdmheocheaa
