/- FillRegion in the program and in the reference. Conditions: as each states. -/
import Derived.Test.YtefampjmbjbhcaaHoles6
namespace Go.Proofs.Ytefampjmbjbhcaa
open Go.ChangeShapes Go.WideShapes Go.ChangeAt Go.RowKit Go.Deep
set_option linter.unusedVariables false
set_option linter.unusedSimpArgs false
set_option maxRecDepth 100000

/-- The cells of the first rows. -/
def flat (H : List (List Int)) (k : Nat) : List Int := (H.take k).flatten
theorem flat_succ {H : List (List Int)} {k : Nat} {l : List Int} (h : H[k]? = some l) : flat H (k + 1) = flat H k ++ l := by
  obtain ⟨hk, rfl⟩ := List.getElem?_eq_some_iff.1 h
  unfold flat
  rw [List.take_succ_eq_append_getElem hk, List.flatten_append]; simp
theorem flat_all (H : List (List Int)) : flat H H.length = H.flatten := by unfold flat; rw [List.take_length]
theorem flat_len (H : List (List Int)) (k : Nat) : (flat H k).length = tot H k := by unfold flat tot; rw [List.length_flatten]
theorem flat_mem {H : List (List Int)} {k : Nat} {z : Int} (h : z ∈ flat H k) : ∃ p ∈ H, z ∈ p := by
  unfold flat at h
  obtain ⟨p, hp, hz⟩ := List.mem_flatten.1 h
  exact ⟨p, List.mem_of_mem_take hp, hz⟩
theorem hol_mem {x y : Int} {N : Nat} {rg p : List Int} (h : p ∈ holL x y N rg) : p.length ≤ N ∧ ∀ z ∈ p, 0 ≤ z ∧ z ≤ (N : Int) - 1 := by
  rw [← holK_all] at h
  unfold holK heads at h
  obtain ⟨c, _, rfl⟩ := List.mem_map.1 (List.mem_filter.1 h).1
  exact ⟨rchL_le _ _ _, fun z hz => (mem_rchL.1 hz).1⟩
theorem hol_len (x y : Int) (N : Nat) (rg : List Int) : (holL x y N rg).length ≤ N := by
  rw [← holK_all]; exact holK_le _ _ _ _ _
/-- A region and its holes. -/
noncomputable def fillL (x y : Int) (N : Nat) (rg : List Int) : List Int := selN (fun k => hasB (rg ++ (holL x y N rg).flatten) k) N
theorem fill_eq {x y : Int} {N : Nat} {rg : List Int} (hx : Rise rg) (hx' : ∀ z ∈ rg, 0 ≤ z ∧ z ≤ (N : Int) - 1) : putsL rg (holL x y N rg).flatten = fillL x y N rg := by
  rw [join_eq hx hx' (N := N) (fun z hz => by
    obtain ⟨p, hp, hz⟩ := List.mem_flatten.1 hz
    exact (hol_mem hp).2 z hz)]
  exact selN_congr fun j _ => by unfold hasB; rw [List.any_append]
theorem fillL_le (x y : Int) (N : Nat) (rg : List Int) : (fillL x y N rg).length ≤ N := selN_le _ _
theorem RowsV.toW {w : World} {B : Nat} {ov : Value} {vs : List Value} {xss : List (List Int)} (h : RowsV w B ov vs xss) : RowsW w B w.heap.size ov vs xss :=
  ⟨h.outer, h.len, fun i v l hv hl => Qw.of_own (h.row i v l hv hl), fun j hj => (h.outer.lt j hj).2, fun i v j hv hj => h.lt i v j hv hj⟩
theorem RowsW.keptX {w w' : World} {B T : Nat} {v : Value} {vs : List Value} {xss : List (List Int)} {row : Option Nat} (h : RowsW w B T v vs xss) (hg : w.grownBy w' row) (hr : ∀ j, row = some j → j < B ∨ T ≤ j) : RowsW w' B T v vs xss := by
  refine ⟨h.outer.kept hg (fun j hj e => ?_), h.len, fun i u l hu hl => (h.row i u l hu hl).kept hg (fun j hj e => ?_), h.lto, h.ltr⟩
  · have h1 := h.lto j hj
    have h2 := (h.outer.lt j hj).1
    have h3 := hr j e.symm
    omega
  · have h1 := h.ltr i u j hu hj
    have h2 := ((h.row i u l hu hl).lt j hj).1
    have h3 := hr j e.symm
    omega
/-- The memory of a filling: a terrain's box, a box that holds a list of one's own. -/
structure Fx (w wr : World) (x y : Int) (u : Value) (P : Nat) (v : Value) (cs : List Int) : Prop where
  hb : Below w.heap.size w wr
  hT : TB wr w.heap.size x y u
  hP : wr.ownsRow (w.heap.size + 1) 22 1 (.slice (some ⟨P, 0, none⟩) 1 1) 1 [v]
  hq : Qw wr (w.heap.size + 1) 3 1 v cs.length (ints cs)
theorem Fx.below {w wr w' : World} {x y : Int} {u v : Value} {P : Nat} {cs : List Int} (h : Fx w wr x y u P v cs) (hb : Below wr.heap.size wr w') : Fx w w' x y u P v cs :=
  ⟨grow_trans h.hb hb, h.hT.below hb, own_below h.hP hb, h.hq.below hb⟩
theorem Fx.cell {w wr : World} {x y : Int} {u v : Value} {P : Nat} {cs : List Int} (h : Fx w wr x y u P v cs) : wr.cell? ⟨P, 0, none⟩ = some v ∧ wr.frozen? ⟨P, 0, none⟩ = false := by
  refine ⟨?_, h.hP.frozenAt 0⟩
  have := h.hP.cellAt 0 (by omega)
  rw [this]; simp
theorem Fx.P_lt {w wr : World} {x y : Int} {u v : Value} {P : Nat} {cs : List Int} (h : Fx w wr x y u P v cs) : w.heap.size + 1 ≤ P ∧ P < wr.heap.size := h.hP.lt P rfl
theorem Fx.start {w w3 : World} {x y : Int} {u v : Value} {cs : List Int} (hb : Below w.heap.size w w3) (hT : TB w3 w.heap.size x y u) (hs : w.heap.size + 1 ≤ w3.heap.size) (hq : Qw w3 (w.heap.size + 1) 3 1 v cs.length (ints cs)) :
    Fx w (w3.alloc (.cells #[v] 22)) x y u w3.heap.size v cs :=
  ⟨hb.alloc hb.size _, hT.below (grow_alloc _ _), World.ownsRow_lit (base := w.heap.size + 1) (e := 22) (size := 1) w3 #[v] 1 hs (by unfold maxLen; omega) (by rfl), hq.below (grow_alloc _ _)⟩
/-- An append into the box, ahead of the store. -/
theorem Fx.mid {w wr wA : World} {x y : Int} {u v : Value} {P : Nat} {cs : List Int} (h : Fx w wr x y u P v cs) (hg : wr.grownBy wA v.ownBlock) : wA.ownsRow (w.heap.size + 1) 22 1 (.slice (some ⟨P, 0, none⟩) 1 1) 1 [v] :=
  own_kept h.hP hg (fun j hj e => by
    obtain ⟨c1, k1⟩ := own_kind h.hP hj
    obtain ⟨c2, k2⟩ := h.hq.kind e.symm
    exact kind_ne k1 k2 (by decide) rfl)
theorem Fx.step {w wr wA : World} {x y : Int} {u v vA : Value} {P : Nat} {cs cs' : List Int} (h : Fx w wr x y u P v cs) (hq : Qw wA (w.heap.size + 1) 3 1 vA cs'.length (ints cs')) (hg : wr.grownBy wA v.ownBlock) :
    Fx w (wA.setCell ⟨P, 0, none⟩ vA) x y u P vA cs' ∧ wA.grownBy (wA.setCell ⟨P, 0, none⟩ vA) (some P) := by
  have hm := h.mid hg
  obtain ⟨h1, h2⟩ := hm.stored 0 vA
  have hP := h.P_lt.1
  refine ⟨⟨(h.hb.grown hg h.hb.size (fun j hj => by have := (h.hq.lt j hj).1; omega)).setCell (by show w.heap.size ≤ P; omega) _, (h.hT.kept hg (fun e => by have := (h.hq.lt _ e.symm).1; omega)).kept h2 (fun e => by have := Option.some.inj e; omega), h1, hq.kept h2 (fun j hj e => ?_)⟩, h2⟩
  obtain ⟨c1, k1⟩ := hq.kind hj
  obtain rfl := Option.some.inj e
  obtain ⟨c2, k2⟩ := own_kind hm (j := j) rfl
  exact kind_ne k1 k2 (by decide) rfl
theorem callFunc_fill1 : ∀ args w, (callFunc 82 args).run Try.prog w = .ok (.enter 82 args) w := fun _ _ => by rfl
theorem fill1_any (va : Value) (xs : List Int) (C : Nat) (z : Int) (w : World) (hc : w.cell? ⟨C, 0, none⟩ = some va) (ha : Sl w 1 va xs.length (ints xs)) :
    Calls Try.prog 82 #[.int .i64 z, .pointer (some ⟨C, 0, none⟩)] w fun e w' => e = .returned (.bool (hasB xs z)) ∧ Below w.heap.size w w' := by
  have HA := Lib.hid (has_any va xs z w ha)
  obtain ⟨A, c, rfl⟩ := ha.val
  clear ha
  generalize hasB xs z = q at *
  go_enter Try.func82, Try.ntmps82
  go_wp2_with fail
  with_reducible refine HA.out.mono ?_
  rintro e w1 ⟨rfl, rfl⟩
  go_wp2
  go_ret
  exact ⟨rfl, Below.refl _ _⟩
set_option maxHeartbeats 4000000 in
theorem FillRegion_any (x y : Int) (u : Value) (zs : List Int) (va : Value) (xs : List Int) (w : World) (h : Sl w 1 u zs.length (ints zs)) (ha : Sl w 1 va xs.length (ints xs)) :
    Calls Try.prog 15 #[terrV x y u, va] w (RetSel w (selR (oneB x y zs xs) (fillL x y zs.length xs)) (oneB x y zs xs)) := by
  obtain ⟨A, c, rfl⟩ := h.val
  obtain ⟨Aa, ca, rfl⟩ := ha.val
  obtain ⟨i0, hi, hz0, hz1, hz2⟩ := info_parts info_int
  have hb0 : Hid (Below w.heap.size w ((w.alloc (.cells #[.int .i64 x, .int .i64 y, .slice A zs.length c] 28)).alloc (.cells #[.slice Aa xs.length ca] 22))) := two_news _ _ _
  have hTB0 : Hid (TB ((w.alloc (.cells #[.int .i64 x, .int .i64 y, .slice A zs.length c] 28)).alloc (.cells #[.slice Aa xs.length ca] 22)) w.heap.size x y (.slice A zs.length c)) := by show TB _ _ _ _ _; unfold TB; simp [go_sem]
  have HR := Lib.hid (isRegion_one x y _ zs (.slice (some ⟨w.heap.size + 1, 0, none⟩) 1 1) _ xs ((w.alloc (.cells #[.int .i64 x, .int .i64 y, .slice A zs.length c] 28)).alloc (.cells #[.slice Aa xs.length ca] 22)) (h.below hb0.out) (Sl.boxAt (hp2 _ _ _)) (ha.below hb0.out))
  have HO := Lib.hid fun W hW hn => copyOf_int_any (.slice Aa xs.length ca) xs W (ha.below (w' := W) hW) hn
  have HF : Hid (oneB x y zs xs = true → ∀ W, Below w.heap.size w W → Calls Try.prog 80 #[terrV x y (.slice A zs.length c), .slice Aa xs.length ca] W (RetRows W (holL x y zs.length xs))) := by
    show _ → _
    intro hT W hW
    obtain ⟨⟨hx1, hx2⟩, hzl, hr1, hr2, hxl⟩ := one_facts hT
    obtain ⟨_, ⟨y1, y2⟩, _, _⟩ := terr_dims (show terrB x y zs = true by unfold oneB at hT; simp only [Bool.and_eq_true] at hT; exact hT.1)
    exact holes_any x y (.slice A zs.length c) zs (.slice Aa xs.length ca) xs W (h.below hW) (ha.below hW) hx1 hx2 y1 y2 hzl
  have HL : Hid (oneB x y zs xs = true → (holL x y zs.length xs).length ≤ 25 ∧ zs.length ≤ 25 ∧ xs.length ≤ 25 ∧ (∀ (k : Nat) (l : List Int), (holL x y zs.length xs)[k]? = some l → l.length ≤ 25) ∧ ∀ k, (xs ++ flat (holL x y zs.length xs) k).length ≤ 1000) := by
    show _ → _
    intro hT
    obtain ⟨⟨hx1, hx2⟩, hzl, hr1, hr2, hxl⟩ := one_facts hT
    have h1 := hol_len x y zs.length xs
    refine ⟨by omega, hzl, by omega, fun k l hl => by have := (hol_mem (List.mem_of_getElem? hl)).1; omega, fun k => ?_⟩
    rw [List.length_append, flat_len]
    have h2 := tot_le (xss := holL x y zs.length xs) (n := 25) (fun p hp => by have := (hol_mem hp).1; omega) (holL x y zs.length xs).length
    have h3 := tot_mono (holL x y zs.length xs) k
    omega
  have HCT : Hid (∀ W v P, W.cell? ⟨P, 0, none⟩ = some v → Sl W 1 v (xs ++ flat (holL x y zs.length xs) (holL x y zs.length xs).length).length (ints (xs ++ flat (holL x y zs.length xs) (holL x y zs.length xs).length)) → Below w.heap.size w W → zs.length ≤ 25 → Calls Try.prog 81 #[terrV x y (.slice A zs.length c), .func (.func 82) #[] #[.pointer (some ⟨P, 0, none⟩)]] W (RetOwn W 3 1 (fillL x y zs.length xs).length (ints (fillL x y zs.length xs)))) := by
    show ∀ W v P, _
    intro W v P hc hs hW hzl
    have := cellsThat_any x y (.slice A zs.length c) zs 82 #[] #[.pointer (some ⟨P, 0, none⟩)] (fun k => hasB (xs ++ (holL x y zs.length xs).flatten) k) W (h.below hW) (by omega) callFunc_fill1
      (fun W' k hk hW' => by
        have := fill1_any v (xs ++ flat (holL x y zs.length xs) (holL x y zs.length xs).length) P k W' (cell_below hc hW') (hs.below hW')
        rw [flat_all] at this
        simpa using this)
    exact this
  clear h ha
  generalize oneB x y zs xs = T at *
  generalize fillL x y zs.length xs = R at *
  generalize holL x y zs.length xs = H at *
  generalize zs.length = N at *
  generalize hM : xs.length = M at *
  cases T
  · go_enter Try.func15, Try.ntmps15
    go_wp2_with fail
    with_reducible refine HR.out.mono ?_
    rintro e w1 ⟨rfl, hb1⟩
    have hb1 := Lib.hid (grow_trans hb0.out hb1)
    go_wp2
    exact bodyPost_ret (v := .tuple #[.slice none 0 0, .bool false]) (by simp [results, Try.results15, go_sem]) rfl ⟨_, rfl, own_nil _ _ _ _, hb1.out⟩
  · have HG := Lib.hid (HF.out rfl)
    obtain ⟨hHl, hN25, hM25, hll, hfl⟩ := HL.out rfl
    have Hll := Lib.hid hll
    have Hfl := Lib.hid hfl
    clear HF HL hll hfl
    go_enter Try.func15, Try.ntmps15
    go_wp2_with fail
    with_reducible refine HR.out.mono ?_
    rintro e w1 ⟨rfl, hb1⟩
    have hs1 : w.heap.size + 1 ≤ w1.heap.size := by have := hb1.size; simp at this; omega
    have hT1 := Lib.hid (hTB0.out.below hb1)
    have hb2 := Lib.hid (grow_trans hb0.out hb1)
    clear hb1 HR hb0 hTB0
    go_wp2_with fail
    with_reducible refine (HO.out w1 hb2.out (by omega)).mono ?_
    rintro e w3 ⟨v3, rfl, hq3, hb3⟩
    obtain ⟨A3, c3, rfl⟩ := (Sl.of_q hq3).val
    have hs3 := hb3.size
    have hT3 := hT1.out.below hb3
    have hq3 := hq3.lower hs1
    have hb3 := grow_trans hb2.out hb3
    have hF3 : Hid (Fx w (w3.alloc (.cells #[.slice A3 M c3] 22)) x y (.slice A N c) w3.heap.size (.slice A3 M c3) (xs ++ flat H 0)) := by
      show Fx _ _ _ _ _ _ _ _
      have : xs ++ flat H 0 = xs := by simp [flat]
      rw [this]
      exact Fx.start hb3 hT3 (by omega) (by rw [hM]; exact hq3)
    have hvb : Hid (∀ j, (Value.slice A3 M c3).ownBlock = some j → j < w3.heap.size) := fun j hj => (hq3.lt j hj).2
    have hse : (w3.alloc (.cells #[.slice A3 M c3] 22)).heap.size = w3.heap.size + 1 := by simp
    clear hb2 hb3 hT1 hT3 hq3 HO
    have hTB5 := hF3.out.hT
    obtain ⟨t0, t1, t2⟩ := hTB5
    have HC := Lib.hid (HG.out _ hF3.out.hb)
    clear HG
    go_wp2_with fail
    with_reducible refine HC.out.mono ?_
    rintro e w6 ⟨rv, vs, rfl, hR, hb6⟩
    generalize (w3.alloc (.cells #[.slice A3 M c3] 22)) = w5 at *
    have hs6 := hb6.size
    have hR6 := Lib.hid hR.toW
    have hF6 := Lib.hid (hF3.out.below hb6)
    have hvb6 : Hid (∀ j, (Value.slice A3 M c3).ownBlock = some j → j < w5.heap.size ∨ w6.heap.size ≤ j) := fun j hj => .inl (by have := hvb.out j hj; omega)
    clear t0 t1 t2 hb6 hR HC hvb hF3
    have hPB : w3.heap.size < w5.heap.size := by omega
    generalize w3.heap.size = P at *
    generalize w5.heap.size = B at *
    obtain ⟨TT, hTe⟩ : ∃ TT, TT = w6.heap.size := ⟨_, rfl⟩
    rw [← hTe] at hR6 hvb6
    have hTT : TT ≤ w6.heap.size := by omega
    clear hTe
    obtain ⟨Ar, cr, rfl⟩ := hR6.out.outer.2 |> fun _ => (Sl.of_q hR6.out.outer).val
    have hvl := hR6.out.len
    have Hvl := Lib.hid hvl
    rw [hvl] at hR6 ⊢
    clear hvl
    generalize hL : H.length = L at *
    have HLn := Lib.hid hL
    clear hL
    go_wp2_with fail
    go_loopw [8, 20] (fun a i wr => ∃ k : Nat, k ≤ L ∧ i = .int .i64 k ∧ TT ≤ wr.heap.size ∧ ∃ v : Value, Hid (Fx w wr x y (.slice A N c) P v (xs ++ flat H k)) ∧ Hid (RowsW wr B TT (.slice Ar L cr) vs H) ∧ Hid (∀ j, v.ownBlock = some j → j < B ∨ TT ≤ j)) (fun _ i _ => L - (intOf i).toNat)
    case atStart => exact ⟨0, Nat.zero_le _, rfl, hTT, (.slice A3 M c3), hF6.out, hR6.out, hvb6.out⟩
    case round =>
      obtain ⟨k, hk, rfl, hsz, v, hF, hR, hv⟩ := hrel
      by_cases hlt : k < L
      · have hvl := hR.out.sl.outer
        rw [Hvl.out] at hvl
        obtain ⟨b, off, z, rfl, hz, hcell⟩ := hvl.at1 Hvl.out hlt
        simp only [id] at hcell
        obtain ⟨l, hl⟩ : ∃ l, H[k]? = some l := ⟨_, List.getElem?_eq_getElem (by have := HLn.out; omega)⟩
        have hrow := hR.out.sl.row k z l hz hl
        obtain ⟨Az, cz, rfl⟩ := hrow.val
        have hrow := Lib.hid hrow
        have hll := Hll.out k l hl
        have hfl := Hfl.out k
        have hfs := Lib.hid (flat_succ hl)
        obtain ⟨pc, pf⟩ := hF.out.cell
        have hP1 := hF.out.P_lt
        have hq0 := Lib.hid hF.out.hq
        have h1l := Lib.hid (ints_one l)
        have hlt' : (k : Int) < (L : Int) := by omega
        clear hvl hz hl
        generalize hcs : xs ++ flat H k = cs at *
        have hcs := Lib.hid hcs
        generalize hcl : cs.length = CL at *
        have Hcl := Lib.hid hcl
        clear hcl
        go_wp2_with ((at_builtin; refine wpList_append_q _ rfl _ _ 22 rfl (w.heap.size + 1) 3 i0 (.int .i64 0) 1 8 Try.underlying22 hi hz0 hz1 hz2 rfl (by decide) _ _ _ rfl hq0.out _ l.length (ints l) rfl hrow.out h1l.out (by unfold maxLen; omega) (by omega) (by omega) ?_))
        intro vA wA hqA hgA hdA
        obtain ⟨AA, cA, rfl⟩ := (Sl.of_q hqA).val
        have hm := hF.out.mid hgA
        have pc2 : wA.cell? ⟨P, 0, none⟩ = some v := by have := hm.cellAt 0 (by omega); rw [this]; simp
        have pf2 : wA.frozen? ⟨P, 0, none⟩ = false := hm.frozenAt 0
        have hgs := hgA.size
        have hqA2 : Qw wA (w.heap.size + 1) 3 1 (.slice AA (CL + l.length) cA) (xs ++ flat H (k + 1)).length (ints (xs ++ flat H (k + 1))) := by
          rw [hfs.out, ← List.append_assoc, hcs.out, List.length_append, Hcl.out]; simpa using hqA
        obtain ⟨hF2, hg2⟩ := hF.out.step hqA2 hgA
        have hR2 := (hR.out.keptX hgA hv.out).keptX hg2 (fun j hj => by cases hj; left; omega)
        have hv2 : Hid (∀ j, (Value.slice AA (CL + l.length) cA).ownBlock = some j → j < B ∨ TT ≤ j) := fun j hj => by
          rcases hdA with e | e
          · exact hv.out j (e ▸ hj)
          · rw [e] at hj; cases hj; right; omega
        have hF2 := Lib.hid hF2
        have hR2 := Lib.hid hR2
        clear hm hqA hgA hdA hqA2 hg2 hF hR hv pc pf hcell hq0
        go_wp2
        go_roundw
        case rel => exact ⟨k + 1, by omega, by go_num, by simp; omega, _, hF2.out, hR2.out, hv2.out⟩
        case measure => simp [intOf]; omega
      · obtain rfl : k = L := by omega
        obtain ⟨t0, t1, t2⟩ := hF.out.hT
        have hL2 := HLn.out
        have hq0 := Sl.of_q hF.out.hq
        subst hL2
        have HCC := Lib.hid (HCT.out wr v P hF.out.cell.1 hq0 hF.out.hb hN25)
        have hbw := Lib.hid hF.out.hb
        clear HCT hq0 hF
        go_wp2_with fail
        with_reducible refine HCC.out.mono ?_
        rintro e w7 ⟨u7, rfl, ho, hb7⟩
        have ho := Lib.hid (own_base ho hbw.out.size)
        have hb7 := Lib.hid (grow_trans hbw.out hb7)
        go_wp2
        exact bodyPost_ret (v := .tuple #[u7, .bool true]) (by simp [results, Try.results15, go_sem]) rfl ⟨_, rfl, ho.out, hb7.out⟩
end Go.Proofs.Ytefampjmbjbhcaa
