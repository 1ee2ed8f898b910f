/- ParseBreeze in the program and in the reference. Conditions: as each states. -/
import Derived.Test.YtabedcpibnnnhaaDoorBrzQ
import Derived.Test.YtabedcpibnnnhaaDoorIdxS
import Derived.Test.YtabedcpibnnnhaaDoorSplR
import Derived.Deep.RegionHeldLaw
namespace Go.Proofs.YtabedcpibnnnhaaDoor
open Go.ChangeShapes Go.WideShapes Go.ChangeAt Go.RowKit Go.Deep
set_option linter.unusedVariables false
set_option linter.unusedSimpArgs false
set_option maxRecDepth 100000

/-- A world with two cells stored. -/
def putB (w : World) (B : Nat) (f s : Int) : World := (w.setCell ⟨B, 0, none⟩ (.int .i64 f)).setCell ⟨B, 1, none⟩ (.int .i64 s)
/-- A box of two cells. -/
def BoxB (w : World) (base B : Nat) (f s : Int) : Prop := w.ownsRow base 41 2 (.slice (some ⟨B, 0, none⟩) 1 1) 1 [.int .i64 f, .int .i64 s]
theorem BoxB.put {w : World} {base B : Nat} {f s f' s' : Int} (h : BoxB w base B f' s') : BoxB (putB w B f s) base B f s := by
  have s1 := World.ownsRow.stored h 0 (.int .i64 f)
  have s2 := s1.1.stored 1 (.int .i64 s)
  exact s2.1
theorem putB_below {a w : World} {B : Nat} {b : Nat} {f s : Int} (h : Below b a w) (hB : b ≤ B) : Below b a (putB w B f s) :=
  ((h.setCell (p := ⟨B, 0, none⟩) hB _).setCell (p := ⟨B, 1, none⟩) hB _)
theorem BoxB.cells {w : World} {base B : Nat} {f s : Int} (h : BoxB w base B f s) :
    (w.cell? ⟨B, 0, none⟩ = some (.int .i64 f) ∧ w.cell? ⟨B, 1, none⟩ = some (.int .i64 s)) ∧ w.frozen? ⟨B, 0, none⟩ = false ∧ w.frozen? ⟨B, 1, none⟩ = false :=
  ⟨⟨World.ownsRow.cellAt h 0 (by omega), World.ownsRow.cellAt h 1 (by omega)⟩, World.ownsRow.frozenAt h _, World.ownsRow.frozenAt h _⟩
theorem BoxB.below {w w' : World} {base B : Nat} {f s : Int} (h : BoxB w base B f s) (hb : Below w.heap.size w w') : BoxB w' base B f s := own_below h hb
theorem BoxB.new (w : World) (base : Nat) (hw : base ≤ w.heap.size) (f s : Int) : BoxB (w.alloc (.cells #[.int .i64 f, .int .i64 s] 41)) base w.heap.size f s := by
  have := World.ownsRow_lit (base := base) (e := 41) (size := 2) w #[.int .i64 f, .int .i64 s] 1 hw (by unfold maxLen; omega) (by rfl)
  simpa [BoxB] using this
theorem BoxB.set0 {w : World} {base B : Nat} {f s : Int} (h : BoxB w base B f s) (k : Int) : BoxB (w.setCell ⟨B, 0, none⟩ (.int .i64 k)) base B k s := (World.ownsRow.stored h 0 (.int .i64 k)).1
theorem BoxB.set1 {w : World} {base B : Nat} {f s : Int} (h : BoxB w base B f s) (k : Int) : BoxB (w.setCell ⟨B, 1, none⟩ (.int .i64 k)) base B f k := (World.ownsRow.stored h 1 (.int .i64 k)).1
theorem BoxB.other {w : World} {base B B' : Nat} {f s : Int} (h : BoxB w base B f s) (hne : B ≠ B') (j : Nat) (u : Value) : BoxB (w.setCell ⟨B', j, none⟩ u) base B f s := by
  refine own_kept (row := some B') h ⟨rfl, rfl, rfl, by simp, fun k _ hk => heap_setCell_other w ⟨B', j, none⟩ k u (fun e => hk (by simp [e]))⟩ fun i hi e => ?_
  simp [Value.ownBlock] at hi e
  omega
theorem box_ne {w0 w' : World} {base B gn : Nat} {f s : Int} (h : BoxB w0 base B f s) (hb : Below w0.heap.size w0 w') (hgn : w0.heap.size ≤ gn) : B ≠ gn := by
  have := (World.ownsRow.lt h B rfl).2
  omega
theorem drew_size (w : World) : w.drew.heap.size = w.heap.size := rfl
theorem wpAnyH_sub {P : Program} {md : Region.Mode} {ops : Array Oper} {Q : Exit → Act → World → Prop} {S S' : World → Prop} (h : ∀ w, S' w → S w) : ∀ (fuel : Nat) (listed : Array Bool) (a : Act) (w : World), wpAnyH P md ops Q S' fuel listed a w → wpAnyH P md ops Q S fuel listed a w
  | 0, _, _, _, H => H
  | fuel + 1, _, _, _, H => ⟨H.1, fun i hi => wpOp_mono (fun a' w' h' => ⟨h w' h'.1, wpAnyH_sub h fuel _ a' w' h'.2⟩) (H.2 i hi)⟩
theorem brR_no (f k : Int) : brR false f k = .tuple #[.agg #[.int .i64 0, .int .i64 0], .bool false] := rfl
theorem brR_yes (f k : Int) : brR true f k = .tuple #[.agg #[.int .i64 f, .int .i64 k], .bool true] := rfl
theorem calm_eq : (calmS.toList == [99, 97, 108, 109]) = true := by rw [ByteArray.toList_eq]; rfl
theorem calm_ne {s : ByteArray} (h : ¬ s = calmS) : (s.toList == [99, 97, 108, 109]) = false := by
  have := bytes_ne h
  rwa [show calmS.toList = [99, 97, 108, 109] by rw [ByteArray.toList_eq]; rfl] at this
set_option maxHeartbeats 16000000 in
theorem sParseBreeze_any (s : ByteArray) (w : World) (hs : s.size ≤ 1048576) :
    Calls Tryd.prog 30 #[.string s] w fun e w' => e = .returned (brV s) ∧ Below w.heap.size w w' := by
  have hb0 : Hid (Below w.heap.size w (w.alloc (.cells #[.int .i64 0, .int .i64 0] 41))) := grow_alloc _ _
  have HB : Hid (BoxB (w.alloc (.cells #[.int .i64 0, .int .i64 0] 41)) w.heap.size w.heap.size 0 0) := BoxB.new w _ (Nat.le_refl _) _ _
  by_cases hc : s = calmS
  case pos =>
    subst hc
    rw [br_calm, brR_yes]
    have he := calm_eq
    obtain ⟨⟨c0, c1⟩, f0, f1⟩ := HB.out.cells
    go_enter Tryd.func30, Tryd.ntmps30
    go_wp2
    exact bodyPost_ret (v := .tuple #[.agg #[.int .i64 0, .int .i64 0], .bool true]) (by simp [results, Tryd.results30, go_sem, c0, c1]) rfl ⟨rfl, hb0.out⟩
  case neg =>
    have he := calm_ne hc
    have HS := Lib.hid (l1Split_any s 32 (w.alloc (.cells #[.int .i64 0, .int .i64 0] 41)) hs)
    have hpc : ∀ p ∈ splitS s 32, p.size ≤ 1048576 := fun p hp => Nat.le_trans (split_piece hp) hs
    by_cases hbad : 20 < s.size ∨ ¬ (splitS s 32).length = 3
    case pos =>
      have hR : brV s = brR false 0 0 := by rcases hbad with h | h; exact br_long hc h; exact br_words hc h
      rw [hR, brR_no]
      clear hR hpc
      generalize splitS s 32 = ws at *
      have hor : (decide ((20 : Int) < (s.size : Int)) = true) ∨ (decide ((20 : Int) < (s.size : Int)) = false ∧ ((ws.length : Int) == 3) = false ∧ ((ws.length : Int) != 3) = true) := by
        by_cases h : 20 < s.size
        · left; exact decide_eq_true (by omega)
        · right
          have h3 : ¬ ws.length = 3 := by rcases hbad with h' | h'; exact absurd h' h; exact h'
          have h4 : ((ws.length : Int) == 3) = false := by rw [beq_eq_false_iff_ne]; omega
          exact ⟨decide_eq_false (by omega), h4, by rw [bne, h4]; rfl⟩
      clear hbad hc
      rcases hor with h20 | ⟨h20, h3, h3'⟩
      all_goals
        go_enter Tryd.func30, Tryd.ntmps30
        go_wp2_with fail
        refine HS.out.mono ?_
        rintro e w1 ⟨v, rfl, ho, hb⟩
        obtain ⟨A, c, rfl⟩ := (Sl.of_q ho).val
        have HB1 := HB.out.below hb
        obtain ⟨⟨c0, c1⟩, f0, f1⟩ := HB1.cells
        have HB1 := Lib.hid HB1
        replace hb := Lib.hid (grow_trans hb0.out hb)
        clear ho hb0 HB HS
        go_wp2
        change bodyPost _ _ _ _ _ (putB w1 w.heap.size 0 0)
        obtain ⟨⟨e0, e1⟩, _⟩ := (HB1.out.put (f := 0) (s := 0)).cells
        have hz := Lib.hid (putB_below (f := 0) (s := 0) hb.out (Nat.le_refl w.heap.size))
        generalize putB w1 w.heap.size 0 0 = wz at *
        exact bodyPost_ret (v := .tuple #[.agg #[.int .i64 0, .int .i64 0], .bool false]) (by simp [results, Tryd.results30, go_sem, e0, e1]) rfl ⟨rfl, hz.out⟩
    case neg =>
      have h3 : (splitS s 32).length = 3 := by
        by_cases h : (splitS s 32).length = 3
        · exact h
        · exact absurd (Or.inr h) hbad
      have h20 : decide ((20 : Int) < (s.size : Int)) = false := decide_eq_false fun h => hbad (Or.inl (by omega))
      clear hbad
      obtain ⟨x1, hx1⟩ : ∃ x, (splitS s 32)[1]? = some x := ⟨_, List.getElem?_eq_getElem (by omega)⟩
      obtain ⟨b1, hr1⟩ := piR_rd x1
      have HR : Hid (∀ W, Calls Tryd.prog 46 #[.string x1] W fun e w' => e = .returned (.tuple #[.int .i64 (brK s), .bool b1]) ∧ Below W.heap.size W w') := by
        show ∀ W, _
        intro W
        have := l1Read_any x1 W (hpc _ (List.mem_of_getElem? hx1))
        rw [hr1] at this
        rw [show brK s = rdN x1 from nmW_at hx1]
        exact this
      have hit := Lib.hid fun f => br_hit (s := s) hc (f := f)
      have miss := Lib.hid (br_miss (s := s) hc)
      have HW := Lib.hid fun f k W => l5Wind_any f k W
      have HT := Lib.hid fun f k W => l5Text_any f k W
      have hxs : Hid ((strs (splitS s 32))[1]? = some (.string x1)) := by show _ = _; simp [hx1]
      rw [h3] at HS
      change Hid (Calls _ _ _ _ (RetQ _ _ 1 3 (strs (splitS s 32)))) at HS
      clear hx1 hr1 hpc hc h3
      generalize strs (splitS s 32) = ss at *
      generalize brV s = R at *
      generalize brK s = K at *
      go_enter Tryd.func30, Tryd.ntmps30
      go_wp2_with fail
      refine HS.out.mono ?_
      rintro e w1 ⟨v, rfl, ho, hb⟩
      obtain ⟨A, c, rfl⟩ := (Sl.of_q ho).val
      have hcell : ∃ b off, A = some ⟨b, off, none⟩ ∧ b < w1.heap.size ∧ w1.cell? ⟨b, off + 1, none⟩ = some (.string x1) := by
        obtain ⟨A', c', e, _, _, hl, h⟩ := Sl.of_q ho
        injection e with e1 _ e2
        subst e1 e2
        obtain ⟨b, off, rfl, hcl⟩ := h (by rw [hl]; omega)
        have := hcl 1 _ hxs.out
        exact ⟨b, off, rfl, World.block_lt_of_cell? w1 _ this, this⟩
      obtain ⟨g, off, rfl, hg, k1⟩ := hcell
      have HB1 := Lib.hid (HB.out.below hb)
      have hb1 := Lib.hid (grow_trans hb0.out hb)
      have hsz1 := hb1.out.size
      have hlt0 : Hid (w.heap.size < w1.heap.size) := by
        show _ < _
        have := hb.size
        simp at this
        omega
      have hne : g ≠ w1.heap.size := by omega
      have hne' : ¬ g = w1.heap.size := hne
      have HX : Hid (BoxB (w1.alloc (.cells #[.int .i64 0, .int .i64 0] 41)) w.heap.size w1.heap.size 0 0) := BoxB.new w1 _ hsz1 _ _
      have hx : Hid (Below w1.heap.size w1 (w1.alloc (.cells #[.int .i64 0, .int .i64 0] 41))) := grow_alloc _ _
      clear hb HB HS ho hxs hsz1
      go_wp2_with fail
      clear k1 hne hne'
      refine (HR.out _).mono ?_
      rintro e w2 ⟨rfl, hb⟩
      have HX2 := HX.out.below hb
      have hx2 := Lib.hid (grow_trans hx.out hb)
      obtain ⟨⟨c0, c1⟩, f0, f1⟩ := HX2.cells
      have HX3 := Lib.hid (HX2.set1 K)
      have HB3 := Lib.hid ((HB1.out.below hx2.out).other (by have := hlt0.out; omega) 1 (.int .i64 K) (B' := w1.heap.size))
      have hb3 := Lib.hid ((grow_trans hb1.out hx2.out).setCell (p := ⟨w1.heap.size, 1, none⟩) (by have := hlt0.out; show w.heap.size ≤ w1.heap.size; omega) (.int .i64 K))
      clear hb HX2 hx2 HX HB1 hb1 hx HR
      generalize hB1 : w1.heap.size = B1 at *
      clear hB1
      go_wp2_with fail
      clear c0 c1 f0 f1
      go_loopw [6] (fun i wr => ∃ k : Nat, k ≤ 8 ∧ i = .int .i64 k ∧ Hid (Below w.heap.size w wr) ∧ Hid (BoxB wr w.heap.size w.heap.size 0 0) ∧ (∃ x, Hid (BoxB wr w.heap.size B1 x K)) ∧ Hid (∀ j : Nat, j < k → windB j K = true → ¬ bs (brzL j K) = s)) (fun i _ => 8 - (intOf i).toNat)
      case atStart => exact ⟨0, by omega, rfl, hb3.out, HB3.out, ⟨0, HX3.out⟩, fun j hj => by omega⟩
      case round =>
        obtain ⟨k, hk, rfl, hb, hB, ⟨x, hX⟩, hno⟩ := hrel
        clear hb3 HB3 HX3
        by_cases hlt : k < 8
        · obtain ⟨⟨c0, c1⟩, f0, f1⟩ := hX.out.cells
          have hX1 := Lib.hid (hX.out.set0 k)
          have hB1 := Lib.hid (hB.out.other (B' := B1) (by have := hlt0.out; omega) 0 (.int .i64 k))
          have hb1 := Lib.hid (hb.out.setCell (p := ⟨B1, 0, none⟩) (by have := hlt0.out; show w.heap.size ≤ B1; omega) (.int .i64 k))
          obtain ⟨⟨d0, d1⟩, _⟩ := hX1.out.cells
          clear hX hB hb
          go_wp2_with fail
          refine (HW.out _ _ _).mono ?_
          rintro e w3 ⟨rfl, hbz⟩
          have hX2 := Lib.hid (hX1.out.below hbz)
          have hB2 := Lib.hid (hB1.out.below hbz)
          have hb2 := Lib.hid (grow_trans hb1.out hbz)
          clear hX1 hB1 hb1 hbz c0 c1 f0 f1 d0 d1
          cases hwd : windB (k : Int) K with
          | false =>
            go_wp2
            go_roundw
            case rel => exact ⟨k + 1, by omega, by go_num, hb2.out, hB2.out, ⟨_, hX2.out⟩, fun j hj hw => by
              by_cases e : j = k
              · subst e; rw [hwd] at hw; cases hw
              · exact hno.out j (by omega) hw⟩
            case measure => simp [intOf]; omega
          | true =>
            obtain ⟨⟨d0, d1⟩, _⟩ := hX2.out.cells
            have HT2 := Lib.hid fun W => HT.out k K W hwd
            have hit2 := Lib.hid (hit.out k hwd)
            generalize hm : bs (brzL (k : Int) K) = m at *
            have Hm := Lib.hid hm
            clear hm
            go_wp2_with fail
            clear d0 d1
            refine (HT2.out _).mono ?_
            rintro e w4 ⟨rfl, hbz⟩
            have hX3 := Lib.hid (hX2.out.below hbz)
            have hB3 := Lib.hid (hB2.out.below hbz)
            have hb3 := Lib.hid (grow_trans hb2.out hbz)
            obtain ⟨⟨c0, c1⟩, f0, f1⟩ := hB3.out.cells
            obtain ⟨⟨d0, d1⟩, _⟩ := hX3.out.cells
            clear hX2 hB2 hb2 hbz
            by_cases hq : m = s
            · have hR := Lib.hid (congrArg Ending.returned (hit2.out hq).symm)
              have hq' : (m.toList == s.toList) = true := by rw [hq]; simp
              clear hit2
              go_wp2
              change bodyPost _ _ _ _ _ (putB w4 w.heap.size k K)
              obtain ⟨⟨e0, e1⟩, _⟩ := (hB3.out.put (f := k) (s := K)).cells
              have hz := Lib.hid (putB_below (f := k) (s := K) hb3.out (Nat.le_refl w.heap.size))
              generalize putB w4 w.heap.size k K = wz at *
              exact bodyPost_ret (v := .tuple #[.agg #[.int .i64 k, .int .i64 K], .bool true]) (by simp [results, Tryd.results30, go_sem, e0, e1]) rfl ⟨hR.out, hz.out⟩
            · have hq' := bytes_ne hq
              clear d0 d1 c0 c1 f0 f1
              go_wp2
              go_roundw
              case rel => exact ⟨k + 1, by omega, by go_num, hb3.out, hB3.out, ⟨_, hX3.out⟩, fun j hj hw => by
                by_cases e : j = k
                · subst e; rw [Hm.out]; exact hq
                · exact hno.out j (by omega) hw⟩
              case measure => simp [intOf]; omega
        · have hR := Lib.hid (congrArg Ending.returned (miss.out (fun j hj => hno.out j (by omega))).symm)
          obtain ⟨⟨c0, c1⟩, f0, f1⟩ := hB.out.cells
          clear hX
          go_wp2
          change bodyPost _ _ _ _ _ (putB wr w.heap.size 0 0)
          obtain ⟨⟨e0, e1⟩, _⟩ := (hB.out.put (f := 0) (s := 0)).cells
          have hz := Lib.hid (putB_below (f := 0) (s := 0) hb.out (Nat.le_refl w.heap.size))
          generalize putB wr w.heap.size 0 0 = wz at *
          exact bodyPost_ret (v := .tuple #[.agg #[.int .i64 0, .int .i64 0], .bool false]) (by simp [results, Tryd.results30, go_sem, e0, e1]) rfl ⟨hR.out, hz.out⟩
theorem dir_sl {W : World} {g : Nat} (h : ∀ (j : Nat) (l : List UInt8), dirS[j]? = some l → W.cell? ⟨g, j, none⟩ = some (.string (bs l))) : Sl W 1 (.slice (some ⟨g, 0, none⟩) 8 8) (dirS.map bs).length (strs (dirS.map bs)) := by
  refine ⟨_, 8, rfl, Nat.le_refl _, by unfold maxLen; omega, rfl, fun _ => ⟨g, 0, rfl, fun j u hu => ?_⟩⟩
  simp only [strs, List.map_map, List.getElem?_map, Option.map_eq_some_iff] at hu
  obtain ⟨l, hl, rfl⟩ := hu
  rw [Nat.zero_add]
  exact h j l hl
set_option maxHeartbeats 16000000 in
theorem ParseBreeze_any (s : ByteArray) (w : World) (hs : s.size ≤ 1048576) (hm : LenIs w) (ht : Lib.TabIs Tryd.prog w "internal/strconv.uint64pow10" .u64 Lib.pow10Tab) (hy : SynIs w) :
    Calls Tryd.prog 28 #[.string s] w fun e w' => e = .returned (brV s) ∧ Below w.heap.size w w' := by
  have hb0 : Hid (Below w.heap.size w (w.alloc (.cells #[.int .i64 0, .int .i64 0] 41))) := grow_alloc _ _
  have HB : Hid (BoxB (w.alloc (.cells #[.int .i64 0, .int .i64 0] 41)) w.heap.size w.heap.size 0 0) := BoxB.new w _ (Nat.le_refl _) _ _
  by_cases hc : s = calmS
  case pos =>
    subst hc
    rw [br_calm, brR_yes]
    have he := calm_eq
    obtain ⟨⟨c0, c1⟩, f0, f1⟩ := HB.out.cells
    go_enter Tryd.func28, Tryd.ntmps28
    go_wp2
    exact bodyPost_ret (v := .tuple #[.agg #[.int .i64 0, .int .i64 0], .bool true]) (by simp [results, Tryd.results28, go_sem, c0, c1]) rfl ⟨rfl, hb0.out⟩
  case neg =>
    have he := calm_ne hc
    have HS := Lib.hid (Split_any s 32 _ hs (hm.below hb0.out))
    have hpc : ∀ p ∈ splitS s 32, p.size ≤ 1048576 := fun p hp => Nat.le_trans (split_piece hp) hs
    have hn0 := split_ne s 32
    obtain ⟨x0, hx0⟩ : ∃ x, (splitS s 32)[0]? = some x := ⟨_, List.getElem?_eq_getElem hn0⟩
    have HI : Hid (∀ W g, Sl W 1 (.slice (some ⟨g, 0, none⟩) 8 8) (dirS.map bs).length (strs (dirS.map bs)) → Calls Tryd.prog 67 #[.slice (some ⟨g, 0, none⟩) 8 8, .string x0] W fun e w' => e = .returned (.int .i64 (brF s)) ∧ W = w') := by
      show ∀ W g, _
      intro W g h
      have := Index_str_any _ (dirS.map bs) x0 W h
      rw [ix_idx] at this
      rw [show brF s = ixD x0.data.toList by unfold brF; rw [List.getD_eq_getElem?_getD, hx0]; rfl]
      exact this
    have HN : Hid (∀ W (u : Value) (B : Nat), Below w.heap.size w W → Sl W 1 u (splitS s 32).length (strs (splitS s 32)) → Sl W 1 (.slice (some ⟨B, 0, none⟩) 1 1) 1 [.int .i64 1] → Calls Tryd.prog 68 #[u, .slice (some ⟨B, 0, none⟩) 1 1] W (RetOwn W 3 1 1 [.int .i64 (brK s)])) := by
      show ∀ W u B, _
      intro W u B hW hu hv
      exact numbersIn_any u _ (splitS s 32) [1] W hu hv hpc (by simp) (by simp) (tab_below gPow ht hW) (syn_below hy hW)
    obtain ⟨m, b, hst, hq1, hq2, hq3⟩ := br_cases hc
    have HF : Hid (∀ W, Below w.heap.size w W → Calls Tryd.prog 25 #[.agg #[.int .i64 (brF s), .int .i64 (brK s)]] W fun e w' => e = .returned (.tuple #[.string m, .bool b]) ∧ Below W.heap.size W w') := by
      show ∀ W, _
      intro W hW
      rw [← hst]
      exact BreezeText_any _ _ W (tab_below gPow ht hW)
    have hxs : Hid ((strs (splitS s 32))[0]? = some (.string x0)) := by show _ = _; simp [hx0]
    have hslen : Hid ((strs (splitS s 32)).length = (splitS s 32).length) := by show _ = _; simp
    have HQ1 := Lib.hid hq1
    have HQ2 := Lib.hid hq2
    have HQ3 := Lib.hid hq3
    clear hst hq1 hq2 hq3 hx0 hpc ht hy hm hs hc
    generalize strs (splitS s 32) = ss at *
    generalize (splitS s 32).length = n at *
    generalize brV s = R at *
    generalize brK s = sp at *
    generalize brF s = F at *
    have HD := Lib.hid fun W => directions_any W
    go_enter Tryd.func28, Tryd.ntmps28
    go_wp2_with fail
    refine HS.out.mono ?_
    rintro e w1 ⟨v, rfl, ho, hb⟩
    obtain ⟨A, c, rfl, hA⟩ := own_form ho
    obtain ⟨g, rfl, hg1, hg2⟩ := hA hn0
    have HB1 := Lib.hid (HB.out.below hb)
    have hb1 := Lib.hid (grow_trans hb0.out hb)
    have k0 := ho.cellAt 0 (by omega)
    rw [hxs.out] at k0
    have ho := Lib.hid (Sl.of_own ho)
    clear hb HB HS hg1 hb0 hxs hslen
    have mkS : Hid (∀ W, Below w1.heap.size w1 W → W.cell? ⟨g, 0, none⟩ = some (.string x0) ∧ Below w1.heap.size w1 W) := fun W hW => ⟨cell_grow k0 hW, hW⟩
    go_wp2_with fail
    --GEN
    refine wp_region_held_drew (S := fun W => W.cell? ⟨g, 0, none⟩ = some (.string x0) ∧ Below w1.heap.size w1 W) (by kernel_rfl) (mkS.out _ (grow_drew _)) (fun hHeld => ?_)
    have cb := grow_drew w1
    refine wpAnyH_take (i := 1) (v := ?_) rfl (by kernel_rfl) (by kernel_rfl) (by kernel_rfl) (fun _ _ _ h => h) (Or.inl ⟨by rfl, ?_⟩) (by assumption) ?_
    rotate_left
    · intro w hSw
      try dsimp only at hSw
      go_simp
      try (with_reducible rfl)
    try simp only [Act.put, List.setIfInBounds_toArray, List.set_cons_zero, List.set_cons_succ]
    refine wpAnyH_take (i := 2) (v := ?_) rfl (by kernel_rfl) (by kernel_rfl) (by kernel_rfl) (fun _ _ _ h => h) (Or.inl ⟨by rfl, ?_⟩) (by assumption) ?_
    rotate_left
    · intro w hSw
      try dsimp only at hSw
      go_simp
      try (with_reducible rfl)
    try simp only [Act.put, List.setIfInBounds_toArray, List.set_cons_zero, List.set_cons_succ]
    refine wpAnyH_take (i := 3) (v := ?_) rfl (by kernel_rfl) (by kernel_rfl) (by kernel_rfl) (fun _ _ _ h => h) (Or.inl ⟨by rfl, ?_⟩) (by assumption) ?_
    rotate_left
    · intro w hSw
      try dsimp only at hSw
      go_simp
      try (with_reducible rfl)
    try simp only [Act.put, List.setIfInBounds_toArray, List.set_cons_zero, List.set_cons_succ]
    refine wpAnyH_take (i := 5) (v := ?_) rfl (by kernel_rfl) (by kernel_rfl) (by kernel_rfl) (fun _ _ _ h => h) (Or.inl ⟨by rfl, ?_⟩) (by assumption) ?_
    rotate_left
    · intro w hSw
      try dsimp only at hSw
      go_simp
      try (with_reducible rfl)
    try simp only [Act.put, List.setIfInBounds_toArray, List.set_cons_zero, List.set_cons_succ]
    refine wpAnyH_ready (rs := [0, 6, 11]) (by kernel_rfl) (by simp) ?_
    refine AllReadyH.cons rfl (fun K hK => ?_) (AllReadyH.cons rfl (fun K hK => ?_) (AllReadyH.cons rfl (fun K hK => ?_) AllReadyH.nil))
    · go_simp
      go_at_call 62
      with_reducible refine (HD.out _).mono ?_
      rintro e wc ⟨⟨g8, rfl, hg8⟩, hbc⟩
      have hd8 := dir_sl hg8
      clear hg8
      replace cb := grow_trans cb hbc
      refine hK.out _ _ ?_ (fun hHeld => ?_)
      · exact mkS.out _ cb
      clear hK K
      refine wpAnyH_ready (rs := [4, 6, 11]) (by kernel_rfl) (by simp) ?_
      refine AllReadyH.cons rfl (fun K hK => ?_) (AllReadyH.cons rfl (fun K hK => ?_) (AllReadyH.cons rfl (fun K hK => ?_) AllReadyH.nil))
      · go_simp
        go_at_call 67
        with_reducible refine (HI.out _ _ hd8).mono ?_
        rintro e we ⟨rfl, rfl⟩
        refine hK.out _ _ ?_ (fun hHeld => ?_)
        · exact mkS.out _ cb
        clear hK K
        refine wpAnyH_ready (rs := [6, 11]) (by kernel_rfl) (by simp) ?_
        refine AllReadyH.cons rfl (fun K hK => ?_) (AllReadyH.cons rfl (fun K hK => ?_) AllReadyH.nil)
        · go_simp
          refine hK.out _ _ ?_ (fun hHeld => ?_)
          · exact mkS.out _ (grow_trans cb (grow_alloc _ _))
          clear hK K
          refine wpAnyH_ready (rs := [7, 11]) (by kernel_rfl) (by simp) ?_
          refine AllReadyH.cons rfl (fun K hK => ?_) (AllReadyH.cons rfl (fun K hK => ?_) AllReadyH.nil)
          · go_simp
            go_at_call 68
            refine (HN.out _ _ _ (grow_trans hb1.out (grow_trans cb (grow_alloc _ _))) (ho.out.below (grow_trans cb (grow_alloc _ _))) (Sl.boxAt (hp0 _ _))).mono ?_
            rintro e wn ⟨vn, rfl, hon, hbn⟩
            obtain ⟨A2, c2, rfl, hA2⟩ := own_form hon
            obtain ⟨gn, rfl, hgn, _⟩ := hA2 (by omega)
            have kn := hon.cellAt 0 (by omega)
            simp only [List.getElem?_cons_zero] at kn
            clear hon hA2
            replace cb := grow_trans (grow_trans cb (grow_alloc _ _)) hbn
            refine hK.out _ _ ?_ (fun hHeld => ?_)
            · exact mkS.out _ cb
            clear hK K
            refine wpAnyH_sub (S' := fun W => W.cell? ⟨gn, 0, none⟩ = some (.int .i64 sp) ∧ Below w1.heap.size w1 W) (fun W h => mkS.out W h.2) _ _ _ _ ?_
            have hHeld : wn.cell? ⟨gn, 0, none⟩ = some (.int .i64 sp) ∧ Below w1.heap.size w1 wn := ⟨kn, cb⟩
            refine wpAnyH_take (i := 8) (v := ?_) rfl (by kernel_rfl) (by kernel_rfl) (by kernel_rfl) (fun _ _ _ h => h) (Or.inl ⟨by rfl, ?_⟩) (by assumption) ?_
            rotate_left
            · intro w hSw
              try dsimp only at hSw
              go_simp
              try (with_reducible rfl)
            try simp only [Act.put, List.setIfInBounds_toArray, List.set_cons_zero, List.set_cons_succ]
            refine wpAnyH_take (i := 9) (v := ?_) rfl (by kernel_rfl) (by kernel_rfl) (by kernel_rfl) (fun _ _ _ h => h) (Or.inl ⟨by rfl, ?_⟩) (by assumption) ?_
            rotate_left
            · intro w hSw
              try dsimp only at hSw
              go_simp
              try (with_reducible rfl)
            try simp only [Act.put, List.setIfInBounds_toArray, List.set_cons_zero, List.set_cons_succ]
            refine wpAnyH_take (i := 10) (v := ?_) rfl (by kernel_rfl) (by kernel_rfl) (by kernel_rfl) (fun _ _ _ h => h) (Or.inl ⟨by rfl, ?_⟩) (by assumption) ?_
            rotate_left
            · intro w hSw
              try dsimp only at hSw
              go_simp
              try (with_reducible rfl)
            try simp only [Act.put, List.setIfInBounds_toArray, List.set_cons_zero, List.set_cons_succ]
            have hB2 := BoxB.new wn w1.heap.size (Below.size cb) F sp
            have cb2 := grow_trans cb (grow_alloc wn (.cells #[.int .i64 F, .int .i64 sp] 41))
            refine wpAnyH_ready (rs := [11]) (by kernel_rfl) (by simp) (AllReadyH.cons rfl (fun K hK => ?_) AllReadyH.nil)
            go_simp
            refine hK.out _ _ ⟨cell_grow kn (grow_alloc _ _), grow_trans cb (grow_alloc _ _)⟩ (fun hHeld => ?_)
            clear hK K
            refine wpAnyH_ready (rs := [12]) (by kernel_rfl) (by simp) (AllReadyH.cons rfl (fun K hK => ?_) AllReadyH.nil)
            go_simp
            refine hK.out _ _ ⟨cell_grow kn (grow_alloc _ _), grow_trans cb (grow_alloc _ _)⟩ (fun hHeld => ?_)
            clear hK K
            refine wpAnyH_done (by kernel_rfl) ?_ _
            have hb := Lib.hid (grow_trans hb1.out cb2)
            have HB2 := Lib.hid (HB1.out.below cb2)
            obtain ⟨⟨d0, d1⟩, _⟩ := hB2.cells
            have hB3 := Lib.hid hB2
            clear hB2 cb2 cb hHeld kn mkS ho HN HI HD
            go_wp2_with fail
            clear d0 d1
            refine (HF.out _ hb.out).mono ?_
            rintro e w3 ⟨rfl, hbz⟩
            obtain ⟨⟨d0, d1⟩, _⟩ := (hB3.out.below hbz).cells
            have HB4 := Lib.hid (HB2.out.below hbz)
            have hb4 := Lib.hid (grow_trans hb.out hbz)
            obtain ⟨⟨c0, c1⟩, f0, f1⟩ := HB4.out.cells
            clear hbz HB2 hb hB3 HF
            cases b with
            | false =>
              have HRR := Lib.hid (congrArg Ending.returned (HQ1.out rfl).symm)
              clear HQ1 HQ2 HQ3
              go_wp2
              change bodyPost _ _ _ _ _ (putB w3 w.heap.size 0 0)
              obtain ⟨⟨e0, e1⟩, _⟩ := (HB4.out.put (f := 0) (s := 0)).cells
              have hz := Lib.hid (putB_below (f := 0) (s := 0) hb4.out (Nat.le_refl w.heap.size))
              generalize putB w3 w.heap.size 0 0 = wz at *
              exact bodyPost_ret (v := .tuple #[.agg #[.int .i64 0, .int .i64 0], .bool false]) (by simp [results, Tryd.results28, go_sem, e0, e1]) rfl ⟨HRR.out, hz.out⟩
            | true =>
              by_cases hms : m = s
              · have hq' : (m.toList == s.toList) = true := by rw [hms]; simp
                have HRR := Lib.hid (congrArg Ending.returned (HQ3.out rfl hms).symm)
                clear HQ1 HQ2 HQ3
                go_wp2
                change bodyPost _ _ _ _ _ (putB w3 w.heap.size F sp)
                obtain ⟨⟨e0, e1⟩, _⟩ := (HB4.out.put (f := F) (s := sp)).cells
                have hz := Lib.hid (putB_below (f := F) (s := sp) hb4.out (Nat.le_refl w.heap.size))
                generalize putB w3 w.heap.size F sp = wz at *
                exact bodyPost_ret (v := .tuple #[.agg #[.int .i64 F, .int .i64 sp], .bool true]) (by simp [results, Tryd.results28, go_sem, e0, e1]) rfl ⟨HRR.out, hz.out⟩
              · have hne := bytes_ne hms
                have HRR := Lib.hid (congrArg Ending.returned (HQ2.out rfl hms).symm)
                clear HQ1 HQ2 HQ3
                go_wp2
                change bodyPost _ _ _ _ _ (putB w3 w.heap.size 0 0)
                obtain ⟨⟨e0, e1⟩, _⟩ := (HB4.out.put (f := 0) (s := 0)).cells
                have hz := Lib.hid (putB_below (f := 0) (s := 0) hb4.out (Nat.le_refl w.heap.size))
                generalize putB w3 w.heap.size 0 0 = wz at *
                exact bodyPost_ret (v := .tuple #[.agg #[.int .i64 0, .int .i64 0], .bool false]) (by simp [results, Tryd.results28, go_sem, e0, e1]) rfl ⟨HRR.out, hz.out⟩
          · go_simp
            refine hK.out _ _ ?_ (fun hHeld => ?_)
            · exact mkS.out _ (grow_trans (grow_trans cb (grow_alloc _ _)) (grow_alloc _ _))
            clear hK K
            refine wpAnyH_ready (rs := [7]) (by kernel_rfl) (by simp) ?_
            refine AllReadyH.cons rfl (fun K hK => ?_) AllReadyH.nil
            · go_simp
              go_at_call 68
              refine (HN.out _ _ _ (grow_trans hb1.out (grow_trans (grow_trans cb (grow_alloc _ _)) (grow_alloc _ _))) (ho.out.below (grow_trans (grow_trans cb (grow_alloc _ _)) (grow_alloc _ _))) (Sl.boxAt (hp1 _ _ _))).mono ?_
              rintro e wn ⟨vn, rfl, hon, hbn⟩
              obtain ⟨A2, c2, rfl, hA2⟩ := own_form hon
              obtain ⟨gn, rfl, hgn, _⟩ := hA2 (by omega)
              have kn := hon.cellAt 0 (by omega)
              simp only [List.getElem?_cons_zero] at kn
              clear hon hA2
              have hBn := box_ne (BoxB.new _ w1.heap.size (Below.size (grow_trans cb (grow_alloc _ _))) 0 0) hbn hgn
              try simp only [World.size_alloc, drew_size] at hBn
              have bx := BoxB.below (BoxB.new _ w1.heap.size (Below.size (grow_trans cb (grow_alloc _ _))) 0 0) hbn
              try simp only [World.size_alloc, drew_size] at bx
              replace cb := grow_trans (grow_trans (grow_trans cb (grow_alloc _ _)) (grow_alloc _ _)) hbn
              refine hK.out _ _ ?_ (fun hHeld => ?_)
              · exact mkS.out _ cb
              clear hK K
              refine wpAnyH_sub (S' := fun W => W.cell? ⟨gn, 0, none⟩ = some (.int .i64 sp) ∧ Below w1.heap.size w1 W) (fun W h => mkS.out W h.2) _ _ _ _ ?_
              have hHeld : wn.cell? ⟨gn, 0, none⟩ = some (.int .i64 sp) ∧ Below w1.heap.size w1 wn := ⟨kn, cb⟩
              refine wpAnyH_take (i := 8) (v := ?_) rfl (by kernel_rfl) (by kernel_rfl) (by kernel_rfl) (fun _ _ _ h => h) (Or.inl ⟨by rfl, ?_⟩) (by assumption) ?_
              rotate_left
              · intro w hSw
                try dsimp only at hSw
                go_simp
                try (with_reducible rfl)
              try simp only [Act.put, List.setIfInBounds_toArray, List.set_cons_zero, List.set_cons_succ]
              refine wpAnyH_take (i := 9) (v := ?_) rfl (by kernel_rfl) (by kernel_rfl) (by kernel_rfl) (fun _ _ _ h => h) (Or.inl ⟨by rfl, ?_⟩) (by assumption) ?_
              rotate_left
              · intro w hSw
                try dsimp only at hSw
                go_simp
                try (with_reducible rfl)
              try simp only [Act.put, List.setIfInBounds_toArray, List.set_cons_zero, List.set_cons_succ]
              refine wpAnyH_take (i := 10) (v := ?_) rfl (by kernel_rfl) (by kernel_rfl) (by kernel_rfl) (fun _ _ _ h => h) (Or.inl ⟨by rfl, ?_⟩) (by assumption) ?_
              rotate_left
              · intro w hSw
                try dsimp only at hSw
                go_simp
                try (with_reducible rfl)
              try simp only [Act.put, List.setIfInBounds_toArray, List.set_cons_zero, List.set_cons_succ]
              obtain ⟨⟨bx0, bx1⟩, bf0, bf1⟩ := bx.cells
              have hge := (World.ownsRow.lt bx _ rfl).1
              have hB2 := (bx.set0 F).set1 sp
              have cb2 := (cb.setCell (p := ⟨_, 0, none⟩) hge (.int .i64 F)).setCell (p := ⟨_, 1, none⟩) hge (.int .i64 sp)
              refine wpAnyH_ready (rs := [12]) (by kernel_rfl) (by simp) (AllReadyH.cons rfl (fun K hK => ?_) AllReadyH.nil)
              go_simp
              refine hK.out _ _ ?_ (fun hHeld => ?_)
              · refine ⟨?_, cb2⟩
                rw [World.cell?_setCell_far _ _ _ _ hBn, World.cell?_setCell_far _ _ _ _ hBn]
                exact kn
              clear hK K
              refine wpAnyH_done (by kernel_rfl) ?_ _
              have hb := Lib.hid (grow_trans hb1.out cb2)
              have HB2 := Lib.hid (HB1.out.below cb2)
              obtain ⟨⟨d0, d1⟩, _⟩ := hB2.cells
              have hB3 := Lib.hid hB2
              clear hB2 cb2 cb hHeld kn mkS ho HN HI HD
              go_wp2_with fail
              clear d0 d1
              refine (HF.out _ hb.out).mono ?_
              rintro e w3 ⟨rfl, hbz⟩
              obtain ⟨⟨d0, d1⟩, _⟩ := (hB3.out.below hbz).cells
              have HB4 := Lib.hid (HB2.out.below hbz)
              have hb4 := Lib.hid (grow_trans hb.out hbz)
              obtain ⟨⟨c0, c1⟩, f0, f1⟩ := HB4.out.cells
              clear hbz HB2 hb hB3 HF
              cases b with
              | false =>
                have HRR := Lib.hid (congrArg Ending.returned (HQ1.out rfl).symm)
                clear HQ1 HQ2 HQ3
                go_wp2
                change bodyPost _ _ _ _ _ (putB w3 w.heap.size 0 0)
                obtain ⟨⟨e0, e1⟩, _⟩ := (HB4.out.put (f := 0) (s := 0)).cells
                have hz := Lib.hid (putB_below (f := 0) (s := 0) hb4.out (Nat.le_refl w.heap.size))
                generalize putB w3 w.heap.size 0 0 = wz at *
                exact bodyPost_ret (v := .tuple #[.agg #[.int .i64 0, .int .i64 0], .bool false]) (by simp [results, Tryd.results28, go_sem, e0, e1]) rfl ⟨HRR.out, hz.out⟩
              | true =>
                by_cases hms : m = s
                · have hq' : (m.toList == s.toList) = true := by rw [hms]; simp
                  have HRR := Lib.hid (congrArg Ending.returned (HQ3.out rfl hms).symm)
                  clear HQ1 HQ2 HQ3
                  go_wp2
                  change bodyPost _ _ _ _ _ (putB w3 w.heap.size F sp)
                  obtain ⟨⟨e0, e1⟩, _⟩ := (HB4.out.put (f := F) (s := sp)).cells
                  have hz := Lib.hid (putB_below (f := F) (s := sp) hb4.out (Nat.le_refl w.heap.size))
                  generalize putB w3 w.heap.size F sp = wz at *
                  exact bodyPost_ret (v := .tuple #[.agg #[.int .i64 F, .int .i64 sp], .bool true]) (by simp [results, Tryd.results28, go_sem, e0, e1]) rfl ⟨HRR.out, hz.out⟩
                · have hne := bytes_ne hms
                  have HRR := Lib.hid (congrArg Ending.returned (HQ2.out rfl hms).symm)
                  clear HQ1 HQ2 HQ3
                  go_wp2
                  change bodyPost _ _ _ _ _ (putB w3 w.heap.size 0 0)
                  obtain ⟨⟨e0, e1⟩, _⟩ := (HB4.out.put (f := 0) (s := 0)).cells
                  have hz := Lib.hid (putB_below (f := 0) (s := 0) hb4.out (Nat.le_refl w.heap.size))
                  generalize putB w3 w.heap.size 0 0 = wz at *
                  exact bodyPost_ret (v := .tuple #[.agg #[.int .i64 0, .int .i64 0], .bool false]) (by simp [results, Tryd.results28, go_sem, e0, e1]) rfl ⟨HRR.out, hz.out⟩
        · go_simp
          refine hK.out _ _ ?_ (fun hHeld => ?_)
          · exact mkS.out _ (grow_trans cb (grow_alloc _ _))
          clear hK K
          refine wpAnyH_ready (rs := [6]) (by kernel_rfl) (by simp) ?_
          refine AllReadyH.cons rfl (fun K hK => ?_) AllReadyH.nil
          · go_simp
            refine hK.out _ _ ?_ (fun hHeld => ?_)
            · exact mkS.out _ (grow_trans (grow_trans cb (grow_alloc _ _)) (grow_alloc _ _))
            clear hK K
            refine wpAnyH_ready (rs := [7]) (by kernel_rfl) (by simp) ?_
            refine AllReadyH.cons rfl (fun K hK => ?_) AllReadyH.nil
            · go_simp
              go_at_call 68
              refine (HN.out _ _ _ (grow_trans hb1.out (grow_trans (grow_trans cb (grow_alloc _ _)) (grow_alloc _ _))) (ho.out.below (grow_trans (grow_trans cb (grow_alloc _ _)) (grow_alloc _ _))) (Sl.boxAt (hp2 _ _ _))).mono ?_
              rintro e wn ⟨vn, rfl, hon, hbn⟩
              obtain ⟨A2, c2, rfl, hA2⟩ := own_form hon
              obtain ⟨gn, rfl, hgn, _⟩ := hA2 (by omega)
              have kn := hon.cellAt 0 (by omega)
              simp only [List.getElem?_cons_zero] at kn
              clear hon hA2
              have hBn := box_ne ((BoxB.new _ w1.heap.size (Below.size cb) 0 0).below (grow_alloc _ _)) hbn hgn
              try simp only [World.size_alloc, drew_size] at hBn
              have bx := BoxB.below ((BoxB.new _ w1.heap.size (Below.size cb) 0 0).below (grow_alloc _ _)) hbn
              try simp only [World.size_alloc, drew_size] at bx
              replace cb := grow_trans (grow_trans (grow_trans cb (grow_alloc _ _)) (grow_alloc _ _)) hbn
              refine hK.out _ _ ?_ (fun hHeld => ?_)
              · exact mkS.out _ cb
              clear hK K
              refine wpAnyH_sub (S' := fun W => W.cell? ⟨gn, 0, none⟩ = some (.int .i64 sp) ∧ Below w1.heap.size w1 W) (fun W h => mkS.out W h.2) _ _ _ _ ?_
              have hHeld : wn.cell? ⟨gn, 0, none⟩ = some (.int .i64 sp) ∧ Below w1.heap.size w1 wn := ⟨kn, cb⟩
              refine wpAnyH_take (i := 8) (v := ?_) rfl (by kernel_rfl) (by kernel_rfl) (by kernel_rfl) (fun _ _ _ h => h) (Or.inl ⟨by rfl, ?_⟩) (by assumption) ?_
              rotate_left
              · intro w hSw
                try dsimp only at hSw
                go_simp
                try (with_reducible rfl)
              try simp only [Act.put, List.setIfInBounds_toArray, List.set_cons_zero, List.set_cons_succ]
              refine wpAnyH_take (i := 9) (v := ?_) rfl (by kernel_rfl) (by kernel_rfl) (by kernel_rfl) (fun _ _ _ h => h) (Or.inl ⟨by rfl, ?_⟩) (by assumption) ?_
              rotate_left
              · intro w hSw
                try dsimp only at hSw
                go_simp
                try (with_reducible rfl)
              try simp only [Act.put, List.setIfInBounds_toArray, List.set_cons_zero, List.set_cons_succ]
              refine wpAnyH_take (i := 10) (v := ?_) rfl (by kernel_rfl) (by kernel_rfl) (by kernel_rfl) (fun _ _ _ h => h) (Or.inl ⟨by rfl, ?_⟩) (by assumption) ?_
              rotate_left
              · intro w hSw
                try dsimp only at hSw
                go_simp
                try (with_reducible rfl)
              try simp only [Act.put, List.setIfInBounds_toArray, List.set_cons_zero, List.set_cons_succ]
              obtain ⟨⟨bx0, bx1⟩, bf0, bf1⟩ := bx.cells
              have hge := (World.ownsRow.lt bx _ rfl).1
              have hB2 := (bx.set0 F).set1 sp
              have cb2 := (cb.setCell (p := ⟨_, 0, none⟩) hge (.int .i64 F)).setCell (p := ⟨_, 1, none⟩) hge (.int .i64 sp)
              refine wpAnyH_ready (rs := [12]) (by kernel_rfl) (by simp) (AllReadyH.cons rfl (fun K hK => ?_) AllReadyH.nil)
              go_simp
              refine hK.out _ _ ?_ (fun hHeld => ?_)
              · refine ⟨?_, cb2⟩
                rw [World.cell?_setCell_far _ _ _ _ hBn, World.cell?_setCell_far _ _ _ _ hBn]
                exact kn
              clear hK K
              refine wpAnyH_done (by kernel_rfl) ?_ _
              have hb := Lib.hid (grow_trans hb1.out cb2)
              have HB2 := Lib.hid (HB1.out.below cb2)
              obtain ⟨⟨d0, d1⟩, _⟩ := hB2.cells
              have hB3 := Lib.hid hB2
              clear hB2 cb2 cb hHeld kn mkS ho HN HI HD
              go_wp2_with fail
              clear d0 d1
              refine (HF.out _ hb.out).mono ?_
              rintro e w3 ⟨rfl, hbz⟩
              obtain ⟨⟨d0, d1⟩, _⟩ := (hB3.out.below hbz).cells
              have HB4 := Lib.hid (HB2.out.below hbz)
              have hb4 := Lib.hid (grow_trans hb.out hbz)
              obtain ⟨⟨c0, c1⟩, f0, f1⟩ := HB4.out.cells
              clear hbz HB2 hb hB3 HF
              cases b with
              | false =>
                have HRR := Lib.hid (congrArg Ending.returned (HQ1.out rfl).symm)
                clear HQ1 HQ2 HQ3
                go_wp2
                change bodyPost _ _ _ _ _ (putB w3 w.heap.size 0 0)
                obtain ⟨⟨e0, e1⟩, _⟩ := (HB4.out.put (f := 0) (s := 0)).cells
                have hz := Lib.hid (putB_below (f := 0) (s := 0) hb4.out (Nat.le_refl w.heap.size))
                generalize putB w3 w.heap.size 0 0 = wz at *
                exact bodyPost_ret (v := .tuple #[.agg #[.int .i64 0, .int .i64 0], .bool false]) (by simp [results, Tryd.results28, go_sem, e0, e1]) rfl ⟨HRR.out, hz.out⟩
              | true =>
                by_cases hms : m = s
                · have hq' : (m.toList == s.toList) = true := by rw [hms]; simp
                  have HRR := Lib.hid (congrArg Ending.returned (HQ3.out rfl hms).symm)
                  clear HQ1 HQ2 HQ3
                  go_wp2
                  change bodyPost _ _ _ _ _ (putB w3 w.heap.size F sp)
                  obtain ⟨⟨e0, e1⟩, _⟩ := (HB4.out.put (f := F) (s := sp)).cells
                  have hz := Lib.hid (putB_below (f := F) (s := sp) hb4.out (Nat.le_refl w.heap.size))
                  generalize putB w3 w.heap.size F sp = wz at *
                  exact bodyPost_ret (v := .tuple #[.agg #[.int .i64 F, .int .i64 sp], .bool true]) (by simp [results, Tryd.results28, go_sem, e0, e1]) rfl ⟨HRR.out, hz.out⟩
                · have hne := bytes_ne hms
                  have HRR := Lib.hid (congrArg Ending.returned (HQ2.out rfl hms).symm)
                  clear HQ1 HQ2 HQ3
                  go_wp2
                  change bodyPost _ _ _ _ _ (putB w3 w.heap.size 0 0)
                  obtain ⟨⟨e0, e1⟩, _⟩ := (HB4.out.put (f := 0) (s := 0)).cells
                  have hz := Lib.hid (putB_below (f := 0) (s := 0) hb4.out (Nat.le_refl w.heap.size))
                  generalize putB w3 w.heap.size 0 0 = wz at *
                  exact bodyPost_ret (v := .tuple #[.agg #[.int .i64 0, .int .i64 0], .bool false]) (by simp [results, Tryd.results28, go_sem, e0, e1]) rfl ⟨HRR.out, hz.out⟩
      · go_simp
        refine hK.out _ _ ?_ (fun hHeld => ?_)
        · exact mkS.out _ (grow_trans cb (grow_alloc _ _))
        clear hK K
        refine wpAnyH_ready (rs := [4, 11]) (by kernel_rfl) (by simp) ?_
        refine AllReadyH.cons rfl (fun K hK => ?_) (AllReadyH.cons rfl (fun K hK => ?_) AllReadyH.nil)
        · go_simp
          go_at_call 67
          with_reducible refine (HI.out _ _ (hd8.below (grow_alloc _ _))).mono ?_
          rintro e we ⟨rfl, rfl⟩
          refine hK.out _ _ ?_ (fun hHeld => ?_)
          · exact mkS.out _ (grow_trans cb (grow_alloc _ _))
          clear hK K
          refine wpAnyH_ready (rs := [7, 11]) (by kernel_rfl) (by simp) ?_
          refine AllReadyH.cons rfl (fun K hK => ?_) (AllReadyH.cons rfl (fun K hK => ?_) AllReadyH.nil)
          · go_simp
            go_at_call 68
            refine (HN.out _ _ _ (grow_trans hb1.out (grow_trans cb (grow_alloc _ _))) (ho.out.below (grow_trans cb (grow_alloc _ _))) (Sl.boxAt (hp0 _ _))).mono ?_
            rintro e wn ⟨vn, rfl, hon, hbn⟩
            obtain ⟨A2, c2, rfl, hA2⟩ := own_form hon
            obtain ⟨gn, rfl, hgn, _⟩ := hA2 (by omega)
            have kn := hon.cellAt 0 (by omega)
            simp only [List.getElem?_cons_zero] at kn
            clear hon hA2
            replace cb := grow_trans (grow_trans cb (grow_alloc _ _)) hbn
            refine hK.out _ _ ?_ (fun hHeld => ?_)
            · exact mkS.out _ cb
            clear hK K
            refine wpAnyH_sub (S' := fun W => W.cell? ⟨gn, 0, none⟩ = some (.int .i64 sp) ∧ Below w1.heap.size w1 W) (fun W h => mkS.out W h.2) _ _ _ _ ?_
            have hHeld : wn.cell? ⟨gn, 0, none⟩ = some (.int .i64 sp) ∧ Below w1.heap.size w1 wn := ⟨kn, cb⟩
            refine wpAnyH_take (i := 8) (v := ?_) rfl (by kernel_rfl) (by kernel_rfl) (by kernel_rfl) (fun _ _ _ h => h) (Or.inl ⟨by rfl, ?_⟩) (by assumption) ?_
            rotate_left
            · intro w hSw
              try dsimp only at hSw
              go_simp
              try (with_reducible rfl)
            try simp only [Act.put, List.setIfInBounds_toArray, List.set_cons_zero, List.set_cons_succ]
            refine wpAnyH_take (i := 9) (v := ?_) rfl (by kernel_rfl) (by kernel_rfl) (by kernel_rfl) (fun _ _ _ h => h) (Or.inl ⟨by rfl, ?_⟩) (by assumption) ?_
            rotate_left
            · intro w hSw
              try dsimp only at hSw
              go_simp
              try (with_reducible rfl)
            try simp only [Act.put, List.setIfInBounds_toArray, List.set_cons_zero, List.set_cons_succ]
            refine wpAnyH_take (i := 10) (v := ?_) rfl (by kernel_rfl) (by kernel_rfl) (by kernel_rfl) (fun _ _ _ h => h) (Or.inl ⟨by rfl, ?_⟩) (by assumption) ?_
            rotate_left
            · intro w hSw
              try dsimp only at hSw
              go_simp
              try (with_reducible rfl)
            try simp only [Act.put, List.setIfInBounds_toArray, List.set_cons_zero, List.set_cons_succ]
            have hB2 := BoxB.new wn w1.heap.size (Below.size cb) F sp
            have cb2 := grow_trans cb (grow_alloc wn (.cells #[.int .i64 F, .int .i64 sp] 41))
            refine wpAnyH_ready (rs := [11]) (by kernel_rfl) (by simp) (AllReadyH.cons rfl (fun K hK => ?_) AllReadyH.nil)
            go_simp
            refine hK.out _ _ ⟨cell_grow kn (grow_alloc _ _), grow_trans cb (grow_alloc _ _)⟩ (fun hHeld => ?_)
            clear hK K
            refine wpAnyH_ready (rs := [12]) (by kernel_rfl) (by simp) (AllReadyH.cons rfl (fun K hK => ?_) AllReadyH.nil)
            go_simp
            refine hK.out _ _ ⟨cell_grow kn (grow_alloc _ _), grow_trans cb (grow_alloc _ _)⟩ (fun hHeld => ?_)
            clear hK K
            refine wpAnyH_done (by kernel_rfl) ?_ _
            have hb := Lib.hid (grow_trans hb1.out cb2)
            have HB2 := Lib.hid (HB1.out.below cb2)
            obtain ⟨⟨d0, d1⟩, _⟩ := hB2.cells
            have hB3 := Lib.hid hB2
            clear hB2 cb2 cb hHeld kn mkS ho HN HI HD
            go_wp2_with fail
            clear d0 d1
            refine (HF.out _ hb.out).mono ?_
            rintro e w3 ⟨rfl, hbz⟩
            obtain ⟨⟨d0, d1⟩, _⟩ := (hB3.out.below hbz).cells
            have HB4 := Lib.hid (HB2.out.below hbz)
            have hb4 := Lib.hid (grow_trans hb.out hbz)
            obtain ⟨⟨c0, c1⟩, f0, f1⟩ := HB4.out.cells
            clear hbz HB2 hb hB3 HF
            cases b with
            | false =>
              have HRR := Lib.hid (congrArg Ending.returned (HQ1.out rfl).symm)
              clear HQ1 HQ2 HQ3
              go_wp2
              change bodyPost _ _ _ _ _ (putB w3 w.heap.size 0 0)
              obtain ⟨⟨e0, e1⟩, _⟩ := (HB4.out.put (f := 0) (s := 0)).cells
              have hz := Lib.hid (putB_below (f := 0) (s := 0) hb4.out (Nat.le_refl w.heap.size))
              generalize putB w3 w.heap.size 0 0 = wz at *
              exact bodyPost_ret (v := .tuple #[.agg #[.int .i64 0, .int .i64 0], .bool false]) (by simp [results, Tryd.results28, go_sem, e0, e1]) rfl ⟨HRR.out, hz.out⟩
            | true =>
              by_cases hms : m = s
              · have hq' : (m.toList == s.toList) = true := by rw [hms]; simp
                have HRR := Lib.hid (congrArg Ending.returned (HQ3.out rfl hms).symm)
                clear HQ1 HQ2 HQ3
                go_wp2
                change bodyPost _ _ _ _ _ (putB w3 w.heap.size F sp)
                obtain ⟨⟨e0, e1⟩, _⟩ := (HB4.out.put (f := F) (s := sp)).cells
                have hz := Lib.hid (putB_below (f := F) (s := sp) hb4.out (Nat.le_refl w.heap.size))
                generalize putB w3 w.heap.size F sp = wz at *
                exact bodyPost_ret (v := .tuple #[.agg #[.int .i64 F, .int .i64 sp], .bool true]) (by simp [results, Tryd.results28, go_sem, e0, e1]) rfl ⟨HRR.out, hz.out⟩
              · have hne := bytes_ne hms
                have HRR := Lib.hid (congrArg Ending.returned (HQ2.out rfl hms).symm)
                clear HQ1 HQ2 HQ3
                go_wp2
                change bodyPost _ _ _ _ _ (putB w3 w.heap.size 0 0)
                obtain ⟨⟨e0, e1⟩, _⟩ := (HB4.out.put (f := 0) (s := 0)).cells
                have hz := Lib.hid (putB_below (f := 0) (s := 0) hb4.out (Nat.le_refl w.heap.size))
                generalize putB w3 w.heap.size 0 0 = wz at *
                exact bodyPost_ret (v := .tuple #[.agg #[.int .i64 0, .int .i64 0], .bool false]) (by simp [results, Tryd.results28, go_sem, e0, e1]) rfl ⟨HRR.out, hz.out⟩
          · go_simp
            refine hK.out _ _ ?_ (fun hHeld => ?_)
            · exact mkS.out _ (grow_trans (grow_trans cb (grow_alloc _ _)) (grow_alloc _ _))
            clear hK K
            refine wpAnyH_ready (rs := [7]) (by kernel_rfl) (by simp) ?_
            refine AllReadyH.cons rfl (fun K hK => ?_) AllReadyH.nil
            · go_simp
              go_at_call 68
              refine (HN.out _ _ _ (grow_trans hb1.out (grow_trans (grow_trans cb (grow_alloc _ _)) (grow_alloc _ _))) (ho.out.below (grow_trans (grow_trans cb (grow_alloc _ _)) (grow_alloc _ _))) (Sl.boxAt (hp1 _ _ _))).mono ?_
              rintro e wn ⟨vn, rfl, hon, hbn⟩
              obtain ⟨A2, c2, rfl, hA2⟩ := own_form hon
              obtain ⟨gn, rfl, hgn, _⟩ := hA2 (by omega)
              have kn := hon.cellAt 0 (by omega)
              simp only [List.getElem?_cons_zero] at kn
              clear hon hA2
              have hBn := box_ne (BoxB.new _ w1.heap.size (Below.size (grow_trans cb (grow_alloc _ _))) 0 0) hbn hgn
              try simp only [World.size_alloc, drew_size] at hBn
              have bx := BoxB.below (BoxB.new _ w1.heap.size (Below.size (grow_trans cb (grow_alloc _ _))) 0 0) hbn
              try simp only [World.size_alloc, drew_size] at bx
              replace cb := grow_trans (grow_trans (grow_trans cb (grow_alloc _ _)) (grow_alloc _ _)) hbn
              refine hK.out _ _ ?_ (fun hHeld => ?_)
              · exact mkS.out _ cb
              clear hK K
              refine wpAnyH_sub (S' := fun W => W.cell? ⟨gn, 0, none⟩ = some (.int .i64 sp) ∧ Below w1.heap.size w1 W) (fun W h => mkS.out W h.2) _ _ _ _ ?_
              have hHeld : wn.cell? ⟨gn, 0, none⟩ = some (.int .i64 sp) ∧ Below w1.heap.size w1 wn := ⟨kn, cb⟩
              refine wpAnyH_take (i := 8) (v := ?_) rfl (by kernel_rfl) (by kernel_rfl) (by kernel_rfl) (fun _ _ _ h => h) (Or.inl ⟨by rfl, ?_⟩) (by assumption) ?_
              rotate_left
              · intro w hSw
                try dsimp only at hSw
                go_simp
                try (with_reducible rfl)
              try simp only [Act.put, List.setIfInBounds_toArray, List.set_cons_zero, List.set_cons_succ]
              refine wpAnyH_take (i := 9) (v := ?_) rfl (by kernel_rfl) (by kernel_rfl) (by kernel_rfl) (fun _ _ _ h => h) (Or.inl ⟨by rfl, ?_⟩) (by assumption) ?_
              rotate_left
              · intro w hSw
                try dsimp only at hSw
                go_simp
                try (with_reducible rfl)
              try simp only [Act.put, List.setIfInBounds_toArray, List.set_cons_zero, List.set_cons_succ]
              refine wpAnyH_take (i := 10) (v := ?_) rfl (by kernel_rfl) (by kernel_rfl) (by kernel_rfl) (fun _ _ _ h => h) (Or.inl ⟨by rfl, ?_⟩) (by assumption) ?_
              rotate_left
              · intro w hSw
                try dsimp only at hSw
                go_simp
                try (with_reducible rfl)
              try simp only [Act.put, List.setIfInBounds_toArray, List.set_cons_zero, List.set_cons_succ]
              obtain ⟨⟨bx0, bx1⟩, bf0, bf1⟩ := bx.cells
              have hge := (World.ownsRow.lt bx _ rfl).1
              have hB2 := (bx.set0 F).set1 sp
              have cb2 := (cb.setCell (p := ⟨_, 0, none⟩) hge (.int .i64 F)).setCell (p := ⟨_, 1, none⟩) hge (.int .i64 sp)
              refine wpAnyH_ready (rs := [12]) (by kernel_rfl) (by simp) (AllReadyH.cons rfl (fun K hK => ?_) AllReadyH.nil)
              go_simp
              refine hK.out _ _ ?_ (fun hHeld => ?_)
              · refine ⟨?_, cb2⟩
                rw [World.cell?_setCell_far _ _ _ _ hBn, World.cell?_setCell_far _ _ _ _ hBn]
                exact kn
              clear hK K
              refine wpAnyH_done (by kernel_rfl) ?_ _
              have hb := Lib.hid (grow_trans hb1.out cb2)
              have HB2 := Lib.hid (HB1.out.below cb2)
              obtain ⟨⟨d0, d1⟩, _⟩ := hB2.cells
              have hB3 := Lib.hid hB2
              clear hB2 cb2 cb hHeld kn mkS ho HN HI HD
              go_wp2_with fail
              clear d0 d1
              refine (HF.out _ hb.out).mono ?_
              rintro e w3 ⟨rfl, hbz⟩
              obtain ⟨⟨d0, d1⟩, _⟩ := (hB3.out.below hbz).cells
              have HB4 := Lib.hid (HB2.out.below hbz)
              have hb4 := Lib.hid (grow_trans hb.out hbz)
              obtain ⟨⟨c0, c1⟩, f0, f1⟩ := HB4.out.cells
              clear hbz HB2 hb hB3 HF
              cases b with
              | false =>
                have HRR := Lib.hid (congrArg Ending.returned (HQ1.out rfl).symm)
                clear HQ1 HQ2 HQ3
                go_wp2
                change bodyPost _ _ _ _ _ (putB w3 w.heap.size 0 0)
                obtain ⟨⟨e0, e1⟩, _⟩ := (HB4.out.put (f := 0) (s := 0)).cells
                have hz := Lib.hid (putB_below (f := 0) (s := 0) hb4.out (Nat.le_refl w.heap.size))
                generalize putB w3 w.heap.size 0 0 = wz at *
                exact bodyPost_ret (v := .tuple #[.agg #[.int .i64 0, .int .i64 0], .bool false]) (by simp [results, Tryd.results28, go_sem, e0, e1]) rfl ⟨HRR.out, hz.out⟩
              | true =>
                by_cases hms : m = s
                · have hq' : (m.toList == s.toList) = true := by rw [hms]; simp
                  have HRR := Lib.hid (congrArg Ending.returned (HQ3.out rfl hms).symm)
                  clear HQ1 HQ2 HQ3
                  go_wp2
                  change bodyPost _ _ _ _ _ (putB w3 w.heap.size F sp)
                  obtain ⟨⟨e0, e1⟩, _⟩ := (HB4.out.put (f := F) (s := sp)).cells
                  have hz := Lib.hid (putB_below (f := F) (s := sp) hb4.out (Nat.le_refl w.heap.size))
                  generalize putB w3 w.heap.size F sp = wz at *
                  exact bodyPost_ret (v := .tuple #[.agg #[.int .i64 F, .int .i64 sp], .bool true]) (by simp [results, Tryd.results28, go_sem, e0, e1]) rfl ⟨HRR.out, hz.out⟩
                · have hne := bytes_ne hms
                  have HRR := Lib.hid (congrArg Ending.returned (HQ2.out rfl hms).symm)
                  clear HQ1 HQ2 HQ3
                  go_wp2
                  change bodyPost _ _ _ _ _ (putB w3 w.heap.size 0 0)
                  obtain ⟨⟨e0, e1⟩, _⟩ := (HB4.out.put (f := 0) (s := 0)).cells
                  have hz := Lib.hid (putB_below (f := 0) (s := 0) hb4.out (Nat.le_refl w.heap.size))
                  generalize putB w3 w.heap.size 0 0 = wz at *
                  exact bodyPost_ret (v := .tuple #[.agg #[.int .i64 0, .int .i64 0], .bool false]) (by simp [results, Tryd.results28, go_sem, e0, e1]) rfl ⟨HRR.out, hz.out⟩
        · go_simp
          refine hK.out _ _ ?_ (fun hHeld => ?_)
          · exact mkS.out _ (grow_trans (grow_trans cb (grow_alloc _ _)) (grow_alloc _ _))
          clear hK K
          refine wpAnyH_ready (rs := [4]) (by kernel_rfl) (by simp) ?_
          refine AllReadyH.cons rfl (fun K hK => ?_) AllReadyH.nil
          · go_simp
            go_at_call 67
            with_reducible refine (HI.out _ _ ((hd8.below (grow_alloc _ _)).below (grow_alloc _ _))).mono ?_
            rintro e we ⟨rfl, rfl⟩
            refine hK.out _ _ ?_ (fun hHeld => ?_)
            · exact mkS.out _ (grow_trans (grow_trans cb (grow_alloc _ _)) (grow_alloc _ _))
            clear hK K
            refine wpAnyH_ready (rs := [7]) (by kernel_rfl) (by simp) ?_
            refine AllReadyH.cons rfl (fun K hK => ?_) AllReadyH.nil
            · go_simp
              go_at_call 68
              refine (HN.out _ _ _ (grow_trans hb1.out (grow_trans (grow_trans cb (grow_alloc _ _)) (grow_alloc _ _))) (ho.out.below (grow_trans (grow_trans cb (grow_alloc _ _)) (grow_alloc _ _))) (Sl.boxAt (hp1 _ _ _))).mono ?_
              rintro e wn ⟨vn, rfl, hon, hbn⟩
              obtain ⟨A2, c2, rfl, hA2⟩ := own_form hon
              obtain ⟨gn, rfl, hgn, _⟩ := hA2 (by omega)
              have kn := hon.cellAt 0 (by omega)
              simp only [List.getElem?_cons_zero] at kn
              clear hon hA2
              have hBn := box_ne (BoxB.new _ w1.heap.size (Below.size (grow_trans cb (grow_alloc _ _))) 0 0) hbn hgn
              try simp only [World.size_alloc, drew_size] at hBn
              have bx := BoxB.below (BoxB.new _ w1.heap.size (Below.size (grow_trans cb (grow_alloc _ _))) 0 0) hbn
              try simp only [World.size_alloc, drew_size] at bx
              replace cb := grow_trans (grow_trans (grow_trans cb (grow_alloc _ _)) (grow_alloc _ _)) hbn
              refine hK.out _ _ ?_ (fun hHeld => ?_)
              · exact mkS.out _ cb
              clear hK K
              refine wpAnyH_sub (S' := fun W => W.cell? ⟨gn, 0, none⟩ = some (.int .i64 sp) ∧ Below w1.heap.size w1 W) (fun W h => mkS.out W h.2) _ _ _ _ ?_
              have hHeld : wn.cell? ⟨gn, 0, none⟩ = some (.int .i64 sp) ∧ Below w1.heap.size w1 wn := ⟨kn, cb⟩
              refine wpAnyH_take (i := 8) (v := ?_) rfl (by kernel_rfl) (by kernel_rfl) (by kernel_rfl) (fun _ _ _ h => h) (Or.inl ⟨by rfl, ?_⟩) (by assumption) ?_
              rotate_left
              · intro w hSw
                try dsimp only at hSw
                go_simp
                try (with_reducible rfl)
              try simp only [Act.put, List.setIfInBounds_toArray, List.set_cons_zero, List.set_cons_succ]
              refine wpAnyH_take (i := 9) (v := ?_) rfl (by kernel_rfl) (by kernel_rfl) (by kernel_rfl) (fun _ _ _ h => h) (Or.inl ⟨by rfl, ?_⟩) (by assumption) ?_
              rotate_left
              · intro w hSw
                try dsimp only at hSw
                go_simp
                try (with_reducible rfl)
              try simp only [Act.put, List.setIfInBounds_toArray, List.set_cons_zero, List.set_cons_succ]
              refine wpAnyH_take (i := 10) (v := ?_) rfl (by kernel_rfl) (by kernel_rfl) (by kernel_rfl) (fun _ _ _ h => h) (Or.inl ⟨by rfl, ?_⟩) (by assumption) ?_
              rotate_left
              · intro w hSw
                try dsimp only at hSw
                go_simp
                try (with_reducible rfl)
              try simp only [Act.put, List.setIfInBounds_toArray, List.set_cons_zero, List.set_cons_succ]
              obtain ⟨⟨bx0, bx1⟩, bf0, bf1⟩ := bx.cells
              have hge := (World.ownsRow.lt bx _ rfl).1
              have hB2 := (bx.set0 F).set1 sp
              have cb2 := (cb.setCell (p := ⟨_, 0, none⟩) hge (.int .i64 F)).setCell (p := ⟨_, 1, none⟩) hge (.int .i64 sp)
              refine wpAnyH_ready (rs := [12]) (by kernel_rfl) (by simp) (AllReadyH.cons rfl (fun K hK => ?_) AllReadyH.nil)
              go_simp
              refine hK.out _ _ ?_ (fun hHeld => ?_)
              · refine ⟨?_, cb2⟩
                rw [World.cell?_setCell_far _ _ _ _ hBn, World.cell?_setCell_far _ _ _ _ hBn]
                exact kn
              clear hK K
              refine wpAnyH_done (by kernel_rfl) ?_ _
              have hb := Lib.hid (grow_trans hb1.out cb2)
              have HB2 := Lib.hid (HB1.out.below cb2)
              obtain ⟨⟨d0, d1⟩, _⟩ := hB2.cells
              have hB3 := Lib.hid hB2
              clear hB2 cb2 cb hHeld kn mkS ho HN HI HD
              go_wp2_with fail
              clear d0 d1
              refine (HF.out _ hb.out).mono ?_
              rintro e w3 ⟨rfl, hbz⟩
              obtain ⟨⟨d0, d1⟩, _⟩ := (hB3.out.below hbz).cells
              have HB4 := Lib.hid (HB2.out.below hbz)
              have hb4 := Lib.hid (grow_trans hb.out hbz)
              obtain ⟨⟨c0, c1⟩, f0, f1⟩ := HB4.out.cells
              clear hbz HB2 hb hB3 HF
              cases b with
              | false =>
                have HRR := Lib.hid (congrArg Ending.returned (HQ1.out rfl).symm)
                clear HQ1 HQ2 HQ3
                go_wp2
                change bodyPost _ _ _ _ _ (putB w3 w.heap.size 0 0)
                obtain ⟨⟨e0, e1⟩, _⟩ := (HB4.out.put (f := 0) (s := 0)).cells
                have hz := Lib.hid (putB_below (f := 0) (s := 0) hb4.out (Nat.le_refl w.heap.size))
                generalize putB w3 w.heap.size 0 0 = wz at *
                exact bodyPost_ret (v := .tuple #[.agg #[.int .i64 0, .int .i64 0], .bool false]) (by simp [results, Tryd.results28, go_sem, e0, e1]) rfl ⟨HRR.out, hz.out⟩
              | true =>
                by_cases hms : m = s
                · have hq' : (m.toList == s.toList) = true := by rw [hms]; simp
                  have HRR := Lib.hid (congrArg Ending.returned (HQ3.out rfl hms).symm)
                  clear HQ1 HQ2 HQ3
                  go_wp2
                  change bodyPost _ _ _ _ _ (putB w3 w.heap.size F sp)
                  obtain ⟨⟨e0, e1⟩, _⟩ := (HB4.out.put (f := F) (s := sp)).cells
                  have hz := Lib.hid (putB_below (f := F) (s := sp) hb4.out (Nat.le_refl w.heap.size))
                  generalize putB w3 w.heap.size F sp = wz at *
                  exact bodyPost_ret (v := .tuple #[.agg #[.int .i64 F, .int .i64 sp], .bool true]) (by simp [results, Tryd.results28, go_sem, e0, e1]) rfl ⟨HRR.out, hz.out⟩
                · have hne := bytes_ne hms
                  have HRR := Lib.hid (congrArg Ending.returned (HQ2.out rfl hms).symm)
                  clear HQ1 HQ2 HQ3
                  go_wp2
                  change bodyPost _ _ _ _ _ (putB w3 w.heap.size 0 0)
                  obtain ⟨⟨e0, e1⟩, _⟩ := (HB4.out.put (f := 0) (s := 0)).cells
                  have hz := Lib.hid (putB_below (f := 0) (s := 0) hb4.out (Nat.le_refl w.heap.size))
                  generalize putB w3 w.heap.size 0 0 = wz at *
                  exact bodyPost_ret (v := .tuple #[.agg #[.int .i64 0, .int .i64 0], .bool false]) (by simp [results, Tryd.results28, go_sem, e0, e1]) rfl ⟨HRR.out, hz.out⟩
      · go_simp
        refine hK.out _ _ ?_ (fun hHeld => ?_)
        · exact mkS.out _ (grow_trans cb (grow_alloc _ _))
        clear hK K
        refine wpAnyH_ready (rs := [4, 6]) (by kernel_rfl) (by simp) ?_
        refine AllReadyH.cons rfl (fun K hK => ?_) (AllReadyH.cons rfl (fun K hK => ?_) AllReadyH.nil)
        · go_simp
          go_at_call 67
          with_reducible refine (HI.out _ _ (hd8.below (grow_alloc _ _))).mono ?_
          rintro e we ⟨rfl, rfl⟩
          refine hK.out _ _ ?_ (fun hHeld => ?_)
          · exact mkS.out _ (grow_trans cb (grow_alloc _ _))
          clear hK K
          refine wpAnyH_ready (rs := [6]) (by kernel_rfl) (by simp) ?_
          refine AllReadyH.cons rfl (fun K hK => ?_) AllReadyH.nil
          · go_simp
            refine hK.out _ _ ?_ (fun hHeld => ?_)
            · exact mkS.out _ (grow_trans (grow_trans cb (grow_alloc _ _)) (grow_alloc _ _))
            clear hK K
            refine wpAnyH_ready (rs := [7]) (by kernel_rfl) (by simp) ?_
            refine AllReadyH.cons rfl (fun K hK => ?_) AllReadyH.nil
            · go_simp
              go_at_call 68
              refine (HN.out _ _ _ (grow_trans hb1.out (grow_trans (grow_trans cb (grow_alloc _ _)) (grow_alloc _ _))) (ho.out.below (grow_trans (grow_trans cb (grow_alloc _ _)) (grow_alloc _ _))) (Sl.boxAt (hp2 _ _ _))).mono ?_
              rintro e wn ⟨vn, rfl, hon, hbn⟩
              obtain ⟨A2, c2, rfl, hA2⟩ := own_form hon
              obtain ⟨gn, rfl, hgn, _⟩ := hA2 (by omega)
              have kn := hon.cellAt 0 (by omega)
              simp only [List.getElem?_cons_zero] at kn
              clear hon hA2
              have hBn := box_ne ((BoxB.new _ w1.heap.size (Below.size cb) 0 0).below (grow_alloc _ _)) hbn hgn
              try simp only [World.size_alloc, drew_size] at hBn
              have bx := BoxB.below ((BoxB.new _ w1.heap.size (Below.size cb) 0 0).below (grow_alloc _ _)) hbn
              try simp only [World.size_alloc, drew_size] at bx
              replace cb := grow_trans (grow_trans (grow_trans cb (grow_alloc _ _)) (grow_alloc _ _)) hbn
              refine hK.out _ _ ?_ (fun hHeld => ?_)
              · exact mkS.out _ cb
              clear hK K
              refine wpAnyH_sub (S' := fun W => W.cell? ⟨gn, 0, none⟩ = some (.int .i64 sp) ∧ Below w1.heap.size w1 W) (fun W h => mkS.out W h.2) _ _ _ _ ?_
              have hHeld : wn.cell? ⟨gn, 0, none⟩ = some (.int .i64 sp) ∧ Below w1.heap.size w1 wn := ⟨kn, cb⟩
              refine wpAnyH_take (i := 8) (v := ?_) rfl (by kernel_rfl) (by kernel_rfl) (by kernel_rfl) (fun _ _ _ h => h) (Or.inl ⟨by rfl, ?_⟩) (by assumption) ?_
              rotate_left
              · intro w hSw
                try dsimp only at hSw
                go_simp
                try (with_reducible rfl)
              try simp only [Act.put, List.setIfInBounds_toArray, List.set_cons_zero, List.set_cons_succ]
              refine wpAnyH_take (i := 9) (v := ?_) rfl (by kernel_rfl) (by kernel_rfl) (by kernel_rfl) (fun _ _ _ h => h) (Or.inl ⟨by rfl, ?_⟩) (by assumption) ?_
              rotate_left
              · intro w hSw
                try dsimp only at hSw
                go_simp
                try (with_reducible rfl)
              try simp only [Act.put, List.setIfInBounds_toArray, List.set_cons_zero, List.set_cons_succ]
              refine wpAnyH_take (i := 10) (v := ?_) rfl (by kernel_rfl) (by kernel_rfl) (by kernel_rfl) (fun _ _ _ h => h) (Or.inl ⟨by rfl, ?_⟩) (by assumption) ?_
              rotate_left
              · intro w hSw
                try dsimp only at hSw
                go_simp
                try (with_reducible rfl)
              try simp only [Act.put, List.setIfInBounds_toArray, List.set_cons_zero, List.set_cons_succ]
              obtain ⟨⟨bx0, bx1⟩, bf0, bf1⟩ := bx.cells
              have hge := (World.ownsRow.lt bx _ rfl).1
              have hB2 := (bx.set0 F).set1 sp
              have cb2 := (cb.setCell (p := ⟨_, 0, none⟩) hge (.int .i64 F)).setCell (p := ⟨_, 1, none⟩) hge (.int .i64 sp)
              refine wpAnyH_ready (rs := [12]) (by kernel_rfl) (by simp) (AllReadyH.cons rfl (fun K hK => ?_) AllReadyH.nil)
              go_simp
              refine hK.out _ _ ?_ (fun hHeld => ?_)
              · refine ⟨?_, cb2⟩
                rw [World.cell?_setCell_far _ _ _ _ hBn, World.cell?_setCell_far _ _ _ _ hBn]
                exact kn
              clear hK K
              refine wpAnyH_done (by kernel_rfl) ?_ _
              have hb := Lib.hid (grow_trans hb1.out cb2)
              have HB2 := Lib.hid (HB1.out.below cb2)
              obtain ⟨⟨d0, d1⟩, _⟩ := hB2.cells
              have hB3 := Lib.hid hB2
              clear hB2 cb2 cb hHeld kn mkS ho HN HI HD
              go_wp2_with fail
              clear d0 d1
              refine (HF.out _ hb.out).mono ?_
              rintro e w3 ⟨rfl, hbz⟩
              obtain ⟨⟨d0, d1⟩, _⟩ := (hB3.out.below hbz).cells
              have HB4 := Lib.hid (HB2.out.below hbz)
              have hb4 := Lib.hid (grow_trans hb.out hbz)
              obtain ⟨⟨c0, c1⟩, f0, f1⟩ := HB4.out.cells
              clear hbz HB2 hb hB3 HF
              cases b with
              | false =>
                have HRR := Lib.hid (congrArg Ending.returned (HQ1.out rfl).symm)
                clear HQ1 HQ2 HQ3
                go_wp2
                change bodyPost _ _ _ _ _ (putB w3 w.heap.size 0 0)
                obtain ⟨⟨e0, e1⟩, _⟩ := (HB4.out.put (f := 0) (s := 0)).cells
                have hz := Lib.hid (putB_below (f := 0) (s := 0) hb4.out (Nat.le_refl w.heap.size))
                generalize putB w3 w.heap.size 0 0 = wz at *
                exact bodyPost_ret (v := .tuple #[.agg #[.int .i64 0, .int .i64 0], .bool false]) (by simp [results, Tryd.results28, go_sem, e0, e1]) rfl ⟨HRR.out, hz.out⟩
              | true =>
                by_cases hms : m = s
                · have hq' : (m.toList == s.toList) = true := by rw [hms]; simp
                  have HRR := Lib.hid (congrArg Ending.returned (HQ3.out rfl hms).symm)
                  clear HQ1 HQ2 HQ3
                  go_wp2
                  change bodyPost _ _ _ _ _ (putB w3 w.heap.size F sp)
                  obtain ⟨⟨e0, e1⟩, _⟩ := (HB4.out.put (f := F) (s := sp)).cells
                  have hz := Lib.hid (putB_below (f := F) (s := sp) hb4.out (Nat.le_refl w.heap.size))
                  generalize putB w3 w.heap.size F sp = wz at *
                  exact bodyPost_ret (v := .tuple #[.agg #[.int .i64 F, .int .i64 sp], .bool true]) (by simp [results, Tryd.results28, go_sem, e0, e1]) rfl ⟨HRR.out, hz.out⟩
                · have hne := bytes_ne hms
                  have HRR := Lib.hid (congrArg Ending.returned (HQ2.out rfl hms).symm)
                  clear HQ1 HQ2 HQ3
                  go_wp2
                  change bodyPost _ _ _ _ _ (putB w3 w.heap.size 0 0)
                  obtain ⟨⟨e0, e1⟩, _⟩ := (HB4.out.put (f := 0) (s := 0)).cells
                  have hz := Lib.hid (putB_below (f := 0) (s := 0) hb4.out (Nat.le_refl w.heap.size))
                  generalize putB w3 w.heap.size 0 0 = wz at *
                  exact bodyPost_ret (v := .tuple #[.agg #[.int .i64 0, .int .i64 0], .bool false]) (by simp [results, Tryd.results28, go_sem, e0, e1]) rfl ⟨HRR.out, hz.out⟩
        · go_simp
          refine hK.out _ _ ?_ (fun hHeld => ?_)
          · exact mkS.out _ (grow_trans (grow_trans cb (grow_alloc _ _)) (grow_alloc _ _))
          clear hK K
          refine wpAnyH_ready (rs := [4]) (by kernel_rfl) (by simp) ?_
          refine AllReadyH.cons rfl (fun K hK => ?_) AllReadyH.nil
          · go_simp
            go_at_call 67
            with_reducible refine (HI.out _ _ ((hd8.below (grow_alloc _ _)).below (grow_alloc _ _))).mono ?_
            rintro e we ⟨rfl, rfl⟩
            refine hK.out _ _ ?_ (fun hHeld => ?_)
            · exact mkS.out _ (grow_trans (grow_trans cb (grow_alloc _ _)) (grow_alloc _ _))
            clear hK K
            refine wpAnyH_ready (rs := [7]) (by kernel_rfl) (by simp) ?_
            refine AllReadyH.cons rfl (fun K hK => ?_) AllReadyH.nil
            · go_simp
              go_at_call 68
              refine (HN.out _ _ _ (grow_trans hb1.out (grow_trans (grow_trans cb (grow_alloc _ _)) (grow_alloc _ _))) (ho.out.below (grow_trans (grow_trans cb (grow_alloc _ _)) (grow_alloc _ _))) (Sl.boxAt (hp2 _ _ _))).mono ?_
              rintro e wn ⟨vn, rfl, hon, hbn⟩
              obtain ⟨A2, c2, rfl, hA2⟩ := own_form hon
              obtain ⟨gn, rfl, hgn, _⟩ := hA2 (by omega)
              have kn := hon.cellAt 0 (by omega)
              simp only [List.getElem?_cons_zero] at kn
              clear hon hA2
              have hBn := box_ne ((BoxB.new _ w1.heap.size (Below.size cb) 0 0).below (grow_alloc _ _)) hbn hgn
              try simp only [World.size_alloc, drew_size] at hBn
              have bx := BoxB.below ((BoxB.new _ w1.heap.size (Below.size cb) 0 0).below (grow_alloc _ _)) hbn
              try simp only [World.size_alloc, drew_size] at bx
              replace cb := grow_trans (grow_trans (grow_trans cb (grow_alloc _ _)) (grow_alloc _ _)) hbn
              refine hK.out _ _ ?_ (fun hHeld => ?_)
              · exact mkS.out _ cb
              clear hK K
              refine wpAnyH_sub (S' := fun W => W.cell? ⟨gn, 0, none⟩ = some (.int .i64 sp) ∧ Below w1.heap.size w1 W) (fun W h => mkS.out W h.2) _ _ _ _ ?_
              have hHeld : wn.cell? ⟨gn, 0, none⟩ = some (.int .i64 sp) ∧ Below w1.heap.size w1 wn := ⟨kn, cb⟩
              refine wpAnyH_take (i := 8) (v := ?_) rfl (by kernel_rfl) (by kernel_rfl) (by kernel_rfl) (fun _ _ _ h => h) (Or.inl ⟨by rfl, ?_⟩) (by assumption) ?_
              rotate_left
              · intro w hSw
                try dsimp only at hSw
                go_simp
                try (with_reducible rfl)
              try simp only [Act.put, List.setIfInBounds_toArray, List.set_cons_zero, List.set_cons_succ]
              refine wpAnyH_take (i := 9) (v := ?_) rfl (by kernel_rfl) (by kernel_rfl) (by kernel_rfl) (fun _ _ _ h => h) (Or.inl ⟨by rfl, ?_⟩) (by assumption) ?_
              rotate_left
              · intro w hSw
                try dsimp only at hSw
                go_simp
                try (with_reducible rfl)
              try simp only [Act.put, List.setIfInBounds_toArray, List.set_cons_zero, List.set_cons_succ]
              refine wpAnyH_take (i := 10) (v := ?_) rfl (by kernel_rfl) (by kernel_rfl) (by kernel_rfl) (fun _ _ _ h => h) (Or.inl ⟨by rfl, ?_⟩) (by assumption) ?_
              rotate_left
              · intro w hSw
                try dsimp only at hSw
                go_simp
                try (with_reducible rfl)
              try simp only [Act.put, List.setIfInBounds_toArray, List.set_cons_zero, List.set_cons_succ]
              obtain ⟨⟨bx0, bx1⟩, bf0, bf1⟩ := bx.cells
              have hge := (World.ownsRow.lt bx _ rfl).1
              have hB2 := (bx.set0 F).set1 sp
              have cb2 := (cb.setCell (p := ⟨_, 0, none⟩) hge (.int .i64 F)).setCell (p := ⟨_, 1, none⟩) hge (.int .i64 sp)
              refine wpAnyH_ready (rs := [12]) (by kernel_rfl) (by simp) (AllReadyH.cons rfl (fun K hK => ?_) AllReadyH.nil)
              go_simp
              refine hK.out _ _ ?_ (fun hHeld => ?_)
              · refine ⟨?_, cb2⟩
                rw [World.cell?_setCell_far _ _ _ _ hBn, World.cell?_setCell_far _ _ _ _ hBn]
                exact kn
              clear hK K
              refine wpAnyH_done (by kernel_rfl) ?_ _
              have hb := Lib.hid (grow_trans hb1.out cb2)
              have HB2 := Lib.hid (HB1.out.below cb2)
              obtain ⟨⟨d0, d1⟩, _⟩ := hB2.cells
              have hB3 := Lib.hid hB2
              clear hB2 cb2 cb hHeld kn mkS ho HN HI HD
              go_wp2_with fail
              clear d0 d1
              refine (HF.out _ hb.out).mono ?_
              rintro e w3 ⟨rfl, hbz⟩
              obtain ⟨⟨d0, d1⟩, _⟩ := (hB3.out.below hbz).cells
              have HB4 := Lib.hid (HB2.out.below hbz)
              have hb4 := Lib.hid (grow_trans hb.out hbz)
              obtain ⟨⟨c0, c1⟩, f0, f1⟩ := HB4.out.cells
              clear hbz HB2 hb hB3 HF
              cases b with
              | false =>
                have HRR := Lib.hid (congrArg Ending.returned (HQ1.out rfl).symm)
                clear HQ1 HQ2 HQ3
                go_wp2
                change bodyPost _ _ _ _ _ (putB w3 w.heap.size 0 0)
                obtain ⟨⟨e0, e1⟩, _⟩ := (HB4.out.put (f := 0) (s := 0)).cells
                have hz := Lib.hid (putB_below (f := 0) (s := 0) hb4.out (Nat.le_refl w.heap.size))
                generalize putB w3 w.heap.size 0 0 = wz at *
                exact bodyPost_ret (v := .tuple #[.agg #[.int .i64 0, .int .i64 0], .bool false]) (by simp [results, Tryd.results28, go_sem, e0, e1]) rfl ⟨HRR.out, hz.out⟩
              | true =>
                by_cases hms : m = s
                · have hq' : (m.toList == s.toList) = true := by rw [hms]; simp
                  have HRR := Lib.hid (congrArg Ending.returned (HQ3.out rfl hms).symm)
                  clear HQ1 HQ2 HQ3
                  go_wp2
                  change bodyPost _ _ _ _ _ (putB w3 w.heap.size F sp)
                  obtain ⟨⟨e0, e1⟩, _⟩ := (HB4.out.put (f := F) (s := sp)).cells
                  have hz := Lib.hid (putB_below (f := F) (s := sp) hb4.out (Nat.le_refl w.heap.size))
                  generalize putB w3 w.heap.size F sp = wz at *
                  exact bodyPost_ret (v := .tuple #[.agg #[.int .i64 F, .int .i64 sp], .bool true]) (by simp [results, Tryd.results28, go_sem, e0, e1]) rfl ⟨HRR.out, hz.out⟩
                · have hne := bytes_ne hms
                  have HRR := Lib.hid (congrArg Ending.returned (HQ2.out rfl hms).symm)
                  clear HQ1 HQ2 HQ3
                  go_wp2
                  change bodyPost _ _ _ _ _ (putB w3 w.heap.size 0 0)
                  obtain ⟨⟨e0, e1⟩, _⟩ := (HB4.out.put (f := 0) (s := 0)).cells
                  have hz := Lib.hid (putB_below (f := 0) (s := 0) hb4.out (Nat.le_refl w.heap.size))
                  generalize putB w3 w.heap.size 0 0 = wz at *
                  exact bodyPost_ret (v := .tuple #[.agg #[.int .i64 0, .int .i64 0], .bool false]) (by simp [results, Tryd.results28, go_sem, e0, e1]) rfl ⟨HRR.out, hz.out⟩
    · go_simp
      refine hK.out _ _ ?_ (fun hHeld => ?_)
      · exact mkS.out _ (grow_trans cb (grow_alloc _ _))
      clear hK K
      refine wpAnyH_ready (rs := [0, 11]) (by kernel_rfl) (by simp) ?_
      refine AllReadyH.cons rfl (fun K hK => ?_) (AllReadyH.cons rfl (fun K hK => ?_) AllReadyH.nil)
      · go_simp
        go_at_call 62
        with_reducible refine (HD.out _).mono ?_
        rintro e wc ⟨⟨g8, rfl, hg8⟩, hbc⟩
        have hd8 := dir_sl hg8
        clear hg8
        have hlit := Sl.below (Sl.boxAt (x := .int .i64 1) (hp0 w1.drew (.cells #[.int .i64 1] 3))) hbc
        replace cb := grow_trans (grow_trans cb (grow_alloc _ _)) hbc
        refine hK.out _ _ ?_ (fun hHeld => ?_)
        · exact mkS.out _ cb
        clear hK K
        refine wpAnyH_ready (rs := [4, 11]) (by kernel_rfl) (by simp) ?_
        refine AllReadyH.cons rfl (fun K hK => ?_) (AllReadyH.cons rfl (fun K hK => ?_) AllReadyH.nil)
        · go_simp
          go_at_call 67
          with_reducible refine (HI.out _ _ hd8).mono ?_
          rintro e we ⟨rfl, rfl⟩
          refine hK.out _ _ ?_ (fun hHeld => ?_)
          · exact mkS.out _ cb
          clear hK K
          refine wpAnyH_ready (rs := [7, 11]) (by kernel_rfl) (by simp) ?_
          refine AllReadyH.cons rfl (fun K hK => ?_) (AllReadyH.cons rfl (fun K hK => ?_) AllReadyH.nil)
          · go_simp
            go_at_call 68
            refine (HN.out _ _ _ (grow_trans hb1.out cb) (ho.out.below cb) hlit).mono ?_
            rintro e wn ⟨vn, rfl, hon, hbn⟩
            obtain ⟨A2, c2, rfl, hA2⟩ := own_form hon
            obtain ⟨gn, rfl, hgn, _⟩ := hA2 (by omega)
            have kn := hon.cellAt 0 (by omega)
            simp only [List.getElem?_cons_zero] at kn
            clear hon hA2
            replace cb := grow_trans cb hbn
            refine hK.out _ _ ?_ (fun hHeld => ?_)
            · exact mkS.out _ cb
            clear hK K
            refine wpAnyH_sub (S' := fun W => W.cell? ⟨gn, 0, none⟩ = some (.int .i64 sp) ∧ Below w1.heap.size w1 W) (fun W h => mkS.out W h.2) _ _ _ _ ?_
            have hHeld : wn.cell? ⟨gn, 0, none⟩ = some (.int .i64 sp) ∧ Below w1.heap.size w1 wn := ⟨kn, cb⟩
            refine wpAnyH_take (i := 8) (v := ?_) rfl (by kernel_rfl) (by kernel_rfl) (by kernel_rfl) (fun _ _ _ h => h) (Or.inl ⟨by rfl, ?_⟩) (by assumption) ?_
            rotate_left
            · intro w hSw
              try dsimp only at hSw
              go_simp
              try (with_reducible rfl)
            try simp only [Act.put, List.setIfInBounds_toArray, List.set_cons_zero, List.set_cons_succ]
            refine wpAnyH_take (i := 9) (v := ?_) rfl (by kernel_rfl) (by kernel_rfl) (by kernel_rfl) (fun _ _ _ h => h) (Or.inl ⟨by rfl, ?_⟩) (by assumption) ?_
            rotate_left
            · intro w hSw
              try dsimp only at hSw
              go_simp
              try (with_reducible rfl)
            try simp only [Act.put, List.setIfInBounds_toArray, List.set_cons_zero, List.set_cons_succ]
            refine wpAnyH_take (i := 10) (v := ?_) rfl (by kernel_rfl) (by kernel_rfl) (by kernel_rfl) (fun _ _ _ h => h) (Or.inl ⟨by rfl, ?_⟩) (by assumption) ?_
            rotate_left
            · intro w hSw
              try dsimp only at hSw
              go_simp
              try (with_reducible rfl)
            try simp only [Act.put, List.setIfInBounds_toArray, List.set_cons_zero, List.set_cons_succ]
            have hB2 := BoxB.new wn w1.heap.size (Below.size cb) F sp
            have cb2 := grow_trans cb (grow_alloc wn (.cells #[.int .i64 F, .int .i64 sp] 41))
            refine wpAnyH_ready (rs := [11]) (by kernel_rfl) (by simp) (AllReadyH.cons rfl (fun K hK => ?_) AllReadyH.nil)
            go_simp
            refine hK.out _ _ ⟨cell_grow kn (grow_alloc _ _), grow_trans cb (grow_alloc _ _)⟩ (fun hHeld => ?_)
            clear hK K
            refine wpAnyH_ready (rs := [12]) (by kernel_rfl) (by simp) (AllReadyH.cons rfl (fun K hK => ?_) AllReadyH.nil)
            go_simp
            refine hK.out _ _ ⟨cell_grow kn (grow_alloc _ _), grow_trans cb (grow_alloc _ _)⟩ (fun hHeld => ?_)
            clear hK K
            refine wpAnyH_done (by kernel_rfl) ?_ _
            have hb := Lib.hid (grow_trans hb1.out cb2)
            have HB2 := Lib.hid (HB1.out.below cb2)
            obtain ⟨⟨d0, d1⟩, _⟩ := hB2.cells
            have hB3 := Lib.hid hB2
            clear hB2 cb2 cb hHeld kn mkS ho HN HI HD
            go_wp2_with fail
            clear d0 d1
            refine (HF.out _ hb.out).mono ?_
            rintro e w3 ⟨rfl, hbz⟩
            obtain ⟨⟨d0, d1⟩, _⟩ := (hB3.out.below hbz).cells
            have HB4 := Lib.hid (HB2.out.below hbz)
            have hb4 := Lib.hid (grow_trans hb.out hbz)
            obtain ⟨⟨c0, c1⟩, f0, f1⟩ := HB4.out.cells
            clear hbz HB2 hb hB3 HF
            cases b with
            | false =>
              have HRR := Lib.hid (congrArg Ending.returned (HQ1.out rfl).symm)
              clear HQ1 HQ2 HQ3
              go_wp2
              change bodyPost _ _ _ _ _ (putB w3 w.heap.size 0 0)
              obtain ⟨⟨e0, e1⟩, _⟩ := (HB4.out.put (f := 0) (s := 0)).cells
              have hz := Lib.hid (putB_below (f := 0) (s := 0) hb4.out (Nat.le_refl w.heap.size))
              generalize putB w3 w.heap.size 0 0 = wz at *
              exact bodyPost_ret (v := .tuple #[.agg #[.int .i64 0, .int .i64 0], .bool false]) (by simp [results, Tryd.results28, go_sem, e0, e1]) rfl ⟨HRR.out, hz.out⟩
            | true =>
              by_cases hms : m = s
              · have hq' : (m.toList == s.toList) = true := by rw [hms]; simp
                have HRR := Lib.hid (congrArg Ending.returned (HQ3.out rfl hms).symm)
                clear HQ1 HQ2 HQ3
                go_wp2
                change bodyPost _ _ _ _ _ (putB w3 w.heap.size F sp)
                obtain ⟨⟨e0, e1⟩, _⟩ := (HB4.out.put (f := F) (s := sp)).cells
                have hz := Lib.hid (putB_below (f := F) (s := sp) hb4.out (Nat.le_refl w.heap.size))
                generalize putB w3 w.heap.size F sp = wz at *
                exact bodyPost_ret (v := .tuple #[.agg #[.int .i64 F, .int .i64 sp], .bool true]) (by simp [results, Tryd.results28, go_sem, e0, e1]) rfl ⟨HRR.out, hz.out⟩
              · have hne := bytes_ne hms
                have HRR := Lib.hid (congrArg Ending.returned (HQ2.out rfl hms).symm)
                clear HQ1 HQ2 HQ3
                go_wp2
                change bodyPost _ _ _ _ _ (putB w3 w.heap.size 0 0)
                obtain ⟨⟨e0, e1⟩, _⟩ := (HB4.out.put (f := 0) (s := 0)).cells
                have hz := Lib.hid (putB_below (f := 0) (s := 0) hb4.out (Nat.le_refl w.heap.size))
                generalize putB w3 w.heap.size 0 0 = wz at *
                exact bodyPost_ret (v := .tuple #[.agg #[.int .i64 0, .int .i64 0], .bool false]) (by simp [results, Tryd.results28, go_sem, e0, e1]) rfl ⟨HRR.out, hz.out⟩
          · go_simp
            refine hK.out _ _ ?_ (fun hHeld => ?_)
            · exact mkS.out _ (grow_trans cb (grow_alloc _ _))
            clear hK K
            refine wpAnyH_ready (rs := [7]) (by kernel_rfl) (by simp) ?_
            refine AllReadyH.cons rfl (fun K hK => ?_) AllReadyH.nil
            · go_simp
              go_at_call 68
              refine (HN.out _ _ _ (grow_trans hb1.out (grow_trans cb (grow_alloc _ _))) (ho.out.below (grow_trans cb (grow_alloc _ _))) (hlit.below (grow_alloc _ _))).mono ?_
              rintro e wn ⟨vn, rfl, hon, hbn⟩
              obtain ⟨A2, c2, rfl, hA2⟩ := own_form hon
              obtain ⟨gn, rfl, hgn, _⟩ := hA2 (by omega)
              have kn := hon.cellAt 0 (by omega)
              simp only [List.getElem?_cons_zero] at kn
              clear hon hA2
              have hBn := box_ne (BoxB.new _ w1.heap.size (Below.size cb) 0 0) hbn hgn
              try simp only [World.size_alloc, drew_size] at hBn
              have bx := BoxB.below (BoxB.new _ w1.heap.size (Below.size cb) 0 0) hbn
              try simp only [World.size_alloc, drew_size] at bx
              replace cb := grow_trans (grow_trans cb (grow_alloc _ _)) hbn
              refine hK.out _ _ ?_ (fun hHeld => ?_)
              · exact mkS.out _ cb
              clear hK K
              refine wpAnyH_sub (S' := fun W => W.cell? ⟨gn, 0, none⟩ = some (.int .i64 sp) ∧ Below w1.heap.size w1 W) (fun W h => mkS.out W h.2) _ _ _ _ ?_
              have hHeld : wn.cell? ⟨gn, 0, none⟩ = some (.int .i64 sp) ∧ Below w1.heap.size w1 wn := ⟨kn, cb⟩
              refine wpAnyH_take (i := 8) (v := ?_) rfl (by kernel_rfl) (by kernel_rfl) (by kernel_rfl) (fun _ _ _ h => h) (Or.inl ⟨by rfl, ?_⟩) (by assumption) ?_
              rotate_left
              · intro w hSw
                try dsimp only at hSw
                go_simp
                try (with_reducible rfl)
              try simp only [Act.put, List.setIfInBounds_toArray, List.set_cons_zero, List.set_cons_succ]
              refine wpAnyH_take (i := 9) (v := ?_) rfl (by kernel_rfl) (by kernel_rfl) (by kernel_rfl) (fun _ _ _ h => h) (Or.inl ⟨by rfl, ?_⟩) (by assumption) ?_
              rotate_left
              · intro w hSw
                try dsimp only at hSw
                go_simp
                try (with_reducible rfl)
              try simp only [Act.put, List.setIfInBounds_toArray, List.set_cons_zero, List.set_cons_succ]
              refine wpAnyH_take (i := 10) (v := ?_) rfl (by kernel_rfl) (by kernel_rfl) (by kernel_rfl) (fun _ _ _ h => h) (Or.inl ⟨by rfl, ?_⟩) (by assumption) ?_
              rotate_left
              · intro w hSw
                try dsimp only at hSw
                go_simp
                try (with_reducible rfl)
              try simp only [Act.put, List.setIfInBounds_toArray, List.set_cons_zero, List.set_cons_succ]
              obtain ⟨⟨bx0, bx1⟩, bf0, bf1⟩ := bx.cells
              have hge := (World.ownsRow.lt bx _ rfl).1
              have hB2 := (bx.set0 F).set1 sp
              have cb2 := (cb.setCell (p := ⟨_, 0, none⟩) hge (.int .i64 F)).setCell (p := ⟨_, 1, none⟩) hge (.int .i64 sp)
              refine wpAnyH_ready (rs := [12]) (by kernel_rfl) (by simp) (AllReadyH.cons rfl (fun K hK => ?_) AllReadyH.nil)
              go_simp
              refine hK.out _ _ ?_ (fun hHeld => ?_)
              · refine ⟨?_, cb2⟩
                rw [World.cell?_setCell_far _ _ _ _ hBn, World.cell?_setCell_far _ _ _ _ hBn]
                exact kn
              clear hK K
              refine wpAnyH_done (by kernel_rfl) ?_ _
              have hb := Lib.hid (grow_trans hb1.out cb2)
              have HB2 := Lib.hid (HB1.out.below cb2)
              obtain ⟨⟨d0, d1⟩, _⟩ := hB2.cells
              have hB3 := Lib.hid hB2
              clear hB2 cb2 cb hHeld kn mkS ho HN HI HD
              go_wp2_with fail
              clear d0 d1
              refine (HF.out _ hb.out).mono ?_
              rintro e w3 ⟨rfl, hbz⟩
              obtain ⟨⟨d0, d1⟩, _⟩ := (hB3.out.below hbz).cells
              have HB4 := Lib.hid (HB2.out.below hbz)
              have hb4 := Lib.hid (grow_trans hb.out hbz)
              obtain ⟨⟨c0, c1⟩, f0, f1⟩ := HB4.out.cells
              clear hbz HB2 hb hB3 HF
              cases b with
              | false =>
                have HRR := Lib.hid (congrArg Ending.returned (HQ1.out rfl).symm)
                clear HQ1 HQ2 HQ3
                go_wp2
                change bodyPost _ _ _ _ _ (putB w3 w.heap.size 0 0)
                obtain ⟨⟨e0, e1⟩, _⟩ := (HB4.out.put (f := 0) (s := 0)).cells
                have hz := Lib.hid (putB_below (f := 0) (s := 0) hb4.out (Nat.le_refl w.heap.size))
                generalize putB w3 w.heap.size 0 0 = wz at *
                exact bodyPost_ret (v := .tuple #[.agg #[.int .i64 0, .int .i64 0], .bool false]) (by simp [results, Tryd.results28, go_sem, e0, e1]) rfl ⟨HRR.out, hz.out⟩
              | true =>
                by_cases hms : m = s
                · have hq' : (m.toList == s.toList) = true := by rw [hms]; simp
                  have HRR := Lib.hid (congrArg Ending.returned (HQ3.out rfl hms).symm)
                  clear HQ1 HQ2 HQ3
                  go_wp2
                  change bodyPost _ _ _ _ _ (putB w3 w.heap.size F sp)
                  obtain ⟨⟨e0, e1⟩, _⟩ := (HB4.out.put (f := F) (s := sp)).cells
                  have hz := Lib.hid (putB_below (f := F) (s := sp) hb4.out (Nat.le_refl w.heap.size))
                  generalize putB w3 w.heap.size F sp = wz at *
                  exact bodyPost_ret (v := .tuple #[.agg #[.int .i64 F, .int .i64 sp], .bool true]) (by simp [results, Tryd.results28, go_sem, e0, e1]) rfl ⟨HRR.out, hz.out⟩
                · have hne := bytes_ne hms
                  have HRR := Lib.hid (congrArg Ending.returned (HQ2.out rfl hms).symm)
                  clear HQ1 HQ2 HQ3
                  go_wp2
                  change bodyPost _ _ _ _ _ (putB w3 w.heap.size 0 0)
                  obtain ⟨⟨e0, e1⟩, _⟩ := (HB4.out.put (f := 0) (s := 0)).cells
                  have hz := Lib.hid (putB_below (f := 0) (s := 0) hb4.out (Nat.le_refl w.heap.size))
                  generalize putB w3 w.heap.size 0 0 = wz at *
                  exact bodyPost_ret (v := .tuple #[.agg #[.int .i64 0, .int .i64 0], .bool false]) (by simp [results, Tryd.results28, go_sem, e0, e1]) rfl ⟨HRR.out, hz.out⟩
        · go_simp
          refine hK.out _ _ ?_ (fun hHeld => ?_)
          · exact mkS.out _ (grow_trans cb (grow_alloc _ _))
          clear hK K
          refine wpAnyH_ready (rs := [4]) (by kernel_rfl) (by simp) ?_
          refine AllReadyH.cons rfl (fun K hK => ?_) AllReadyH.nil
          · go_simp
            go_at_call 67
            with_reducible refine (HI.out _ _ (hd8.below (grow_alloc _ _))).mono ?_
            rintro e we ⟨rfl, rfl⟩
            refine hK.out _ _ ?_ (fun hHeld => ?_)
            · exact mkS.out _ (grow_trans cb (grow_alloc _ _))
            clear hK K
            refine wpAnyH_ready (rs := [7]) (by kernel_rfl) (by simp) ?_
            refine AllReadyH.cons rfl (fun K hK => ?_) AllReadyH.nil
            · go_simp
              go_at_call 68
              refine (HN.out _ _ _ (grow_trans hb1.out (grow_trans cb (grow_alloc _ _))) (ho.out.below (grow_trans cb (grow_alloc _ _))) (hlit.below (grow_alloc _ _))).mono ?_
              rintro e wn ⟨vn, rfl, hon, hbn⟩
              obtain ⟨A2, c2, rfl, hA2⟩ := own_form hon
              obtain ⟨gn, rfl, hgn, _⟩ := hA2 (by omega)
              have kn := hon.cellAt 0 (by omega)
              simp only [List.getElem?_cons_zero] at kn
              clear hon hA2
              have hBn := box_ne (BoxB.new _ w1.heap.size (Below.size cb) 0 0) hbn hgn
              try simp only [World.size_alloc, drew_size] at hBn
              have bx := BoxB.below (BoxB.new _ w1.heap.size (Below.size cb) 0 0) hbn
              try simp only [World.size_alloc, drew_size] at bx
              replace cb := grow_trans (grow_trans cb (grow_alloc _ _)) hbn
              refine hK.out _ _ ?_ (fun hHeld => ?_)
              · exact mkS.out _ cb
              clear hK K
              refine wpAnyH_sub (S' := fun W => W.cell? ⟨gn, 0, none⟩ = some (.int .i64 sp) ∧ Below w1.heap.size w1 W) (fun W h => mkS.out W h.2) _ _ _ _ ?_
              have hHeld : wn.cell? ⟨gn, 0, none⟩ = some (.int .i64 sp) ∧ Below w1.heap.size w1 wn := ⟨kn, cb⟩
              refine wpAnyH_take (i := 8) (v := ?_) rfl (by kernel_rfl) (by kernel_rfl) (by kernel_rfl) (fun _ _ _ h => h) (Or.inl ⟨by rfl, ?_⟩) (by assumption) ?_
              rotate_left
              · intro w hSw
                try dsimp only at hSw
                go_simp
                try (with_reducible rfl)
              try simp only [Act.put, List.setIfInBounds_toArray, List.set_cons_zero, List.set_cons_succ]
              refine wpAnyH_take (i := 9) (v := ?_) rfl (by kernel_rfl) (by kernel_rfl) (by kernel_rfl) (fun _ _ _ h => h) (Or.inl ⟨by rfl, ?_⟩) (by assumption) ?_
              rotate_left
              · intro w hSw
                try dsimp only at hSw
                go_simp
                try (with_reducible rfl)
              try simp only [Act.put, List.setIfInBounds_toArray, List.set_cons_zero, List.set_cons_succ]
              refine wpAnyH_take (i := 10) (v := ?_) rfl (by kernel_rfl) (by kernel_rfl) (by kernel_rfl) (fun _ _ _ h => h) (Or.inl ⟨by rfl, ?_⟩) (by assumption) ?_
              rotate_left
              · intro w hSw
                try dsimp only at hSw
                go_simp
                try (with_reducible rfl)
              try simp only [Act.put, List.setIfInBounds_toArray, List.set_cons_zero, List.set_cons_succ]
              obtain ⟨⟨bx0, bx1⟩, bf0, bf1⟩ := bx.cells
              have hge := (World.ownsRow.lt bx _ rfl).1
              have hB2 := (bx.set0 F).set1 sp
              have cb2 := (cb.setCell (p := ⟨_, 0, none⟩) hge (.int .i64 F)).setCell (p := ⟨_, 1, none⟩) hge (.int .i64 sp)
              refine wpAnyH_ready (rs := [12]) (by kernel_rfl) (by simp) (AllReadyH.cons rfl (fun K hK => ?_) AllReadyH.nil)
              go_simp
              refine hK.out _ _ ?_ (fun hHeld => ?_)
              · refine ⟨?_, cb2⟩
                rw [World.cell?_setCell_far _ _ _ _ hBn, World.cell?_setCell_far _ _ _ _ hBn]
                exact kn
              clear hK K
              refine wpAnyH_done (by kernel_rfl) ?_ _
              have hb := Lib.hid (grow_trans hb1.out cb2)
              have HB2 := Lib.hid (HB1.out.below cb2)
              obtain ⟨⟨d0, d1⟩, _⟩ := hB2.cells
              have hB3 := Lib.hid hB2
              clear hB2 cb2 cb hHeld kn mkS ho HN HI HD
              go_wp2_with fail
              clear d0 d1
              refine (HF.out _ hb.out).mono ?_
              rintro e w3 ⟨rfl, hbz⟩
              obtain ⟨⟨d0, d1⟩, _⟩ := (hB3.out.below hbz).cells
              have HB4 := Lib.hid (HB2.out.below hbz)
              have hb4 := Lib.hid (grow_trans hb.out hbz)
              obtain ⟨⟨c0, c1⟩, f0, f1⟩ := HB4.out.cells
              clear hbz HB2 hb hB3 HF
              cases b with
              | false =>
                have HRR := Lib.hid (congrArg Ending.returned (HQ1.out rfl).symm)
                clear HQ1 HQ2 HQ3
                go_wp2
                change bodyPost _ _ _ _ _ (putB w3 w.heap.size 0 0)
                obtain ⟨⟨e0, e1⟩, _⟩ := (HB4.out.put (f := 0) (s := 0)).cells
                have hz := Lib.hid (putB_below (f := 0) (s := 0) hb4.out (Nat.le_refl w.heap.size))
                generalize putB w3 w.heap.size 0 0 = wz at *
                exact bodyPost_ret (v := .tuple #[.agg #[.int .i64 0, .int .i64 0], .bool false]) (by simp [results, Tryd.results28, go_sem, e0, e1]) rfl ⟨HRR.out, hz.out⟩
              | true =>
                by_cases hms : m = s
                · have hq' : (m.toList == s.toList) = true := by rw [hms]; simp
                  have HRR := Lib.hid (congrArg Ending.returned (HQ3.out rfl hms).symm)
                  clear HQ1 HQ2 HQ3
                  go_wp2
                  change bodyPost _ _ _ _ _ (putB w3 w.heap.size F sp)
                  obtain ⟨⟨e0, e1⟩, _⟩ := (HB4.out.put (f := F) (s := sp)).cells
                  have hz := Lib.hid (putB_below (f := F) (s := sp) hb4.out (Nat.le_refl w.heap.size))
                  generalize putB w3 w.heap.size F sp = wz at *
                  exact bodyPost_ret (v := .tuple #[.agg #[.int .i64 F, .int .i64 sp], .bool true]) (by simp [results, Tryd.results28, go_sem, e0, e1]) rfl ⟨HRR.out, hz.out⟩
                · have hne := bytes_ne hms
                  have HRR := Lib.hid (congrArg Ending.returned (HQ2.out rfl hms).symm)
                  clear HQ1 HQ2 HQ3
                  go_wp2
                  change bodyPost _ _ _ _ _ (putB w3 w.heap.size 0 0)
                  obtain ⟨⟨e0, e1⟩, _⟩ := (HB4.out.put (f := 0) (s := 0)).cells
                  have hz := Lib.hid (putB_below (f := 0) (s := 0) hb4.out (Nat.le_refl w.heap.size))
                  generalize putB w3 w.heap.size 0 0 = wz at *
                  exact bodyPost_ret (v := .tuple #[.agg #[.int .i64 0, .int .i64 0], .bool false]) (by simp [results, Tryd.results28, go_sem, e0, e1]) rfl ⟨HRR.out, hz.out⟩
      · go_simp
        refine hK.out _ _ ?_ (fun hHeld => ?_)
        · exact mkS.out _ (grow_trans (grow_trans cb (grow_alloc _ _)) (grow_alloc _ _))
        clear hK K
        refine wpAnyH_ready (rs := [0]) (by kernel_rfl) (by simp) ?_
        refine AllReadyH.cons rfl (fun K hK => ?_) AllReadyH.nil
        · go_simp
          go_at_call 62
          with_reducible refine (HD.out _).mono ?_
          rintro e wc ⟨⟨g8, rfl, hg8⟩, hbc⟩
          have hd8 := dir_sl hg8
          clear hg8
          have hlit := Sl.below (Sl.boxAt (x := .int .i64 1) (hp1 w1.drew (.cells #[.int .i64 1] 3) (.cells #[.int .i64 0, .int .i64 0] 41))) hbc
          have bx := BoxB.below (BoxB.new _ w1.heap.size (Below.size (grow_trans cb (grow_alloc _ _))) 0 0) hbc
          try simp only [World.size_alloc, drew_size] at bx
          replace cb := grow_trans (grow_trans (grow_trans cb (grow_alloc _ _)) (grow_alloc _ _)) hbc
          refine hK.out _ _ ?_ (fun hHeld => ?_)
          · exact mkS.out _ cb
          clear hK K
          refine wpAnyH_ready (rs := [4]) (by kernel_rfl) (by simp) ?_
          refine AllReadyH.cons rfl (fun K hK => ?_) AllReadyH.nil
          · go_simp
            go_at_call 67
            with_reducible refine (HI.out _ _ hd8).mono ?_
            rintro e we ⟨rfl, rfl⟩
            refine hK.out _ _ ?_ (fun hHeld => ?_)
            · exact mkS.out _ cb
            clear hK K
            refine wpAnyH_ready (rs := [7]) (by kernel_rfl) (by simp) ?_
            refine AllReadyH.cons rfl (fun K hK => ?_) AllReadyH.nil
            · go_simp
              go_at_call 68
              refine (HN.out _ _ _ (grow_trans hb1.out cb) (ho.out.below cb) hlit).mono ?_
              rintro e wn ⟨vn, rfl, hon, hbn⟩
              obtain ⟨A2, c2, rfl, hA2⟩ := own_form hon
              obtain ⟨gn, rfl, hgn, _⟩ := hA2 (by omega)
              have kn := hon.cellAt 0 (by omega)
              simp only [List.getElem?_cons_zero] at kn
              clear hon hA2
              have hBn := box_ne bx hbn hgn
              try simp only [World.size_alloc, drew_size] at hBn
              replace bx := BoxB.below bx hbn
              replace cb := grow_trans cb hbn
              refine hK.out _ _ ?_ (fun hHeld => ?_)
              · exact mkS.out _ cb
              clear hK K
              refine wpAnyH_sub (S' := fun W => W.cell? ⟨gn, 0, none⟩ = some (.int .i64 sp) ∧ Below w1.heap.size w1 W) (fun W h => mkS.out W h.2) _ _ _ _ ?_
              have hHeld : wn.cell? ⟨gn, 0, none⟩ = some (.int .i64 sp) ∧ Below w1.heap.size w1 wn := ⟨kn, cb⟩
              refine wpAnyH_take (i := 8) (v := ?_) rfl (by kernel_rfl) (by kernel_rfl) (by kernel_rfl) (fun _ _ _ h => h) (Or.inl ⟨by rfl, ?_⟩) (by assumption) ?_
              rotate_left
              · intro w hSw
                try dsimp only at hSw
                go_simp
                try (with_reducible rfl)
              try simp only [Act.put, List.setIfInBounds_toArray, List.set_cons_zero, List.set_cons_succ]
              refine wpAnyH_take (i := 9) (v := ?_) rfl (by kernel_rfl) (by kernel_rfl) (by kernel_rfl) (fun _ _ _ h => h) (Or.inl ⟨by rfl, ?_⟩) (by assumption) ?_
              rotate_left
              · intro w hSw
                try dsimp only at hSw
                go_simp
                try (with_reducible rfl)
              try simp only [Act.put, List.setIfInBounds_toArray, List.set_cons_zero, List.set_cons_succ]
              refine wpAnyH_take (i := 10) (v := ?_) rfl (by kernel_rfl) (by kernel_rfl) (by kernel_rfl) (fun _ _ _ h => h) (Or.inl ⟨by rfl, ?_⟩) (by assumption) ?_
              rotate_left
              · intro w hSw
                try dsimp only at hSw
                go_simp
                try (with_reducible rfl)
              try simp only [Act.put, List.setIfInBounds_toArray, List.set_cons_zero, List.set_cons_succ]
              obtain ⟨⟨bx0, bx1⟩, bf0, bf1⟩ := bx.cells
              have hge := (World.ownsRow.lt bx _ rfl).1
              have hB2 := (bx.set0 F).set1 sp
              have cb2 := (cb.setCell (p := ⟨_, 0, none⟩) hge (.int .i64 F)).setCell (p := ⟨_, 1, none⟩) hge (.int .i64 sp)
              refine wpAnyH_ready (rs := [12]) (by kernel_rfl) (by simp) (AllReadyH.cons rfl (fun K hK => ?_) AllReadyH.nil)
              go_simp
              refine hK.out _ _ ?_ (fun hHeld => ?_)
              · refine ⟨?_, cb2⟩
                rw [World.cell?_setCell_far _ _ _ _ hBn, World.cell?_setCell_far _ _ _ _ hBn]
                exact kn
              clear hK K
              refine wpAnyH_done (by kernel_rfl) ?_ _
              have hb := Lib.hid (grow_trans hb1.out cb2)
              have HB2 := Lib.hid (HB1.out.below cb2)
              obtain ⟨⟨d0, d1⟩, _⟩ := hB2.cells
              have hB3 := Lib.hid hB2
              clear hB2 cb2 cb hHeld kn mkS ho HN HI HD
              go_wp2_with fail
              clear d0 d1
              refine (HF.out _ hb.out).mono ?_
              rintro e w3 ⟨rfl, hbz⟩
              obtain ⟨⟨d0, d1⟩, _⟩ := (hB3.out.below hbz).cells
              have HB4 := Lib.hid (HB2.out.below hbz)
              have hb4 := Lib.hid (grow_trans hb.out hbz)
              obtain ⟨⟨c0, c1⟩, f0, f1⟩ := HB4.out.cells
              clear hbz HB2 hb hB3 HF
              cases b with
              | false =>
                have HRR := Lib.hid (congrArg Ending.returned (HQ1.out rfl).symm)
                clear HQ1 HQ2 HQ3
                go_wp2
                change bodyPost _ _ _ _ _ (putB w3 w.heap.size 0 0)
                obtain ⟨⟨e0, e1⟩, _⟩ := (HB4.out.put (f := 0) (s := 0)).cells
                have hz := Lib.hid (putB_below (f := 0) (s := 0) hb4.out (Nat.le_refl w.heap.size))
                generalize putB w3 w.heap.size 0 0 = wz at *
                exact bodyPost_ret (v := .tuple #[.agg #[.int .i64 0, .int .i64 0], .bool false]) (by simp [results, Tryd.results28, go_sem, e0, e1]) rfl ⟨HRR.out, hz.out⟩
              | true =>
                by_cases hms : m = s
                · have hq' : (m.toList == s.toList) = true := by rw [hms]; simp
                  have HRR := Lib.hid (congrArg Ending.returned (HQ3.out rfl hms).symm)
                  clear HQ1 HQ2 HQ3
                  go_wp2
                  change bodyPost _ _ _ _ _ (putB w3 w.heap.size F sp)
                  obtain ⟨⟨e0, e1⟩, _⟩ := (HB4.out.put (f := F) (s := sp)).cells
                  have hz := Lib.hid (putB_below (f := F) (s := sp) hb4.out (Nat.le_refl w.heap.size))
                  generalize putB w3 w.heap.size F sp = wz at *
                  exact bodyPost_ret (v := .tuple #[.agg #[.int .i64 F, .int .i64 sp], .bool true]) (by simp [results, Tryd.results28, go_sem, e0, e1]) rfl ⟨HRR.out, hz.out⟩
                · have hne := bytes_ne hms
                  have HRR := Lib.hid (congrArg Ending.returned (HQ2.out rfl hms).symm)
                  clear HQ1 HQ2 HQ3
                  go_wp2
                  change bodyPost _ _ _ _ _ (putB w3 w.heap.size 0 0)
                  obtain ⟨⟨e0, e1⟩, _⟩ := (HB4.out.put (f := 0) (s := 0)).cells
                  have hz := Lib.hid (putB_below (f := 0) (s := 0) hb4.out (Nat.le_refl w.heap.size))
                  generalize putB w3 w.heap.size 0 0 = wz at *
                  exact bodyPost_ret (v := .tuple #[.agg #[.int .i64 0, .int .i64 0], .bool false]) (by simp [results, Tryd.results28, go_sem, e0, e1]) rfl ⟨HRR.out, hz.out⟩
    · go_simp
      refine hK.out _ _ ?_ (fun hHeld => ?_)
      · exact mkS.out _ (grow_trans cb (grow_alloc _ _))
      clear hK K
      refine wpAnyH_ready (rs := [0, 6]) (by kernel_rfl) (by simp) ?_
      refine AllReadyH.cons rfl (fun K hK => ?_) (AllReadyH.cons rfl (fun K hK => ?_) AllReadyH.nil)
      · go_simp
        go_at_call 62
        with_reducible refine (HD.out _).mono ?_
        rintro e wc ⟨⟨g8, rfl, hg8⟩, hbc⟩
        have hd8 := dir_sl hg8
        clear hg8
        have bx := BoxB.below (BoxB.new _ w1.heap.size (Below.size cb) 0 0) hbc
        try simp only [World.size_alloc, drew_size] at bx
        replace cb := grow_trans (grow_trans cb (grow_alloc _ _)) hbc
        refine hK.out _ _ ?_ (fun hHeld => ?_)
        · exact mkS.out _ cb
        clear hK K
        refine wpAnyH_ready (rs := [4, 6]) (by kernel_rfl) (by simp) ?_
        refine AllReadyH.cons rfl (fun K hK => ?_) (AllReadyH.cons rfl (fun K hK => ?_) AllReadyH.nil)
        · go_simp
          go_at_call 67
          with_reducible refine (HI.out _ _ hd8).mono ?_
          rintro e we ⟨rfl, rfl⟩
          refine hK.out _ _ ?_ (fun hHeld => ?_)
          · exact mkS.out _ cb
          clear hK K
          refine wpAnyH_ready (rs := [6]) (by kernel_rfl) (by simp) ?_
          refine AllReadyH.cons rfl (fun K hK => ?_) AllReadyH.nil
          · go_simp
            refine hK.out _ _ ?_ (fun hHeld => ?_)
            · exact mkS.out _ (grow_trans cb (grow_alloc _ _))
            clear hK K
            refine wpAnyH_ready (rs := [7]) (by kernel_rfl) (by simp) ?_
            refine AllReadyH.cons rfl (fun K hK => ?_) AllReadyH.nil
            · go_simp
              go_at_call 68
              refine (HN.out _ _ _ (grow_trans hb1.out (grow_trans cb (grow_alloc _ _))) (ho.out.below (grow_trans cb (grow_alloc _ _))) (Sl.boxAt (hp0 _ _))).mono ?_
              rintro e wn ⟨vn, rfl, hon, hbn⟩
              obtain ⟨A2, c2, rfl, hA2⟩ := own_form hon
              obtain ⟨gn, rfl, hgn, _⟩ := hA2 (by omega)
              have kn := hon.cellAt 0 (by omega)
              simp only [List.getElem?_cons_zero] at kn
              clear hon hA2
              have hBn := box_ne (bx.below (grow_alloc _ _)) hbn hgn
              try simp only [World.size_alloc, drew_size] at hBn
              replace bx := BoxB.below (bx.below (grow_alloc _ _)) hbn
              replace cb := grow_trans (grow_trans cb (grow_alloc _ _)) hbn
              refine hK.out _ _ ?_ (fun hHeld => ?_)
              · exact mkS.out _ cb
              clear hK K
              refine wpAnyH_sub (S' := fun W => W.cell? ⟨gn, 0, none⟩ = some (.int .i64 sp) ∧ Below w1.heap.size w1 W) (fun W h => mkS.out W h.2) _ _ _ _ ?_
              have hHeld : wn.cell? ⟨gn, 0, none⟩ = some (.int .i64 sp) ∧ Below w1.heap.size w1 wn := ⟨kn, cb⟩
              refine wpAnyH_take (i := 8) (v := ?_) rfl (by kernel_rfl) (by kernel_rfl) (by kernel_rfl) (fun _ _ _ h => h) (Or.inl ⟨by rfl, ?_⟩) (by assumption) ?_
              rotate_left
              · intro w hSw
                try dsimp only at hSw
                go_simp
                try (with_reducible rfl)
              try simp only [Act.put, List.setIfInBounds_toArray, List.set_cons_zero, List.set_cons_succ]
              refine wpAnyH_take (i := 9) (v := ?_) rfl (by kernel_rfl) (by kernel_rfl) (by kernel_rfl) (fun _ _ _ h => h) (Or.inl ⟨by rfl, ?_⟩) (by assumption) ?_
              rotate_left
              · intro w hSw
                try dsimp only at hSw
                go_simp
                try (with_reducible rfl)
              try simp only [Act.put, List.setIfInBounds_toArray, List.set_cons_zero, List.set_cons_succ]
              refine wpAnyH_take (i := 10) (v := ?_) rfl (by kernel_rfl) (by kernel_rfl) (by kernel_rfl) (fun _ _ _ h => h) (Or.inl ⟨by rfl, ?_⟩) (by assumption) ?_
              rotate_left
              · intro w hSw
                try dsimp only at hSw
                go_simp
                try (with_reducible rfl)
              try simp only [Act.put, List.setIfInBounds_toArray, List.set_cons_zero, List.set_cons_succ]
              obtain ⟨⟨bx0, bx1⟩, bf0, bf1⟩ := bx.cells
              have hge := (World.ownsRow.lt bx _ rfl).1
              have hB2 := (bx.set0 F).set1 sp
              have cb2 := (cb.setCell (p := ⟨_, 0, none⟩) hge (.int .i64 F)).setCell (p := ⟨_, 1, none⟩) hge (.int .i64 sp)
              refine wpAnyH_ready (rs := [12]) (by kernel_rfl) (by simp) (AllReadyH.cons rfl (fun K hK => ?_) AllReadyH.nil)
              go_simp
              refine hK.out _ _ ?_ (fun hHeld => ?_)
              · refine ⟨?_, cb2⟩
                rw [World.cell?_setCell_far _ _ _ _ hBn, World.cell?_setCell_far _ _ _ _ hBn]
                exact kn
              clear hK K
              refine wpAnyH_done (by kernel_rfl) ?_ _
              have hb := Lib.hid (grow_trans hb1.out cb2)
              have HB2 := Lib.hid (HB1.out.below cb2)
              obtain ⟨⟨d0, d1⟩, _⟩ := hB2.cells
              have hB3 := Lib.hid hB2
              clear hB2 cb2 cb hHeld kn mkS ho HN HI HD
              go_wp2_with fail
              clear d0 d1
              refine (HF.out _ hb.out).mono ?_
              rintro e w3 ⟨rfl, hbz⟩
              obtain ⟨⟨d0, d1⟩, _⟩ := (hB3.out.below hbz).cells
              have HB4 := Lib.hid (HB2.out.below hbz)
              have hb4 := Lib.hid (grow_trans hb.out hbz)
              obtain ⟨⟨c0, c1⟩, f0, f1⟩ := HB4.out.cells
              clear hbz HB2 hb hB3 HF
              cases b with
              | false =>
                have HRR := Lib.hid (congrArg Ending.returned (HQ1.out rfl).symm)
                clear HQ1 HQ2 HQ3
                go_wp2
                change bodyPost _ _ _ _ _ (putB w3 w.heap.size 0 0)
                obtain ⟨⟨e0, e1⟩, _⟩ := (HB4.out.put (f := 0) (s := 0)).cells
                have hz := Lib.hid (putB_below (f := 0) (s := 0) hb4.out (Nat.le_refl w.heap.size))
                generalize putB w3 w.heap.size 0 0 = wz at *
                exact bodyPost_ret (v := .tuple #[.agg #[.int .i64 0, .int .i64 0], .bool false]) (by simp [results, Tryd.results28, go_sem, e0, e1]) rfl ⟨HRR.out, hz.out⟩
              | true =>
                by_cases hms : m = s
                · have hq' : (m.toList == s.toList) = true := by rw [hms]; simp
                  have HRR := Lib.hid (congrArg Ending.returned (HQ3.out rfl hms).symm)
                  clear HQ1 HQ2 HQ3
                  go_wp2
                  change bodyPost _ _ _ _ _ (putB w3 w.heap.size F sp)
                  obtain ⟨⟨e0, e1⟩, _⟩ := (HB4.out.put (f := F) (s := sp)).cells
                  have hz := Lib.hid (putB_below (f := F) (s := sp) hb4.out (Nat.le_refl w.heap.size))
                  generalize putB w3 w.heap.size F sp = wz at *
                  exact bodyPost_ret (v := .tuple #[.agg #[.int .i64 F, .int .i64 sp], .bool true]) (by simp [results, Tryd.results28, go_sem, e0, e1]) rfl ⟨HRR.out, hz.out⟩
                · have hne := bytes_ne hms
                  have HRR := Lib.hid (congrArg Ending.returned (HQ2.out rfl hms).symm)
                  clear HQ1 HQ2 HQ3
                  go_wp2
                  change bodyPost _ _ _ _ _ (putB w3 w.heap.size 0 0)
                  obtain ⟨⟨e0, e1⟩, _⟩ := (HB4.out.put (f := 0) (s := 0)).cells
                  have hz := Lib.hid (putB_below (f := 0) (s := 0) hb4.out (Nat.le_refl w.heap.size))
                  generalize putB w3 w.heap.size 0 0 = wz at *
                  exact bodyPost_ret (v := .tuple #[.agg #[.int .i64 0, .int .i64 0], .bool false]) (by simp [results, Tryd.results28, go_sem, e0, e1]) rfl ⟨HRR.out, hz.out⟩
        · go_simp
          refine hK.out _ _ ?_ (fun hHeld => ?_)
          · exact mkS.out _ (grow_trans cb (grow_alloc _ _))
          clear hK K
          refine wpAnyH_ready (rs := [4]) (by kernel_rfl) (by simp) ?_
          refine AllReadyH.cons rfl (fun K hK => ?_) AllReadyH.nil
          · go_simp
            go_at_call 67
            with_reducible refine (HI.out _ _ (hd8.below (grow_alloc _ _))).mono ?_
            rintro e we ⟨rfl, rfl⟩
            refine hK.out _ _ ?_ (fun hHeld => ?_)
            · exact mkS.out _ (grow_trans cb (grow_alloc _ _))
            clear hK K
            refine wpAnyH_ready (rs := [7]) (by kernel_rfl) (by simp) ?_
            refine AllReadyH.cons rfl (fun K hK => ?_) AllReadyH.nil
            · go_simp
              go_at_call 68
              refine (HN.out _ _ _ (grow_trans hb1.out (grow_trans cb (grow_alloc _ _))) (ho.out.below (grow_trans cb (grow_alloc _ _))) (Sl.boxAt (hp0 _ _))).mono ?_
              rintro e wn ⟨vn, rfl, hon, hbn⟩
              obtain ⟨A2, c2, rfl, hA2⟩ := own_form hon
              obtain ⟨gn, rfl, hgn, _⟩ := hA2 (by omega)
              have kn := hon.cellAt 0 (by omega)
              simp only [List.getElem?_cons_zero] at kn
              clear hon hA2
              have hBn := box_ne (bx.below (grow_alloc _ _)) hbn hgn
              try simp only [World.size_alloc, drew_size] at hBn
              replace bx := BoxB.below (bx.below (grow_alloc _ _)) hbn
              replace cb := grow_trans (grow_trans cb (grow_alloc _ _)) hbn
              refine hK.out _ _ ?_ (fun hHeld => ?_)
              · exact mkS.out _ cb
              clear hK K
              refine wpAnyH_sub (S' := fun W => W.cell? ⟨gn, 0, none⟩ = some (.int .i64 sp) ∧ Below w1.heap.size w1 W) (fun W h => mkS.out W h.2) _ _ _ _ ?_
              have hHeld : wn.cell? ⟨gn, 0, none⟩ = some (.int .i64 sp) ∧ Below w1.heap.size w1 wn := ⟨kn, cb⟩
              refine wpAnyH_take (i := 8) (v := ?_) rfl (by kernel_rfl) (by kernel_rfl) (by kernel_rfl) (fun _ _ _ h => h) (Or.inl ⟨by rfl, ?_⟩) (by assumption) ?_
              rotate_left
              · intro w hSw
                try dsimp only at hSw
                go_simp
                try (with_reducible rfl)
              try simp only [Act.put, List.setIfInBounds_toArray, List.set_cons_zero, List.set_cons_succ]
              refine wpAnyH_take (i := 9) (v := ?_) rfl (by kernel_rfl) (by kernel_rfl) (by kernel_rfl) (fun _ _ _ h => h) (Or.inl ⟨by rfl, ?_⟩) (by assumption) ?_
              rotate_left
              · intro w hSw
                try dsimp only at hSw
                go_simp
                try (with_reducible rfl)
              try simp only [Act.put, List.setIfInBounds_toArray, List.set_cons_zero, List.set_cons_succ]
              refine wpAnyH_take (i := 10) (v := ?_) rfl (by kernel_rfl) (by kernel_rfl) (by kernel_rfl) (fun _ _ _ h => h) (Or.inl ⟨by rfl, ?_⟩) (by assumption) ?_
              rotate_left
              · intro w hSw
                try dsimp only at hSw
                go_simp
                try (with_reducible rfl)
              try simp only [Act.put, List.setIfInBounds_toArray, List.set_cons_zero, List.set_cons_succ]
              obtain ⟨⟨bx0, bx1⟩, bf0, bf1⟩ := bx.cells
              have hge := (World.ownsRow.lt bx _ rfl).1
              have hB2 := (bx.set0 F).set1 sp
              have cb2 := (cb.setCell (p := ⟨_, 0, none⟩) hge (.int .i64 F)).setCell (p := ⟨_, 1, none⟩) hge (.int .i64 sp)
              refine wpAnyH_ready (rs := [12]) (by kernel_rfl) (by simp) (AllReadyH.cons rfl (fun K hK => ?_) AllReadyH.nil)
              go_simp
              refine hK.out _ _ ?_ (fun hHeld => ?_)
              · refine ⟨?_, cb2⟩
                rw [World.cell?_setCell_far _ _ _ _ hBn, World.cell?_setCell_far _ _ _ _ hBn]
                exact kn
              clear hK K
              refine wpAnyH_done (by kernel_rfl) ?_ _
              have hb := Lib.hid (grow_trans hb1.out cb2)
              have HB2 := Lib.hid (HB1.out.below cb2)
              obtain ⟨⟨d0, d1⟩, _⟩ := hB2.cells
              have hB3 := Lib.hid hB2
              clear hB2 cb2 cb hHeld kn mkS ho HN HI HD
              go_wp2_with fail
              clear d0 d1
              refine (HF.out _ hb.out).mono ?_
              rintro e w3 ⟨rfl, hbz⟩
              obtain ⟨⟨d0, d1⟩, _⟩ := (hB3.out.below hbz).cells
              have HB4 := Lib.hid (HB2.out.below hbz)
              have hb4 := Lib.hid (grow_trans hb.out hbz)
              obtain ⟨⟨c0, c1⟩, f0, f1⟩ := HB4.out.cells
              clear hbz HB2 hb hB3 HF
              cases b with
              | false =>
                have HRR := Lib.hid (congrArg Ending.returned (HQ1.out rfl).symm)
                clear HQ1 HQ2 HQ3
                go_wp2
                change bodyPost _ _ _ _ _ (putB w3 w.heap.size 0 0)
                obtain ⟨⟨e0, e1⟩, _⟩ := (HB4.out.put (f := 0) (s := 0)).cells
                have hz := Lib.hid (putB_below (f := 0) (s := 0) hb4.out (Nat.le_refl w.heap.size))
                generalize putB w3 w.heap.size 0 0 = wz at *
                exact bodyPost_ret (v := .tuple #[.agg #[.int .i64 0, .int .i64 0], .bool false]) (by simp [results, Tryd.results28, go_sem, e0, e1]) rfl ⟨HRR.out, hz.out⟩
              | true =>
                by_cases hms : m = s
                · have hq' : (m.toList == s.toList) = true := by rw [hms]; simp
                  have HRR := Lib.hid (congrArg Ending.returned (HQ3.out rfl hms).symm)
                  clear HQ1 HQ2 HQ3
                  go_wp2
                  change bodyPost _ _ _ _ _ (putB w3 w.heap.size F sp)
                  obtain ⟨⟨e0, e1⟩, _⟩ := (HB4.out.put (f := F) (s := sp)).cells
                  have hz := Lib.hid (putB_below (f := F) (s := sp) hb4.out (Nat.le_refl w.heap.size))
                  generalize putB w3 w.heap.size F sp = wz at *
                  exact bodyPost_ret (v := .tuple #[.agg #[.int .i64 F, .int .i64 sp], .bool true]) (by simp [results, Tryd.results28, go_sem, e0, e1]) rfl ⟨HRR.out, hz.out⟩
                · have hne := bytes_ne hms
                  have HRR := Lib.hid (congrArg Ending.returned (HQ2.out rfl hms).symm)
                  clear HQ1 HQ2 HQ3
                  go_wp2
                  change bodyPost _ _ _ _ _ (putB w3 w.heap.size 0 0)
                  obtain ⟨⟨e0, e1⟩, _⟩ := (HB4.out.put (f := 0) (s := 0)).cells
                  have hz := Lib.hid (putB_below (f := 0) (s := 0) hb4.out (Nat.le_refl w.heap.size))
                  generalize putB w3 w.heap.size 0 0 = wz at *
                  exact bodyPost_ret (v := .tuple #[.agg #[.int .i64 0, .int .i64 0], .bool false]) (by simp [results, Tryd.results28, go_sem, e0, e1]) rfl ⟨HRR.out, hz.out⟩
      · go_simp
        refine hK.out _ _ ?_ (fun hHeld => ?_)
        · exact mkS.out _ (grow_trans (grow_trans cb (grow_alloc _ _)) (grow_alloc _ _))
        clear hK K
        refine wpAnyH_ready (rs := [0]) (by kernel_rfl) (by simp) ?_
        refine AllReadyH.cons rfl (fun K hK => ?_) AllReadyH.nil
        · go_simp
          go_at_call 62
          with_reducible refine (HD.out _).mono ?_
          rintro e wc ⟨⟨g8, rfl, hg8⟩, hbc⟩
          have hd8 := dir_sl hg8
          clear hg8
          have hlit := Sl.below (Sl.boxAt (x := .int .i64 1) (hp2 w1.drew (.cells #[.int .i64 0, .int .i64 0] 41) (.cells #[.int .i64 1] 3))) hbc
          have bx := BoxB.below ((BoxB.new _ w1.heap.size (Below.size cb) 0 0).below (grow_alloc _ _)) hbc
          try simp only [World.size_alloc, drew_size] at bx
          replace cb := grow_trans (grow_trans (grow_trans cb (grow_alloc _ _)) (grow_alloc _ _)) hbc
          refine hK.out _ _ ?_ (fun hHeld => ?_)
          · exact mkS.out _ cb
          clear hK K
          refine wpAnyH_ready (rs := [4]) (by kernel_rfl) (by simp) ?_
          refine AllReadyH.cons rfl (fun K hK => ?_) AllReadyH.nil
          · go_simp
            go_at_call 67
            with_reducible refine (HI.out _ _ hd8).mono ?_
            rintro e we ⟨rfl, rfl⟩
            refine hK.out _ _ ?_ (fun hHeld => ?_)
            · exact mkS.out _ cb
            clear hK K
            refine wpAnyH_ready (rs := [7]) (by kernel_rfl) (by simp) ?_
            refine AllReadyH.cons rfl (fun K hK => ?_) AllReadyH.nil
            · go_simp
              go_at_call 68
              refine (HN.out _ _ _ (grow_trans hb1.out cb) (ho.out.below cb) hlit).mono ?_
              rintro e wn ⟨vn, rfl, hon, hbn⟩
              obtain ⟨A2, c2, rfl, hA2⟩ := own_form hon
              obtain ⟨gn, rfl, hgn, _⟩ := hA2 (by omega)
              have kn := hon.cellAt 0 (by omega)
              simp only [List.getElem?_cons_zero] at kn
              clear hon hA2
              have hBn := box_ne bx hbn hgn
              try simp only [World.size_alloc, drew_size] at hBn
              replace bx := BoxB.below bx hbn
              replace cb := grow_trans cb hbn
              refine hK.out _ _ ?_ (fun hHeld => ?_)
              · exact mkS.out _ cb
              clear hK K
              refine wpAnyH_sub (S' := fun W => W.cell? ⟨gn, 0, none⟩ = some (.int .i64 sp) ∧ Below w1.heap.size w1 W) (fun W h => mkS.out W h.2) _ _ _ _ ?_
              have hHeld : wn.cell? ⟨gn, 0, none⟩ = some (.int .i64 sp) ∧ Below w1.heap.size w1 wn := ⟨kn, cb⟩
              refine wpAnyH_take (i := 8) (v := ?_) rfl (by kernel_rfl) (by kernel_rfl) (by kernel_rfl) (fun _ _ _ h => h) (Or.inl ⟨by rfl, ?_⟩) (by assumption) ?_
              rotate_left
              · intro w hSw
                try dsimp only at hSw
                go_simp
                try (with_reducible rfl)
              try simp only [Act.put, List.setIfInBounds_toArray, List.set_cons_zero, List.set_cons_succ]
              refine wpAnyH_take (i := 9) (v := ?_) rfl (by kernel_rfl) (by kernel_rfl) (by kernel_rfl) (fun _ _ _ h => h) (Or.inl ⟨by rfl, ?_⟩) (by assumption) ?_
              rotate_left
              · intro w hSw
                try dsimp only at hSw
                go_simp
                try (with_reducible rfl)
              try simp only [Act.put, List.setIfInBounds_toArray, List.set_cons_zero, List.set_cons_succ]
              refine wpAnyH_take (i := 10) (v := ?_) rfl (by kernel_rfl) (by kernel_rfl) (by kernel_rfl) (fun _ _ _ h => h) (Or.inl ⟨by rfl, ?_⟩) (by assumption) ?_
              rotate_left
              · intro w hSw
                try dsimp only at hSw
                go_simp
                try (with_reducible rfl)
              try simp only [Act.put, List.setIfInBounds_toArray, List.set_cons_zero, List.set_cons_succ]
              obtain ⟨⟨bx0, bx1⟩, bf0, bf1⟩ := bx.cells
              have hge := (World.ownsRow.lt bx _ rfl).1
              have hB2 := (bx.set0 F).set1 sp
              have cb2 := (cb.setCell (p := ⟨_, 0, none⟩) hge (.int .i64 F)).setCell (p := ⟨_, 1, none⟩) hge (.int .i64 sp)
              refine wpAnyH_ready (rs := [12]) (by kernel_rfl) (by simp) (AllReadyH.cons rfl (fun K hK => ?_) AllReadyH.nil)
              go_simp
              refine hK.out _ _ ?_ (fun hHeld => ?_)
              · refine ⟨?_, cb2⟩
                rw [World.cell?_setCell_far _ _ _ _ hBn, World.cell?_setCell_far _ _ _ _ hBn]
                exact kn
              clear hK K
              refine wpAnyH_done (by kernel_rfl) ?_ _
              have hb := Lib.hid (grow_trans hb1.out cb2)
              have HB2 := Lib.hid (HB1.out.below cb2)
              obtain ⟨⟨d0, d1⟩, _⟩ := hB2.cells
              have hB3 := Lib.hid hB2
              clear hB2 cb2 cb hHeld kn mkS ho HN HI HD
              go_wp2_with fail
              clear d0 d1
              refine (HF.out _ hb.out).mono ?_
              rintro e w3 ⟨rfl, hbz⟩
              obtain ⟨⟨d0, d1⟩, _⟩ := (hB3.out.below hbz).cells
              have HB4 := Lib.hid (HB2.out.below hbz)
              have hb4 := Lib.hid (grow_trans hb.out hbz)
              obtain ⟨⟨c0, c1⟩, f0, f1⟩ := HB4.out.cells
              clear hbz HB2 hb hB3 HF
              cases b with
              | false =>
                have HRR := Lib.hid (congrArg Ending.returned (HQ1.out rfl).symm)
                clear HQ1 HQ2 HQ3
                go_wp2
                change bodyPost _ _ _ _ _ (putB w3 w.heap.size 0 0)
                obtain ⟨⟨e0, e1⟩, _⟩ := (HB4.out.put (f := 0) (s := 0)).cells
                have hz := Lib.hid (putB_below (f := 0) (s := 0) hb4.out (Nat.le_refl w.heap.size))
                generalize putB w3 w.heap.size 0 0 = wz at *
                exact bodyPost_ret (v := .tuple #[.agg #[.int .i64 0, .int .i64 0], .bool false]) (by simp [results, Tryd.results28, go_sem, e0, e1]) rfl ⟨HRR.out, hz.out⟩
              | true =>
                by_cases hms : m = s
                · have hq' : (m.toList == s.toList) = true := by rw [hms]; simp
                  have HRR := Lib.hid (congrArg Ending.returned (HQ3.out rfl hms).symm)
                  clear HQ1 HQ2 HQ3
                  go_wp2
                  change bodyPost _ _ _ _ _ (putB w3 w.heap.size F sp)
                  obtain ⟨⟨e0, e1⟩, _⟩ := (HB4.out.put (f := F) (s := sp)).cells
                  have hz := Lib.hid (putB_below (f := F) (s := sp) hb4.out (Nat.le_refl w.heap.size))
                  generalize putB w3 w.heap.size F sp = wz at *
                  exact bodyPost_ret (v := .tuple #[.agg #[.int .i64 F, .int .i64 sp], .bool true]) (by simp [results, Tryd.results28, go_sem, e0, e1]) rfl ⟨HRR.out, hz.out⟩
                · have hne := bytes_ne hms
                  have HRR := Lib.hid (congrArg Ending.returned (HQ2.out rfl hms).symm)
                  clear HQ1 HQ2 HQ3
                  go_wp2
                  change bodyPost _ _ _ _ _ (putB w3 w.heap.size 0 0)
                  obtain ⟨⟨e0, e1⟩, _⟩ := (HB4.out.put (f := 0) (s := 0)).cells
                  have hz := Lib.hid (putB_below (f := 0) (s := 0) hb4.out (Nat.le_refl w.heap.size))
                  generalize putB w3 w.heap.size 0 0 = wz at *
                  exact bodyPost_ret (v := .tuple #[.agg #[.int .i64 0, .int .i64 0], .bool false]) (by simp [results, Tryd.results28, go_sem, e0, e1]) rfl ⟨HRR.out, hz.out⟩
    --NEG
end Go.Proofs.YtabedcpibnnnhaaDoor
