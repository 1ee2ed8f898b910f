/- ParseFuel in the program and in the reference. Conditions: as each states. -/
import Derived.Test.YtnadeddkogapoaaGreatDoorFuT
import Derived.Test.YtnadeddkogapoaaGreatDoorNumI
import Derived.Test.YtnadeddkogapoaaGreatDoorSplR
import Derived.Test.YtnadeddkogapoaaGreatDoorFus
import Derived.Deep.RegionHeldLaw
namespace Go.Proofs.YtnadeddkogapoaaGreatDoor
open Go.ChangeShapes Go.WideShapes Go.ChangeAt Go.RowKit Go.Deep
set_option linter.unusedVariables false
set_option linter.unusedSimpArgs false
set_option maxRecDepth 100000

/-- A fuel and whether there is one. -/
def fuR (b : Bool) (i : Int) (n : ByteArray) (r l o : Int) : Value := if b then .tuple #[fuV i n r l o, .bool true] else .tuple #[fuV 0 (⟨#[]⟩ : ByteArray) 0 0 0, .bool false]
open Classical in
/-- Whether a text is a fuel's. -/
noncomputable def pfB (s : ByteArray) (ws : List ByteArray) : Bool :=
  decide (ws.length = 8) && fuelB (nmW ws 0) (ws.getD 1 ⟨#[]⟩).data.toList (nmW ws 3) (nmW ws 5) (nmW ws 7) && decide (fuT (nmW ws 0) (ws.getD 1 ⟨#[]⟩) (nmW ws 3) (nmW ws 5) (nmW ws 7) = s)
/-- The fuel of a text. -/
noncomputable def pfV (s : ByteArray) (ws : List ByteArray) : Value := fuR (pfB s ws) (nmW ws 0) (ws.getD 1 ⟨#[]⟩) (nmW ws 3) (nmW ws 5) (nmW ws 7)
theorem fuR_shape (b : Bool) (i : Int) (n : ByteArray) (r l o : Int) : ∃ i' n' r' l' o' b', fuR b i n r l o = .tuple #[fuV i' n' r' l' o', .bool b'] := by cases b <;> exact ⟨_, _, _, _, _, _, rfl⟩
theorem pf_not {s : ByteArray} {ws : List ByteArray} (h : pfB s ws = false) : pfV s ws = .tuple #[fuV 0 (⟨#[]⟩ : ByteArray) 0 0 0, .bool false] := by unfold pfV; rw [h]; rfl
theorem pf_len {s : ByteArray} {ws : List ByteArray} (h : ¬ ws.length = 8) : pfB s ws = false := by unfold pfB; simp [h]
theorem pf_bad {s : ByteArray} {ws : List ByteArray} (h : fuelB (nmW ws 0) (ws.getD 1 ⟨#[]⟩).data.toList (nmW ws 3) (nmW ws 5) (nmW ws 7) = false) : pfB s ws = false := by unfold pfB; simp only [h, Bool.and_false, Bool.false_and]
theorem pf_ne {s : ByteArray} {ws : List ByteArray} (h : ¬ fuT (nmW ws 0) (ws.getD 1 ⟨#[]⟩) (nmW ws 3) (nmW ws 5) (nmW ws 7) = s) : pfB s ws = false := by unfold pfB; simp only [decide_eq_false h, Bool.and_false]
theorem pf_yes {s : ByteArray} {ws : List ByteArray} (h1 : ws.length = 8) (h2 : fuelB (nmW ws 0) (ws.getD 1 ⟨#[]⟩).data.toList (nmW ws 3) (nmW ws 5) (nmW ws 7) = true) (h3 : fuT (nmW ws 0) (ws.getD 1 ⟨#[]⟩) (nmW ws 3) (nmW ws 5) (nmW ws 7) = s) :
    pfV s ws = .tuple #[fuV (nmW ws 0) (ws.getD 1 ⟨#[]⟩) (nmW ws 3) (nmW ws 5) (nmW ws 7), .bool true] := by
  have : pfB s ws = true := by unfold pfB; rw [decide_eq_true h1, h2, decide_eq_true h3]; rfl
  unfold pfV; rw [this]; rfl
theorem pf_cases (s : ByteArray) (ws : List ByteArray) (h8 : ws.length = 8) : ∃ m b, strV (fuelB (nmW ws 0) (ws.getD 1 ⟨#[]⟩).data.toList (nmW ws 3) (nmW ws 5) (nmW ws 7)) (fuT (nmW ws 0) (ws.getD 1 ⟨#[]⟩) (nmW ws 3) (nmW ws 5) (nmW ws 7)) = .tuple #[.string m, .bool b] ∧
    (b = false → pfV s ws = .tuple #[fuV 0 (⟨#[]⟩ : ByteArray) 0 0 0, .bool false]) ∧ (b = true → ¬ m = s → pfV s ws = .tuple #[fuV 0 (⟨#[]⟩ : ByteArray) 0 0 0, .bool false]) ∧
    (b = true → m = s → pfV s ws = .tuple #[fuV (nmW ws 0) (ws.getD 1 ⟨#[]⟩) (nmW ws 3) (nmW ws 5) (nmW ws 7), .bool true]) := by
  cases hf : fuelB (nmW ws 0) (ws.getD 1 ⟨#[]⟩).data.toList (nmW ws 3) (nmW ws 5) (nmW ws 7) with
  | false => exact ⟨_, _, rfl, fun _ => pf_not (pf_bad hf), (by intro h; cases h), (by intro h; cases h)⟩
  | true => exact ⟨_, _, rfl, (by intro h; cases h), fun _ h => pf_not (pf_ne h), fun _ h => pf_yes h8 hf h⟩
/-- A world with five cells stored. -/
def putF (w : World) (B : Nat) (i : Int) (n : ByteArray) (r l o : Int) : World := ((((w.setCell ⟨B, 0, none⟩ (.int .i64 i)).setCell ⟨B, 1, none⟩ (.string n)).setCell ⟨B, 2, none⟩ (.int .i64 r)).setCell ⟨B, 3, none⟩ (.int .i64 l)).setCell ⟨B, 4, none⟩ (.int .i64 o)
/-- A box of five cells. -/
def BoxF (w : World) (base B : Nat) (i : Int) (n : ByteArray) (r l o : Int) : Prop := w.ownsRow base 25 5 (.slice (some ⟨B, 0, none⟩) 1 1) 1 (encU ⟨i, n, r, l, o⟩)
theorem BoxF.put {w : World} {base B : Nat} {i : Int} {n : ByteArray} {r l o i' : Int} {n' : ByteArray} {r' l' o' : Int} (h : BoxF w base B i' n' r' l' o') : BoxF (putF w B i n r l o) base B i n r l o := by
  have s1 := World.ownsRow.stored h 0 (.int .i64 i)
  have s2 := s1.1.stored 1 (.string n)
  have s3 := s2.1.stored 2 (.int .i64 r)
  have s4 := s3.1.stored 3 (.int .i64 l)
  have s5 := s4.1.stored 4 (.int .i64 o)
  exact s5.1
theorem put_below {a w : World} {B : Nat} {b : Nat} {i : Int} {n : ByteArray} {r l o : Int} (h : Below b a w) (hB : b ≤ B) : Below b a (putF w B i n r l o) :=
  ((((h.setCell (p := ⟨B, 0, none⟩) hB _).setCell (p := ⟨B, 1, none⟩) hB _).setCell (p := ⟨B, 2, none⟩) hB _).setCell (p := ⟨B, 3, none⟩) hB _).setCell (p := ⟨B, 4, none⟩) hB _
theorem BoxF.cells {w : World} {base B : Nat} {i : Int} {n : ByteArray} {r l o : Int} (h : BoxF w base B i n r l o) :
    (w.cell? ⟨B, 0, none⟩ = some (.int .i64 i) ∧ w.cell? ⟨B, 1, none⟩ = some (.string n) ∧ w.cell? ⟨B, 2, none⟩ = some (.int .i64 r) ∧ w.cell? ⟨B, 3, none⟩ = some (.int .i64 l) ∧ w.cell? ⟨B, 4, none⟩ = some (.int .i64 o)) ∧ w.frozen? ⟨B, 0, none⟩ = false ∧ w.frozen? ⟨B, 1, none⟩ = false ∧ w.frozen? ⟨B, 2, none⟩ = false ∧ w.frozen? ⟨B, 3, none⟩ = false ∧ w.frozen? ⟨B, 4, none⟩ = false :=
  ⟨⟨World.ownsRow.cellAt h 0 (by omega), World.ownsRow.cellAt h 1 (by omega), World.ownsRow.cellAt h 2 (by omega), World.ownsRow.cellAt h 3 (by omega), World.ownsRow.cellAt h 4 (by omega)⟩, World.ownsRow.frozenAt h _, World.ownsRow.frozenAt h _, World.ownsRow.frozenAt h _, World.ownsRow.frozenAt h _, World.ownsRow.frozenAt h _⟩
theorem BoxF.below {w w' : World} {base B : Nat} {i : Int} {n : ByteArray} {r l o : Int} (h : BoxF w base B i n r l o) (hb : Below w.heap.size w w') : BoxF w' base B i n r l o := own_below h hb
theorem BoxF.new (w : World) (base : Nat) (hw : base ≤ w.heap.size) (i : Int) (n : ByteArray) (r l o : Int) : BoxF (w.alloc (.cells #[.int .i64 i, .string n, .int .i64 r, .int .i64 l, .int .i64 o] 25)) base w.heap.size i n r l o := by
  have := World.ownsRow_lit (base := base) (e := 25) (size := 5) w #[.int .i64 i, .string n, .int .i64 r, .int .i64 l, .int .i64 o] 1 hw (by unfold maxLen; omega) (by rfl)
  simpa [encU, BoxF] using this
theorem pf_long {s : ByteArray} {ws : List ByteArray} (h : 60 < s.size) : pfB s ws = false := by
  cases hp : pfB s ws with
  | false => rfl
  | true =>
    exfalso
    unfold pfB at hp
    simp only [Bool.and_eq_true, decide_eq_true_eq] at hp
    obtain ⟨⟨_, hf⟩, he⟩ := hp
    obtain ⟨f1, f2, f3, f4, f5⟩ := fuelB_iff.1 hf
    have f1 := inB_iff.1 f1
    have := fuT_size (i := nmW ws 0) (n := ws.getD 1 ⟨#[]⟩) (r := nmW ws 3) (l := nmW ws 5) (o := nmW ws 7) (by omega) (word_size f2) (by omega) (by omega) (by omega)
    rw [he] at this
    omega
theorem words_at {W : World} {A : Option Addr} {c : Nat} {ws : List ByteArray} (h : Sl W 1 (.slice A 8 c) 8 (strs ws)) (h8 : ws.length = 8) : ∃ b off, A = some ⟨b, off, none⟩ ∧ b < W.heap.size ∧ ∀ (i : Nat) x W', Below W.heap.size W W' → ws[i]? = some x → W'.cell? ⟨b, off + i, none⟩ = some (.string x) := by
  obtain ⟨b, off, x, rfl, hx, hc⟩ := Sl.at1 h h8 (show 0 < 8 by omega)
  refine ⟨b, off, rfl, World.block_lt_of_cell? _ _ hc, fun i x W' hb hx => ?_⟩
  have hi : i < 8 := by have := (List.getElem?_eq_some_iff.1 hx).1; omega
  obtain ⟨b', off', x', e, hx', hc⟩ := (h.below hb).at1 h8 hi
  obtain ⟨rfl, rfl⟩ : b = b' ∧ off = off' := by simpa using e
  rw [hx] at hx'
  cases hx'
  exact hc
theorem BoxF.set0 {w : World} {base B : Nat} {i : Int} {n : ByteArray} {r l o : Int} (h : BoxF w base B i n r l o) (k : Int) : BoxF (w.setCell ⟨B, 0, none⟩ (.int .i64 k)) base B k n r l o := (World.ownsRow.stored h 0 (.int .i64 k)).1
theorem BoxF.set2 {w : World} {base B : Nat} {i : Int} {n : ByteArray} {r l o : Int} (h : BoxF w base B i n r l o) (k : Int) : BoxF (w.setCell ⟨B, 2, none⟩ (.int .i64 k)) base B i n k l o := (World.ownsRow.stored h 2 (.int .i64 k)).1
theorem BoxF.set3 {w : World} {base B : Nat} {i : Int} {n : ByteArray} {r l o : Int} (h : BoxF w base B i n r l o) (k : Int) : BoxF (w.setCell ⟨B, 3, none⟩ (.int .i64 k)) base B i n r k o := (World.ownsRow.stored h 3 (.int .i64 k)).1
theorem BoxF.set4 {w : World} {base B : Nat} {i : Int} {n : ByteArray} {r l o : Int} (h : BoxF w base B i n r l o) (k : Int) : BoxF (w.setCell ⟨B, 4, none⟩ (.int .i64 k)) base B i n r l k := (World.ownsRow.stored h 4 (.int .i64 k)).1
set_option maxHeartbeats 16000000 in
theorem ParseFuel_any (s : ByteArray) (w : World) (hs : s.size ≤ 1048576) (hm : LenIs w) (ht : Lib.TabIs Tryz.prog w "internal/strconv.uint64pow10" .u64 Lib.pow10Tab) (hy : SynIs w) :
    Calls Tryz.prog 9 #[.string s] w fun e w' => e = .returned (pfV s (splitS s 32)) ∧ Below w.heap.size w w' := by
  have hb0 : Hid (Below w.heap.size w (w.alloc (.cells #[.int .i64 0, .string (⟨#[]⟩ : ByteArray), .int .i64 0, .int .i64 0, .int .i64 0] 25))) := grow_alloc _ _
  have HB : Hid (BoxF (w.alloc (.cells #[.int .i64 0, .string (⟨#[]⟩ : ByteArray), .int .i64 0, .int .i64 0, .int .i64 0] 25)) w.heap.size w.heap.size 0 (⟨#[]⟩ : ByteArray) 0 0 0) := BoxF.new w _ (Nat.le_refl _) _ _ _ _ _
  have HS := Lib.hid (Split_any s 32 _ hs (hm.below hb0.out))
  have hpc : ∀ p ∈ splitS s 32, p.size ≤ 1048576 := fun p hp => Nat.le_trans (split_piece hp) hs
  generalize hWS : splitS s 32 = ws at *
  clear hWS hs hm
  have HPV := Lib.hid (fun h => pf_not (s := s) (ws := ws) (pf_len h))
  by_cases h8 : ws.length = 8
  case neg =>
    have hR := HPV.out h8
    rw [hR]
    have h8' : ((ws.length : Int) == 8) = false := by rw [beq_eq_false_iff_ne]; omega
    clear hR HPV hpc ht hy
    go_enter Tryz.func9, Tryz.ntmps9
    go_wp2_with fail
    refine HS.out.mono ?_
    rintro e w1 ⟨v, rfl, ho, hb⟩
    obtain ⟨A, c, rfl⟩ := (Sl.of_own ho).val
    have HB1 := HB.out.below hb
    obtain ⟨⟨c0, c1, c2, c3, c4⟩, f0, f1, f2, f3, f4⟩ := HB1.cells
    have HB1 := Lib.hid HB1
    replace hb := Lib.hid (grow_trans hb0.out hb)
    clear ho hb0 HB HS
    go_wp2
    change bodyPost _ _ _ _ _ (putF w1 w.heap.size 0 ⟨#[]⟩ 0 0 0)
    obtain ⟨⟨d0, d1, d2, d3, d4⟩, _⟩ := (HB1.out.put (i := 0) (n := ⟨#[]⟩) (r := 0) (l := 0) (o := 0)).cells
    have hz := Lib.hid (put_below (i := 0) (n := ⟨#[]⟩) (r := 0) (l := 0) (o := 0) hb.out (Nat.le_refl w.heap.size))
    generalize putF w1 w.heap.size 0 ⟨#[]⟩ 0 0 0 = wz at *
    exact bodyPost_ret (v := .tuple #[fuV 0 ⟨#[]⟩ 0 0 0, .bool false]) (by simp [results, Tryz.results9, go_sem, d0, d1, d2, d3, d4]) rfl ⟨rfl, hz.out⟩
  case pos =>
    obtain ⟨m, b, hst, hq1, hq2, hq3⟩ := pf_cases s ws h8
    have HF : Hid (∀ W, Below w.heap.size w W → Calls Tryz.prog 6 #[fuV (nmW ws 0) (ws.getD 1 ⟨#[]⟩) (nmW ws 3) (nmW ws 5) (nmW ws 7)] W fun e w' => e = .returned (.tuple #[.string m, .bool b]) ∧ Below W.heap.size W w') := by
      show ∀ W, _
      intro W hW
      rw [← hst]
      refine FuelText_any _ _ _ _ _ W ?_ (tab_below gPow ht hW)
      have : ws.getD 1 ⟨#[]⟩ ∈ ws := by rw [List.getD_eq_getElem?_getD, List.getElem?_eq_getElem (by omega)]; exact List.getElem_mem _
      have := hpc _ this
      unfold maxLen; omega
    have HN : Hid (∀ W (u : Value) (B : Nat), Below w.heap.size w W → Sl W 1 u 8 (strs ws) → Sl W 1 (.slice (some ⟨B, 0, none⟩) 4 4) 4 (ints [0, 3, 5, 7]) → Calls Tryz.prog 34 #[u, .slice (some ⟨B, 0, none⟩) 4 4] W (RetOwn W 3 1 4 (ints [nmW ws 0, nmW ws 3, nmW ws 5, nmW ws 7]))) := by
      show ∀ W u B, _
      intro W u B hW hu hv
      exact numbersIn_any u _ ws [0, 3, 5, 7] W (by rw [h8]; exact hu) hv hpc (by simp) (by simp) (tab_below gPow ht hW) (syn_below hy hW)
    obtain ⟨x1, hx1⟩ : ∃ x, ws[1]? = some x := ⟨_, List.getElem?_eq_getElem (by omega)⟩
    have e1 : ws.getD 1 ⟨#[]⟩ = x1 := by rw [List.getD_eq_getElem?_getD, hx1]; rfl
    rw [e1] at HF hq3
    have hxs : Hid ((strs ws)[1]? = some (.string x1)) := by show _ = _; simp [hx1]
    have hw8 : Hid (ws.length = 8) := h8
    generalize nmW ws 0 = n0 at *
    generalize nmW ws 3 = n3 at *
    generalize nmW ws 5 = n5 at *
    generalize nmW ws 7 = n7 at *
    generalize pfV s ws = R at *
    have HQ1 := Lib.hid hq1
    have HQ2 := Lib.hid hq2
    have HQ3 := Lib.hid hq3
    clear hst hq1 hq2 hq3 e1 hx1 hpc ht hy HPV
    rw [h8] at HS
    clear h8
    generalize strs ws = ss at *
    go_enter Tryz.func9, Tryz.ntmps9
    go_wp2_with fail
    refine HS.out.mono ?_
    rintro e w1 ⟨v, rfl, ho, hb⟩
    obtain ⟨A, c, rfl, hA⟩ := own_form ho
    obtain ⟨g, rfl, hg1, hg2⟩ := hA (by omega)
    have HB1 := Lib.hid (HB.out.below hb)
    have hb1 := Lib.hid (grow_trans hb0.out hb)
    have ho := Lib.hid ho
    clear hb HB HS hg1 hg2
    go_wp2_with fail
    refine (HN.out _ _ _ (grow_trans hb1.out (grow_alloc _ _)) ((Sl.of_own ho.out).below (grow_alloc _ _)) (Sl.of_own (by
      have := World.ownsRow_lit (base := w1.heap.size) (e := 3) (size := 1) w1 #[.int .i64 0, .int .i64 3, .int .i64 5, .int .i64 7] 4 (Nat.le_refl _) (by unfold maxLen; omega) rfl
      simpa using this))).mono ?_
    rintro e w2 ⟨v2, rfl, ho2, hb2⟩
    replace hb2 := grow_trans (grow_alloc w1 (.cells #[.int .i64 0, .int .i64 3, .int .i64 5, .int .i64 7] 3)) hb2
    obtain ⟨A2, c2, rfl, hA2⟩ := own_form ho2
    obtain ⟨g2, rfl, hg1, hg2⟩ := hA2 (by omega)
    have k0 := ho2.cellAt 0 (by omega)
    have k1 := ho2.cellAt 1 (by omega)
    have k2 := ho2.cellAt 2 (by omega)
    have k3 := ho2.cellAt 3 (by omega)
    have k4 := (own_below ho.out hb2).cellAt 1 (by omega)
    rw [hxs.out] at k4
    simp only [List.map_cons, List.map_nil, List.getElem?_cons_zero, List.getElem?_cons_succ] at k0 k1 k2 k3
    have HB2 := Lib.hid (HB1.out.below hb2)
    have hb2 := Lib.hid (grow_trans hb1.out hb2)
    clear ho2 ho hb1 HB1 hg1 hg2 HN hxs
    have mkS : Hid (∀ W, Below w2.heap.size w2 W → W.cell? ⟨g2, 0, none⟩ = some (.int .i64 n0) ∧ W.cell? ⟨g2, 1, none⟩ = some (.int .i64 n3) ∧ W.cell? ⟨g2, 2, none⟩ = some (.int .i64 n5) ∧ W.cell? ⟨g2, 3, none⟩ = some (.int .i64 n7) ∧ W.cell? ⟨g, 1, none⟩ = some (.string x1) ∧ Below w2.heap.size w2 W) := fun W hW => ⟨cell_below k0 hW, cell_below k1 hW, cell_below k2 hW, cell_below k3 hW, cell_below k4 hW, hW⟩
    go_wp2_with fail
    go_region_held_law (fun W => W.cell? ⟨g2, 0, none⟩ = some (.int .i64 n0) ∧ W.cell? ⟨g2, 1, none⟩ = some (.int .i64 n3) ∧ W.cell? ⟨g2, 2, none⟩ = some (.int .i64 n5) ∧ W.cell? ⟨g2, 3, none⟩ = some (.int .i64 n7) ∧ W.cell? ⟨g, 1, none⟩ = some (.string x1) ∧ Below w2.heap.size w2 W)
      (first | exact mkS.out _ (grow_drew _) | exact mkS.out _ (grow_trans (grow_drew _) (grow_alloc _ _)) | exact mkS.out _ (by first | assumption | exact (‹_ ∧ _ ∧ _ ∧ _ ∧ _ ∧ Below w2.heap.size w2 _›).2.2.2.2.2) | exact mkS.out _ (grow_trans (by first | assumption | exact (‹_ ∧ _ ∧ _ ∧ _ ∧ _ ∧ Below w2.heap.size w2 _›).2.2.2.2.2) (grow_alloc _ _)))
      (fail)
    clear mkS k0 k1 k2 k3 k4
    go_wp2_with fail
    refine (HF.out _ (grow_trans hb2.out (grow_trans (grow_alloc _ _) (grow_drew _)))).mono ?_
    rintro e w3 ⟨rfl, hb⟩
    obtain ⟨⟨d0, d1, d2, d3, d4⟩, _⟩ := (((BoxF.new w2 w2.heap.size (Nat.le_refl _) n0 x1 n3 n5 n7).below (grow_drew _)).below hb).cells
    have HB4 := Lib.hid ((HB2.out.below (grow_trans (grow_alloc _ _) (grow_drew _))).below hb)
    have hb4 := Lib.hid (grow_trans hb2.out (grow_trans (grow_trans (grow_alloc _ _) (grow_drew _)) hb))
    obtain ⟨⟨c0, c1, c2, c3, c4⟩, f0, f1, f2, f3, f4⟩ := HB4.out.cells
    clear hb HB2 hb2 HF
    cases b with
    | false =>
      have HRR := Lib.hid (congrArg Ending.returned (HQ1.out rfl).symm)
      clear HQ1 HQ2 HQ3
      go_wp2
      change bodyPost _ _ _ _ _ (putF w3 w.heap.size 0 ⟨#[]⟩ 0 0 0)
      obtain ⟨⟨e0, e1, e2, e3, e4⟩, _⟩ := (HB4.out.put (i := 0) (n := ⟨#[]⟩) (r := 0) (l := 0) (o := 0)).cells
      have hz := Lib.hid (put_below (i := 0) (n := ⟨#[]⟩) (r := 0) (l := 0) (o := 0) hb4.out (Nat.le_refl w.heap.size))
      generalize putF w3 w.heap.size 0 ⟨#[]⟩ 0 0 0 = wz at *
      exact bodyPost_ret (v := .tuple #[fuV 0 ⟨#[]⟩ 0 0 0, .bool false]) (by simp [results, Tryz.results9, go_sem, e0, e1, e2, e3, e4]) rfl ⟨HRR.out, hz.out⟩
    | true =>
      by_cases hms : m = s
      · subst hms
        have HRR := Lib.hid (congrArg Ending.returned (HQ3.out rfl rfl).symm)
        clear HQ1 HQ2 HQ3
        go_wp2
        change bodyPost _ _ _ _ _ (putF w3 w.heap.size n0 x1 n3 n5 n7)
        obtain ⟨⟨e0, e1, e2, e3, e4⟩, _⟩ := (HB4.out.put (i := n0) (n := x1) (r := n3) (l := n5) (o := n7)).cells
        have hz := Lib.hid (put_below (i := n0) (n := x1) (r := n3) (l := n5) (o := n7) hb4.out (Nat.le_refl w.heap.size))
        generalize putF w3 w.heap.size n0 x1 n3 n5 n7 = wz at *
        exact bodyPost_ret (v := .tuple #[fuV n0 x1 n3 n5 n7, .bool true]) (by simp [results, Tryz.results9, go_sem, e0, e1, e2, e3, e4]) rfl ⟨HRR.out, hz.out⟩
      · have hne := bytes_ne hms
        have HRR := Lib.hid (congrArg Ending.returned (HQ2.out rfl hms).symm)
        clear HQ1 HQ2 HQ3
        go_wp2
        change bodyPost _ _ _ _ _ (putF w3 w.heap.size 0 ⟨#[]⟩ 0 0 0)
        obtain ⟨⟨e0, e1, e2, e3, e4⟩, _⟩ := (HB4.out.put (i := 0) (n := ⟨#[]⟩) (r := 0) (l := 0) (o := 0)).cells
        have hz := Lib.hid (put_below (i := 0) (n := ⟨#[]⟩) (r := 0) (l := 0) (o := 0) hb4.out (Nat.le_refl w.heap.size))
        generalize putF w3 w.heap.size 0 ⟨#[]⟩ 0 0 0 = wz at *
        exact bodyPost_ret (v := .tuple #[fuV 0 ⟨#[]⟩ 0 0 0, .bool false]) (by simp [results, Tryz.results9, go_sem, e0, e1, e2, e3, e4]) rfl ⟨HRR.out, hz.out⟩
set_option maxHeartbeats 16000000 in
theorem sParseFuel_any (s : ByteArray) (w : World) (hs : s.size ≤ 1048576) :
    Calls Tryz.prog 11 #[.string s] w fun e w' => e = .returned (pfV s (splitS s 32)) ∧ Below w.heap.size w w' := by
  have hb0 : Hid (Below w.heap.size w (w.alloc (.cells #[.int .i64 0, .string (⟨#[]⟩ : ByteArray), .int .i64 0, .int .i64 0, .int .i64 0] 25))) := grow_alloc _ _
  have HB : Hid (BoxF (w.alloc (.cells #[.int .i64 0, .string (⟨#[]⟩ : ByteArray), .int .i64 0, .int .i64 0, .int .i64 0] 25)) w.heap.size w.heap.size 0 (⟨#[]⟩ : ByteArray) 0 0 0) := BoxF.new w _ (Nat.le_refl _) _ _ _ _ _
  have HS := Lib.hid (l1Split_any s 32 (w.alloc (.cells #[.int .i64 0, .string (⟨#[]⟩ : ByteArray), .int .i64 0, .int .i64 0, .int .i64 0] 25)) hs)
  have hpc : ∀ p ∈ splitS s 32, p.size ≤ 1048576 := fun p hp => Nat.le_trans (split_piece hp) hs
  generalize hWS : splitS s 32 = ws at *
  clear hWS
  by_cases hbad : 60 < s.size ∨ ¬ ws.length = 8
  case pos =>
    have hR : pfV s ws = .tuple #[fuV 0 (⟨#[]⟩ : ByteArray) 0 0 0, .bool false] := pf_not (by rcases hbad with h | h; exact pf_long h; exact pf_len h)
    rw [hR]
    clear hR hpc
    by_cases h60 : 60 < s.size
    · have h60' : decide ((60 : Int) < (s.size : Int)) = true := decide_eq_true (by omega)
      clear hbad
      go_enter Tryz.func11, Tryz.ntmps11
      go_wp2_with fail
      refine HS.out.mono ?_
      rintro e w1 ⟨v, rfl, ho, hb⟩
      obtain ⟨A, c, rfl⟩ := (Sl.of_q ho).val
      have HB1 := HB.out.below hb
      obtain ⟨⟨c0, c1, c2, c3, c4⟩, f0, f1, f2, f3, f4⟩ := HB1.cells
      have HB1 := Lib.hid HB1
      replace hb := Lib.hid (grow_trans hb0.out hb)
      clear ho hb0 HB HS
      go_wp2
      change bodyPost _ _ _ _ _ (putF w1 w.heap.size 0 ⟨#[]⟩ 0 0 0)
      obtain ⟨⟨e0, e1, e2, e3, e4⟩, _⟩ := (HB1.out.put (i := 0) (n := ⟨#[]⟩) (r := 0) (l := 0) (o := 0)).cells
      have hz := Lib.hid (put_below (i := 0) (n := ⟨#[]⟩) (r := 0) (l := 0) (o := 0) hb.out (Nat.le_refl w.heap.size))
      generalize putF w1 w.heap.size 0 ⟨#[]⟩ 0 0 0 = wz at *
      exact bodyPost_ret (v := .tuple #[fuV 0 ⟨#[]⟩ 0 0 0, .bool false]) (by simp [results, Tryz.results11, go_sem, e0, e1, e2, e3, e4]) rfl ⟨rfl, hz.out⟩
    · have h8 : ¬ ws.length = 8 := by rcases hbad with h | h; exact absurd h h60; exact h
      have h8' : ((ws.length : Int) == 8) = false := by rw [beq_eq_false_iff_ne]; omega
      have h60' : decide ((60 : Int) < (s.size : Int)) = false := decide_eq_false (by omega)
      have h8'' : ((ws.length : Int) != 8) = true := by rw [bne, h8']; rfl
      clear hbad
      go_enter Tryz.func11, Tryz.ntmps11
      go_wp2_with fail
      refine HS.out.mono ?_
      rintro e w1 ⟨v, rfl, ho, hb⟩
      obtain ⟨A, c, rfl⟩ := (Sl.of_q ho).val
      have HB1 := HB.out.below hb
      obtain ⟨⟨c0, c1, c2, c3, c4⟩, f0, f1, f2, f3, f4⟩ := HB1.cells
      have HB1 := Lib.hid HB1
      replace hb := Lib.hid (grow_trans hb0.out hb)
      clear ho hb0 HB HS
      go_wp2
      change bodyPost _ _ _ _ _ (putF w1 w.heap.size 0 ⟨#[]⟩ 0 0 0)
      obtain ⟨⟨e0, e1, e2, e3, e4⟩, _⟩ := (HB1.out.put (i := 0) (n := ⟨#[]⟩) (r := 0) (l := 0) (o := 0)).cells
      have hz := Lib.hid (put_below (i := 0) (n := ⟨#[]⟩) (r := 0) (l := 0) (o := 0) hb.out (Nat.le_refl w.heap.size))
      generalize putF w1 w.heap.size 0 ⟨#[]⟩ 0 0 0 = wz at *
      exact bodyPost_ret (v := .tuple #[fuV 0 ⟨#[]⟩ 0 0 0, .bool false]) (by simp [results, Tryz.results11, go_sem, e0, e1, e2, e3, e4]) rfl ⟨rfl, hz.out⟩
  case neg =>
    have h8 : ws.length = 8 := by
      by_cases h : ws.length = 8
      · exact h
      · exact absurd (Or.inr h) hbad
    have h60' : decide ((60 : Int) < (s.size : Int)) = false := decide_eq_false fun h => hbad (Or.inl (by omega))
    clear hbad
    have hat : ∀ k, k < 8 → ∃ x, ws[k]? = some x ∧ nmW ws k = rdN x ∧ x.size ≤ 1048576 := fun k hk => ⟨_, List.getElem?_eq_getElem (by omega), nmW_at (List.getElem?_eq_getElem (by omega)), hpc _ (List.getElem_mem _)⟩
    obtain ⟨x0, hx0, m0, z0⟩ := hat 0 (by omega)
    obtain ⟨x1, hx1, m1, z1⟩ := hat 1 (by omega)
    obtain ⟨x3, hx3, m3, z3⟩ := hat 3 (by omega)
    obtain ⟨x5, hx5, m5, z5⟩ := hat 5 (by omega)
    obtain ⟨x7, hx7, m7, z7⟩ := hat 7 (by omega)
    have e1 : ws.getD 1 ⟨#[]⟩ = x1 := by rw [List.getD_eq_getElem?_getD, hx1]; rfl
    have rd : ∀ x : ByteArray, x.size ≤ 1048576 → ∃ b, ∀ W, Calls Tryz.prog 39 #[.string x] W fun e w' => e = .returned (.tuple #[.int .i64 (rdN x), .bool b]) ∧ Below W.heap.size W w' := fun x hx => by
      obtain ⟨b, hb⟩ := piR_rd x
      exact ⟨b, fun W => by have := l1Read_any x W hx; rw [hb] at this; exact this⟩
    obtain ⟨b0, hr0⟩ := rd x0 z0
    obtain ⟨b3, hr3⟩ := rd x3 z3
    obtain ⟨b5, hr5⟩ := rd x5 z5
    obtain ⟨b7, hr7⟩ := rd x7 z7
    have HO := Lib.hid fun W => l3One_any (rdN x0) x1 (rdN x3) (rdN x5) (rdN x7) W (by unfold maxLen; omega)
    have HT : Hid (fuelB (rdN x0) x1.data.toList (rdN x3) (rdN x5) (rdN x7) = true → ∀ W, Calls Tryz.prog 30 #[fuV (rdN x0) x1 (rdN x3) (rdN x5) (rdN x7)] W fun e w' => e = .returned (.string (fuT (rdN x0) x1 (rdN x3) (rdN x5) (rdN x7))) ∧ Below W.heap.size W w') := by
      show _ → ∀ W, _
      intro hf W
      obtain ⟨f1, f2, f3, f4, f5⟩ := fuelB_iff.1 hf
      have f1 := inB_iff.1 f1
      exact l3Text_any _ _ _ _ _ W (by omega) (word_size f2) (by omega) (by omega) (by omega)
    have HQ1 := Lib.hid fun h => pf_not (s := s) (ws := ws) (pf_bad h)
    have HQ2 := Lib.hid fun h => pf_not (s := s) (ws := ws) (pf_ne h)
    have HQ3 := Lib.hid (pf_yes (s := s) (ws := ws) h8)
    rw [m0, m3, m5, m7, e1] at HQ1 HQ2 HQ3
    have HWs : Hid (∀ (W : World) (A : Option Addr) (c : Nat), Sl W 1 (.slice A 8 c) 8 (strs ws) → ∃ b off, A = some ⟨b, off, none⟩ ∧ b < W.heap.size ∧ ∀ W', Below W.heap.size W W' → W'.cell? ⟨b, off, none⟩ = some (.string x0) ∧ W'.cell? ⟨b, off + 1, none⟩ = some (.string x1) ∧ W'.cell? ⟨b, off + 3, none⟩ = some (.string x3) ∧ W'.cell? ⟨b, off + 5, none⟩ = some (.string x5) ∧ W'.cell? ⟨b, off + 7, none⟩ = some (.string x7)) := by
      show ∀ W A c, _
      intro W A c h
      obtain ⟨b, off, e, hb, h⟩ := words_at h h8
      exact ⟨b, off, e, hb, fun W' hW => ⟨h 0 _ _ hW hx0, h 1 _ _ hW hx1, h 3 _ _ hW hx3, h 5 _ _ hW hx5, h 7 _ _ hW hx7⟩⟩
    have Hr0 := Lib.hid hr0
    have Hr3 := Lib.hid hr3
    have Hr5 := Lib.hid hr5
    have Hr7 := Lib.hid hr7
    rw [h8] at HS
    change Hid (Calls _ _ _ _ (RetQ _ _ 1 8 (strs ws))) at HS
    clear hr0 hr3 hr5 hr7 m0 m1 m3 m5 m7 z0 z1 z3 z5 z7 e1 hx0 hx1 hx3 hx5 hx7 rd hat hpc h8
    generalize strs ws = ss at *
    generalize pfV s ws = R at *
    generalize fuT (rdN x0) x1 (rdN x3) (rdN x5) (rdN x7) = m at *
    generalize fuelB (rdN x0) x1.data.toList (rdN x3) (rdN x5) (rdN x7) = b at *
    generalize rdN x0 = n0 at *
    generalize rdN x3 = n3 at *
    generalize rdN x5 = n5 at *
    generalize rdN x7 = n7 at *
    go_enter Tryz.func11, Tryz.ntmps11
    go_wp2_with fail
    refine HS.out.mono ?_
    rintro e w1 ⟨v, rfl, ho, hb⟩
    obtain ⟨A, c, rfl⟩ := (Sl.of_q ho).val
    obtain ⟨g, off, rfl, hg, hwd⟩ := HWs.out _ _ _ (Sl.of_q ho)
    have HB1 := Lib.hid (HB.out.below hb)
    have hb1 := Lib.hid (grow_trans hb0.out hb)
    have Hwd := Lib.hid hwd
    have hne : g ≠ w1.heap.size := by omega
    have hne' : ¬ g = w1.heap.size := hne
    obtain ⟨k0, k1, k3, k5, k7⟩ := hwd w1 (Below.refl _ _)
    clear hb HB HS ho hwd HWs
    have HX : Hid (BoxF (w1.alloc (.cells #[.int .i64 0, .string x1, .int .i64 0, .int .i64 0, .int .i64 0] 25)) w1.heap.size w1.heap.size 0 x1 0 0 0) := BoxF.new w1 _ (Nat.le_refl _) _ _ _ _ _
    have hx : Hid (Below w1.heap.size w1 (w1.alloc (.cells #[.int .i64 0, .string x1, .int .i64 0, .int .i64 0, .int .i64 0] 25))) := grow_alloc _ _
    go_wp2_with fail
    clear k0 k1 k3 k5 k7 hne'
    refine (Hr0.out _).mono ?_
    rintro e w2 ⟨rfl, hb⟩
    have HX' := HX.out.below hb
    have hx' := grow_trans hx.out hb
    obtain ⟨⟨c0, c1, c2, c3, c4⟩, f0, f1, f2, f3, f4⟩ := HX'.cells
    obtain ⟨k0, k1, k3, k5, k7⟩ := Hwd.out w2 hx'
    have hq' := hx'.setCell (p := ⟨w1.heap.size, 0, none⟩) (Nat.le_refl w1.heap.size) (.int .i64 n0)
    obtain ⟨⟨d0, d1, d2, d3, d4⟩, g0, g1, g2, g3, g4⟩ := (HX'.set0 n0).cells
    obtain ⟨j0, j1, j3, j5, j7⟩ := Hwd.out _ hq'
    replace HX := Lib.hid (HX'.set0 n0)
    replace hx := Lib.hid hq'
    clear hb HX' hx' hq' Hr0
    go_wp2_with fail
    clear c0 c1 c2 c3 c4 f0 f1 f2 f3 f4 k0 k1 k3 k5 k7 d0 d1 d2 d3 d4 g0 g1 g2 g3 g4 j0 j1 j3 j5 j7
    refine (Hr3.out _).mono ?_
    rintro e w3 ⟨rfl, hb⟩
    have HX' := HX.out.below hb
    have hx' := grow_trans hx.out hb
    obtain ⟨⟨c0, c1, c2, c3, c4⟩, f0, f1, f2, f3, f4⟩ := HX'.cells
    obtain ⟨k0, k1, k3, k5, k7⟩ := Hwd.out w3 hx'
    have hq' := hx'.setCell (p := ⟨w1.heap.size, 2, none⟩) (Nat.le_refl w1.heap.size) (.int .i64 n3)
    obtain ⟨⟨d0, d1, d2, d3, d4⟩, g0, g1, g2, g3, g4⟩ := (HX'.set2 n3).cells
    obtain ⟨j0, j1, j3, j5, j7⟩ := Hwd.out _ hq'
    replace HX := Lib.hid (HX'.set2 n3)
    replace hx := Lib.hid hq'
    clear hb HX' hx' hq' Hr3
    go_wp2_with fail
    clear c0 c1 c2 c3 c4 f0 f1 f2 f3 f4 k0 k1 k3 k5 k7 d0 d1 d2 d3 d4 g0 g1 g2 g3 g4 j0 j1 j3 j5 j7
    refine (Hr5.out _).mono ?_
    rintro e w4 ⟨rfl, hb⟩
    have HX' := HX.out.below hb
    have hx' := grow_trans hx.out hb
    obtain ⟨⟨c0, c1, c2, c3, c4⟩, f0, f1, f2, f3, f4⟩ := HX'.cells
    obtain ⟨k0, k1, k3, k5, k7⟩ := Hwd.out w4 hx'
    have hq' := hx'.setCell (p := ⟨w1.heap.size, 3, none⟩) (Nat.le_refl w1.heap.size) (.int .i64 n5)
    obtain ⟨⟨d0, d1, d2, d3, d4⟩, g0, g1, g2, g3, g4⟩ := (HX'.set3 n5).cells
    obtain ⟨j0, j1, j3, j5, j7⟩ := Hwd.out _ hq'
    replace HX := Lib.hid (HX'.set3 n5)
    replace hx := Lib.hid hq'
    clear hb HX' hx' hq' Hr5
    go_wp2_with fail
    clear c0 c1 c2 c3 c4 f0 f1 f2 f3 f4 k0 k1 k3 k5 k7 d0 d1 d2 d3 d4 g0 g1 g2 g3 g4 j0 j1 j3 j5 j7
    refine (Hr7.out _).mono ?_
    rintro e w5 ⟨rfl, hb⟩
    have HX' := HX.out.below hb
    have hx' := grow_trans hx.out hb
    obtain ⟨⟨c0, c1, c2, c3, c4⟩, f0, f1, f2, f3, f4⟩ := HX'.cells
    obtain ⟨k0, k1, k3, k5, k7⟩ := Hwd.out w5 hx'
    have hq' := hx'.setCell (p := ⟨w1.heap.size, 4, none⟩) (Nat.le_refl w1.heap.size) (.int .i64 n7)
    obtain ⟨⟨d0, d1, d2, d3, d4⟩, g0, g1, g2, g3, g4⟩ := (HX'.set4 n7).cells
    obtain ⟨j0, j1, j3, j5, j7⟩ := Hwd.out _ hq'
    replace HX := Lib.hid (HX'.set4 n7)
    replace hx := Lib.hid hq'
    clear hb HX' hx' hq' Hr7
    go_wp2_with fail
    clear c0 c1 c2 c3 c4 f0 f1 f2 f3 f4 k0 k1 k3 k5 k7 d0 d1 d2 d3 d4 g0 g1 g2 g3 g4 j0 j1 j3 j5 j7
    refine (HO.out _).mono ?_
    rintro e w6 ⟨rfl, hb⟩
    have HX6 := Lib.hid (HX.out.below hb)
    have hx6 := Lib.hid (grow_trans hx.out hb)
    have HB6 := Lib.hid (HB1.out.below hx6.out)
    have hb6 := Lib.hid (grow_trans hb1.out hx6.out)
    clear HX hx hb HO Hwd
    cases b with
    | false =>
      have HRR := Lib.hid (congrArg Ending.returned (HQ1.out rfl).symm)
      clear HQ1 HQ2 HQ3 HT
      obtain ⟨⟨c0, c1, c2, c3, c4⟩, f0, f1, f2, f3, f4⟩ := HB6.out.cells
      clear HX6
      go_wp2
      change bodyPost _ _ _ _ _ (putF w6 w.heap.size 0 ⟨#[]⟩ 0 0 0)
      obtain ⟨⟨e0, e1, e2, e3, e4⟩, _⟩ := (HB6.out.put (i := 0) (n := ⟨#[]⟩) (r := 0) (l := 0) (o := 0)).cells
      have hz := Lib.hid (put_below (i := 0) (n := ⟨#[]⟩) (r := 0) (l := 0) (o := 0) hb6.out (Nat.le_refl w.heap.size))
      generalize putF w6 w.heap.size 0 ⟨#[]⟩ 0 0 0 = wz at *
      exact bodyPost_ret (v := .tuple #[fuV 0 ⟨#[]⟩ 0 0 0, .bool false]) (by simp [results, Tryz.results11, go_sem, e0, e1, e2, e3, e4]) rfl ⟨HRR.out, hz.out⟩
    | true =>
      obtain ⟨⟨d0, d1, d2, d3, d4⟩, _⟩ := HX6.out.cells
      have HT2 := Lib.hid (HT.out rfl)
      clear HT HQ1
      go_wp2_with fail
      clear d0 d1 d2 d3 d4
      refine (HT2.out _).mono ?_
      rintro e w7 ⟨rfl, hb⟩
      obtain ⟨⟨d0, d1, d2, d3, d4⟩, _⟩ := (HX6.out.below hb).cells
      have HB7 := Lib.hid (HB6.out.below hb)
      have hb7 := Lib.hid (grow_trans hb6.out hb)
      obtain ⟨⟨c0, c1, c2, c3, c4⟩, f0, f1, f2, f3, f4⟩ := HB7.out.cells
      clear HX6 HB6 hb6 hx6 hb HT2
      by_cases hms : m = s
      · subst hms
        have HRR := Lib.hid (congrArg Ending.returned (HQ3.out (by trivial) (by trivial)).symm)
        clear HQ2 HQ3
        go_wp2
        change bodyPost _ _ _ _ _ (putF w7 w.heap.size n0 x1 n3 n5 n7)
        obtain ⟨⟨e0, e1, e2, e3, e4⟩, _⟩ := (HB7.out.put (i := n0) (n := x1) (r := n3) (l := n5) (o := n7)).cells
        have hz := Lib.hid (put_below (i := n0) (n := x1) (r := n3) (l := n5) (o := n7) hb7.out (Nat.le_refl w.heap.size))
        generalize putF w7 w.heap.size n0 x1 n3 n5 n7 = wz at *
        exact bodyPost_ret (v := .tuple #[fuV n0 x1 n3 n5 n7, .bool true]) (by simp [results, Tryz.results11, go_sem, e0, e1, e2, e3, e4]) rfl ⟨HRR.out, hz.out⟩
      · have hms' := bytes_ne hms
        have HRR := Lib.hid (congrArg Ending.returned (HQ2.out hms).symm)
        clear HQ2 HQ3
        go_wp2
        change bodyPost _ _ _ _ _ (putF w7 w.heap.size 0 ⟨#[]⟩ 0 0 0)
        obtain ⟨⟨e0, e1, e2, e3, e4⟩, _⟩ := (HB7.out.put (i := 0) (n := ⟨#[]⟩) (r := 0) (l := 0) (o := 0)).cells
        have hz := Lib.hid (put_below (i := 0) (n := ⟨#[]⟩) (r := 0) (l := 0) (o := 0) hb7.out (Nat.le_refl w.heap.size))
        generalize putF w7 w.heap.size 0 ⟨#[]⟩ 0 0 0 = wz at *
        exact bodyPost_ret (v := .tuple #[fuV 0 ⟨#[]⟩ 0 0 0, .bool false]) (by simp [results, Tryz.results11, go_sem, e0, e1, e2, e3, e4]) rfl ⟨HRR.out, hz.out⟩
end Go.Proofs.YtnadeddkogapoaaGreatDoor
