/- Cells at the edge of a terrain, in the program and in the reference. Conditions: as each states. -/
import Derived.Test.YtefampjmbjbhcaaParts2
namespace Go.Proofs.Ytefampjmbjbhcaa
open Go.ChangeShapes Go.WideShapes Go.ChangeAt Go.RowKit Go.Deep
set_option linter.unusedVariables false
set_option linter.unusedSimpArgs false
set_option maxRecDepth 100000

/-- A cell lies at the edge of a terrain. -/
def brdB (x y c : Int) : Bool := (((c % x == 0) || (c / x == 0)) || (c % x == x - 1)) || (c / x == y - 1)
set_option maxHeartbeats 2000000 in
theorem isBorder_any (x y : Int) (u : Value) (c : Int) (w : World) (h1 : 1 ≤ x) (h2 : x ≤ 5) (y1 : 1 ≤ y) (y2 : y ≤ 5) (h3 : 0 ≤ c) (h4 : c ≤ 25) :
    Calls Try.prog 144 #[terrV x y u, .int .i64 c] w fun e w' => e = .returned (.bool (brdB x y c)) ∧ Below w.heap.size w w' := by
  have hq := fun n : Later (w.alloc (.cells #[.int .i64 x, .int .i64 y, u] 28)) => n.cell
  have HC := Lib.hid fun W => column_any x y u c W h1 h2 h3 h4
  have HR := Lib.hid fun W => row_any x y u c W h1 h2 h3 h4
  have HB : Hid (brdB x y c = ((((c % x == 0) || (c / x == 0)) || (c % x == x - 1)) || (c / x == y - 1))) := rfl
  obtain ⟨⟨p1, p2⟩, p3, p4⟩ := cell_bds h1 h2 h3 h4
  have m3 : IntKind.i64.wrap (x - 1) = x - 1 := IntWalk.i64_in _ (by omega)
  have m4 : IntKind.i64.wrap (y - 1) = y - 1 := IntWalk.i64_in _ (by omega)
  generalize brdB x y c = R at *
  generalize c % x = a at *
  generalize c / x = b at *
  cases e1 : (a == 0)
  · cases e2 : (b == 0)
    · cases e3 : (a == x - 1)
      · have hR : R = (b == y - 1) := by rw [HB.out, e1, e2, e3]; rfl
        subst hR
        clear HB
        go_enter Try.func144, Try.ntmps144
        go_wp2_with fail
        refine wp_region_later (by kernel_rfl) (by kernel_rfl) ?_
        repeat (go_big_quiet_step ((first | (go_at_call 178; exact later_of (HC.out _)) | (go_at_call 179; exact later_of (HR.out _)))))
        refine wpQuiet_nil ?_
        rintro _ ⟨wq, rfl⟩
        go_wp2
        go_ret
        exact ⟨rfl, grow_trans (grow_alloc _ _) wq.h⟩
      · have hR : R = true := by rw [HB.out, e1, e2, e3]; rfl
        subst hR
        clear HB
        go_enter Try.func144, Try.ntmps144
        go_wp2_with fail
        refine wp_region_later (by kernel_rfl) (by kernel_rfl) ?_
        repeat (go_big_quiet_step ((first | (go_at_call 178; exact later_of (HC.out _)) | (go_at_call 179; exact later_of (HR.out _)))))
        refine wpQuiet_nil ?_
        rintro _ ⟨wq, rfl⟩
        go_wp2
        go_ret
        exact ⟨rfl, grow_trans (grow_alloc _ _) wq.h⟩
    · have hR : R = true := by rw [HB.out, e1, e2]; rfl
      subst hR
      clear HB
      go_enter Try.func144, Try.ntmps144
      go_wp2_with fail
      refine wp_region_later (by kernel_rfl) (by kernel_rfl) ?_
      repeat (go_big_quiet_step ((first | (go_at_call 178; exact later_of (HC.out _)) | (go_at_call 179; exact later_of (HR.out _)))))
      refine wpQuiet_nil ?_
      rintro _ ⟨wq, rfl⟩
      go_wp2
      go_ret
      exact ⟨rfl, grow_trans (grow_alloc _ _) wq.h⟩
  · have hR : R = true := by rw [HB.out, e1]; rfl
    subst hR
    clear HB
    go_enter Try.func144, Try.ntmps144
    go_wp2_with fail
    refine wp_region_later (by kernel_rfl) (by kernel_rfl) ?_
    repeat (go_big_quiet_step ((first | (go_at_call 178; exact later_of (HC.out _)) | (go_at_call 179; exact later_of (HR.out _)))))
    refine wpQuiet_nil ?_
    rintro _ ⟨wq, rfl⟩
    go_wp2
    go_ret
    exact ⟨rfl, grow_trans (grow_alloc _ _) wq.h⟩
theorem callFunc_hol3 : ∀ args w, (callFunc 143 args).run Try.prog w = .ok (.enter 143 args) w := fun _ _ => by rfl
theorem callFunc_hol2 : ∀ args w, (callFunc 141 args).run Try.prog w = .ok (.enter 141 args) w := fun _ _ => by rfl
theorem callFunc_hol1 : ∀ args w, (callFunc 137 args).run Try.prog w = .ok (.enter 137 args) w := fun _ _ => by rfl
theorem callFunc_beside : ∀ args w, (callFunc 140 args).run Try.prog w = .ok (.enter 140 args) w := fun _ _ => by rfl
theorem hol3_any (x y : Int) (u : Value) (B : Nat) (c : Int) (w : World) (hT : TB w B x y u) (h1 : 1 ≤ x) (h2 : x ≤ 5) (y1 : 1 ≤ y) (y2 : y ≤ 5) (h3 : 0 ≤ c) (h4 : c ≤ 25) :
    Calls Try.prog 143 #[.int .i64 c, .pointer (some ⟨B, 0, none⟩)] w fun e w' => e = .returned (.bool (!brdB x y c)) ∧ Below w.heap.size w w' := by
  have HA := Lib.hid (isBorder_any x y u c w h1 h2 y1 y2 h3 h4)
  obtain ⟨t0, t1, t2⟩ := hT
  generalize brdB x y c = p at *
  go_enter Try.func143, Try.ntmps143
  go_wp2_with fail
  with_reducible refine HA.out.mono ?_
  rintro e w1 ⟨rfl, hb1⟩
  go_wp2
  go_ret
  exact ⟨rfl, hb1⟩
theorem hol2_any (x y : Int) (u : Value) (B : Nat) (v : Value) (pl : List Int) (w : World) (hT : TB w B x y u) (hv : Sl w 1 v pl.length (ints pl)) (h1 : 1 ≤ x) (h2 : x ≤ 5) (y1 : 1 ≤ y) (y2 : y ≤ 5) (hp : ∀ z ∈ pl, 0 ≤ z ∧ z ≤ 25) :
    Calls Try.prog 141 #[v, .pointer (some ⟨B, 0, none⟩)] w fun e w' => e = .returned (.bool (pl.all fun c => !brdB x y c)) ∧ Below w.heap.size w w' := by
  have HA := Lib.hid (all_intM_any v pl 143 #[] #[.pointer (some ⟨B, 0, none⟩)] (fun c => !brdB x y c) w hv callFunc_hol3
    (fun W z hz hW => by
      have := hol3_any x y u B z W (hT.below hW) h1 h2 y1 y2 (hp z hz).1 (hp z hz).2
      simpa using this))
  obtain ⟨A, c, rfl⟩ := hv.val
  clear hv
  generalize (pl.all fun c => !brdB x y c) = q at *
  generalize pl.length = N at *
  go_enter Try.func141, Try.ntmps141
  go_wp2_with fail
  with_reducible refine HA.out.mono ?_
  rintro e w1 ⟨rfl, hb1⟩
  go_wp2
  go_ret
  exact ⟨rfl, hb1⟩
theorem hol1_any (va : Value) (xs : List Int) (C : Nat) (z : Int) (w : World) (hc : w.cell? ⟨C, 0, none⟩ = some va) (ha : Sl w 1 va xs.length (ints xs)) :
    Calls Try.prog 137 #[.int .i64 z, .pointer (some ⟨C, 0, none⟩)] w fun e w' => e = .returned (.bool (!hasB xs z)) ∧ Below w.heap.size w w' := by
  have HA := Lib.hid (has_any va xs z w ha)
  obtain ⟨A, c, rfl⟩ := ha.val
  clear ha
  generalize hasB xs z = q at *
  go_enter Try.func137, Try.ntmps137
  go_wp2_with fail
  with_reducible refine HA.out.mono ?_
  rintro e w1 ⟨rfl, rfl⟩
  go_wp2
  go_ret
  exact ⟨rfl, Below.refl _ _⟩
theorem RowsV.add2 {w w' : World} {B : Nat} {ov ov' v : Value} {vs : List Value} {xss : List (List Int)} {l : List Int} (h : RowsV w B ov vs xss) (hv : w.ownsRow B 3 1 v l.length (ints l)) (hne : ∀ (i : Nat) (u : Value) (g : Nat), vs[i]? = some u → u.ownBlock = some g → v.ownBlock ≠ some g)
    (hq : Qw w' B 22 1 ov' (vs.length + 1) (vs ++ [v])) (hg : w.grownBy w' ov.ownBlock) : RowsV w' B ov' (vs ++ [v]) (xss ++ [l]) := by
  have hkp : ∀ {u : Value} {m : List Int}, w.ownsRow B 3 1 u m.length (ints m) → w'.ownsRow B 3 1 u m.length (ints m) := fun hu => own_kept hu hg (fun j hj e => by
    obtain ⟨c1, k1⟩ := own_kind hu hj
    obtain ⟨c2, k2⟩ := h.outer.kind e.symm
    exact kind_ne k1 k2 (by decide) rfl)
  refine ⟨by simpa using hq, by simp [h.len], fun i u m hu hm => ?_, fun i j u u' g hij hu hu' hgu => ?_⟩
  · by_cases hi : i < vs.length
    · rw [List.getElem?_append_left hi] at hu
      rw [List.getElem?_append_left (by rw [← h.len]; exact hi)] at hm
      exact hkp (h.row i u m hu hm)
    · have hi' : i = vs.length := by
        have := (List.getElem?_eq_some_iff.1 hu).1
        simp at this; omega
      subst hi'
      rw [List.getElem?_append_right (Nat.le_refl _)] at hu
      rw [h.len, List.getElem?_append_right (Nat.le_refl _)] at hm
      simp at hu hm
      subst hu hm
      exact hkp hv
  · by_cases hj : j < vs.length
    · rw [List.getElem?_append_left (by omega)] at hu
      rw [List.getElem?_append_left hj] at hu'
      exact h.apart i j u u' g hij hu hu' hgu
    · have hj' : j = vs.length := by
        have := (List.getElem?_eq_some_iff.1 hu').1
        simp at this; omega
      subst hj'
      rw [List.getElem?_append_left hij] at hu
      rw [List.getElem?_append_right (Nat.le_refl _)] at hu'
      simp at hu'
      subst hu'
      exact hne i u g hu hgu
theorem rfilt_yes {zs : List (List Int)} {p : List Int → Bool} {k : Nat} {z : List Int} (h : zs[k]? = some z) (hp : p z = true) : (zs.take (k + 1)).filter p = (zs.take k).filter p ++ [z] := by
  obtain ⟨hk, rfl⟩ := List.getElem?_eq_some_iff.1 h
  rw [List.take_succ_eq_append_getElem hk, List.filter_append]; simp [hp]
theorem rfilt_no {zs : List (List Int)} {p : List Int → Bool} {k : Nat} {z : List Int} (h : zs[k]? = some z) (hp : p z = false) : (zs.take (k + 1)).filter p = (zs.take k).filter p := by
  obtain ⟨hk, rfl⟩ := List.getElem?_eq_some_iff.1 h
  rw [List.take_succ_eq_append_getElem hk, List.filter_append]; simp [hp]
set_option maxHeartbeats 4000000 in
theorem filter_rows_any (v : Value) (vs : List Value) (xss : List (List Int)) (B : Nat) (g : Nat) (lb : Array Value) (p : List Int → Bool) (w : World) (h : RowsV w B v vs xss) (hB : B ≤ w.heap.size) (hn : xss.length ≤ 1048576)
    (eg : ∀ args w, (callFunc g args).run Try.prog w = .ok (.enter g args) w)
    (hp : ∀ (W : World) (i : Nat) (u : Value) (l : List Int), vs[i]? = some u → xss[i]? = some l → Below w.heap.size w W → Calls Try.prog g (#[u] ++ lb) W fun e w' => e = .returned (.bool (p l)) ∧ Below W.heap.size W w') :
    Calls Try.prog 138 #[v, .func (.func g) #[] lb] w fun e w' => ∃ u us, e = .returned u ∧ RowsV w' B u us (xss.filter p) ∧ Below w.heap.size w w' := by
  obtain ⟨i0, hi, hz0, hz1, hz2⟩ := info_parts info_ints
  have HV := Lib.hid h
  have Hp := Lib.hid hp
  obtain ⟨A, c, rfl⟩ := h.sl.outer.val
  have hlv := h.len
  have HLV := Lib.hid hlv
  clear h hp
  rw [hlv] at HV ⊢
  clear hlv
  generalize hN : xss.length = N at *
  have HN := Lib.hid hN
  clear hN
  have hq0 : Hid (RowsV (w.alloc (.cells #[] 22)) B (.slice (some ⟨w.heap.size, 0, none⟩) 0 0) [] ((xss.take 0).filter p)) := by
    show RowsV _ _ _ _ _
    exact RowsV.nil ((Qw.emptyAt (hp0 _ _) (Nat.le_refl _)).lower hB)
  go_enter Try.func138, Try.ntmps138
  go_wp2
  go_loopw [5, 11] (fun o i wr => ∃ k : Nat, k ≤ N ∧ i = .int .i64 k ∧ ∃ us : List Value, us.length ≤ k ∧ Hid (Below w.heap.size w wr) ∧ Hid (RowsV wr B o us ((xss.take k).filter p)) ∧ Hid (∀ j, o.ownBlock = some j → w.heap.size ≤ j) ∧ Hid (∀ (i : Nat) (u : Value), us[i]? = some u → ∃ j, j < k ∧ vs[j]? = some u)) (fun _ i _ => N - (intOf i).toNat)
  case atStart => exact ⟨0, Nat.zero_le _, rfl, [], by simp, grow_alloc _ _, hq0.out, fun j hj => by simp [Value.ownBlock] at hj; omega, by show ∀ i, _; simp⟩
  case round =>
    obtain ⟨k, hk, rfl, us, hul, hb, hR, ho, hin⟩ := hrel
    have hsz := hb.out.size
    by_cases hlt : k < N
    · have hvl := (HV.out.sl.below hb.out).outer
      rw [HLV.out] at hvl
      obtain ⟨b, off, z, rfl, hz, hcell⟩ := hvl.at1 HLV.out hlt
      simp only [id] at hcell
      obtain ⟨l, hl⟩ : ∃ l, xss[k]? = some l := ⟨_, List.getElem?_eq_getElem (by have := HN.out; omega)⟩
      have HC := Hp.out wr k z l hz hl hb.out
      have Hrow := Lib.hid (own_below (HV.out.row k z l hz hl) hb.out)
      have Hne : Hid (∀ (i : Nat) (u : Value) (g : Nat), us[i]? = some u → u.ownBlock = some g → z.ownBlock ≠ some g) := fun i u g hu hg => by
        obtain ⟨j, hj, hvj⟩ := hin.out i u hu
        exact HV.out.apart j k u z g hj hvj hz hg
      have Hin2 : Hid (∀ (i : Nat) (u : Value), (us ++ [z])[i]? = some u → ∃ j, j < k + 1 ∧ vs[j]? = some u) := fun i u hu => by
        by_cases hiu : i < us.length
        · rw [List.getElem?_append_left hiu] at hu
          obtain ⟨j, hj, hvj⟩ := hin.out i u hu
          exact ⟨j, by omega, hvj⟩
        · have hi' : i = us.length := by
            have := (List.getElem?_eq_some_iff.1 hu).1
            simp at this; omega
          subst hi'
          rw [List.getElem?_append_right (Nat.le_refl _)] at hu
          simp at hu
          subst hu
          exact ⟨k, by omega, hz⟩
      have Hl := Lib.hid hl
      have Hz := Lib.hid hz
      clear hvl hz hl
      cases hq : p l with
      | false =>
        rw [hq] at HC
        have HC := Lib.hid HC
        have Hq := Lib.hid hq
        clear hq
        go_wp2_with fail
        refine HC.out.mono ?_
        rintro e w1 ⟨rfl, hb1⟩
        have hR1 := Lib.hid (hR.out.below hb1)
        have hb1 := Lib.hid (grow_trans hb.out hb1)
        go_wp2
        go_roundw
        case rel => exact ⟨k + 1, by omega, by go_num, us, by omega, hb1.out, by show RowsV _ _ _ _ _; rw [rfilt_no Hl.out Hq.out]; exact hR1.out, ho.out, fun i u hu => by obtain ⟨j, hj, hvj⟩ := hin.out i u hu; exact ⟨j, by omega, hvj⟩⟩
        case measure => simp [intOf]; omega
      | true =>
        rw [hq] at HC
        have HC := Lib.hid HC
        have Hq := Lib.hid hq
        clear hq
        obtain ⟨Az, cz, rfl⟩ := (Sl.of_own Hrow.out).val
        go_wp2_with fail
        refine HC.out.mono ?_
        rintro e w1 ⟨rfl, hb1⟩
        have hs1 := hb1.size
        have hR1 := Lib.hid (hR.out.below hb1)
        have Hrow1 := Lib.hid (own_below Hrow.out hb1)
        have hb1 := Lib.hid (grow_trans hb.out hb1)
        clear HC
        go_wp2_with ((at_builtin; refine wpList_append_q _ rfl _ _ 49 rfl B 22 i0 (.slice none 0 0) 1 24 Try.underlying49 hi hz0 hz1 hz2 rfl (by decide) _ _ _ rfl (Qw.below hR1.out.outer (grow_alloc _ _)) _ 1 [.slice Az l.length cz] rfl (Sl.boxAt (hp0 _ _)) (by intro u hu; simp at hu; subst hu; rfl) (by unfold maxLen; omega) (by omega) (by simp; omega) ?_))
        intro vA wA hqA hgA hdA
        have hR7 := Lib.hid (RowsV.add2 (l := l) (hR1.out.below (grow_alloc _ _)) (own_below Hrow1.out (grow_alloc _ _)) Hne.out hqA hgA)
        have hb7 := Lib.hid ((hb1.out.alloc hb1.out.size _).grown hgA (by simp; omega) (fun j hj => ho.out j hj))
        have ho7 : Hid (∀ j, vA.ownBlock = some j → w.heap.size ≤ j) := fun j hj => by
          rcases hdA with e | e
          · exact ho.out j (e ▸ hj)
          · rw [e] at hj; cases hj; have := hb1.out.size; first | omega | (simp; omega)
        clear hgA hdA hqA
        go_wp2
        go_roundw
        case rel => exact ⟨k + 1, by omega, by go_num, _, by simp; omega, hb7.out, by show RowsV _ _ _ _ _; rw [rfilt_yes Hl.out Hq.out]; exact hR7.out, ho7.out, Hin2.out⟩
        case measure => simp [intOf]; omega
    · obtain rfl : k = N := by omega
      have hall : xss.take k = xss := List.take_of_length_le (by have := HN.out; omega)
      rw [hall] at hR
      clear hall
      go_wp2
      go_ret
      exact ⟨_, us, rfl, hR.out, hb.out⟩
theorem along_sym (x a b : Int) : alongB x a b = alongB x b a := by
  unfold alongB
  rw [Bool.eq_iff_iff]
  simp only [Bool.or_eq_true, beq_iff_eq]
  exact ⟨fun h => by rcases h with h | h; exact .inl h.symm; exact .inr h.symm, fun h => by rcases h with h | h; exact .inl h.symm; exact .inr h.symm⟩
/-- The cells outside a region. -/
def outL (N : Nat) (rg : List Int) : List Int := selN (fun k => !hasB rg k) N
/-- The part outside a region that holds a cell. -/
noncomputable def gapL (x : Int) (N : Nat) (rg : List Int) (c : Int) : List Int := rchL (fun d => d = c) (fun a b => (0 ≤ b ∧ b ≤ (N : Int) - 1) ∧ (hasB (outL N rg) b && besB x a b) = true) N
/-- The holes of a region. -/
noncomputable def holL (x y : Int) (N : Nat) (rg : List Int) : List (List Int) := (pcs (gapL x N rg) (outL N rg)).filter fun p => p.all fun c => !brdB x y c
theorem outL_iff {N : Nat} {rg : List Int} {c : Int} : c ∈ outL N rg ↔ (0 ≤ c ∧ c ≤ (N : Int) - 1) ∧ hasB rg c = false := by
  unfold outL
  rw [selN_mem]
  constructor
  · rintro ⟨k, hk, h, rfl⟩; exact ⟨by omega, by simpa using h⟩
  · rintro ⟨h1, h2⟩
    have e : ((c.toNat : Nat) : Int) = c := by omega
    exact ⟨c.toNat, by omega, by rw [e, h2]; rfl, e.symm⟩
theorem gap_cls {x : Int} {N : Nat} {rg : List Int} : Cls (gapL x N rg) (outL N rg) := by
  refine Cls.of_rch (fun a b ha h => ?_) (fun a b h => ?_) (fun c hc => (outL_iff.1 hc).1)
  · simp only [Bool.and_eq_true, besB, beq_iff_eq] at h ⊢
    exact ⟨(outL_iff.1 ha).1, hasB_iff.2 ha, by rw [apartN_comm]; exact h.2.2.1, by rw [along_sym]; exact h.2.2.2⟩
  · simp only [Bool.and_eq_true] at h
    exact hasB_iff.1 h.2.1
theorem gap_spr {x : Int} {N : Nat} {rg : List Int} {c : Int} (hc : c ∈ outL N rg) : rchL (sprS rg false c) (sprT x N rg false) N = gapL x N rg c := by
  refine rchL_congr (fun d => ?_) (fun a b => ?_)
  · unfold sprS
    exact ⟨fun h => h.1, fun h => ⟨h, by rw [h]; exact (outL_iff.1 hc).2⟩⟩
  · unfold sprT nbL
    simp only [Bool.false_eq_true, if_false, List.mem_filter, selN_mem, near_iff, Bool.and_eq_true, besB, beq_iff_eq, hasB_iff, outL_iff]
    constructor
    · rintro ⟨⟨⟨k, hk, h1, rfl⟩, h2⟩, h3⟩
      exact ⟨by omega, ⟨by omega, h3⟩, by rw [apartN_comm]; exact h1, by rw [along_sym]; exact h2⟩
    · rintro ⟨h0, ⟨_, h3⟩, h1, h2⟩
      exact ⟨⟨⟨b.toNat, by omega, by rw [show ((b.toNat : Nat) : Int) = b by omega, apartN_comm]; exact h1, by omega⟩, by rw [along_sym]; exact h2⟩, h3⟩
set_option maxHeartbeats 4000000 in
theorem holes_any (x y : Int) (u : Value) (zs : List Int) (va : Value) (xs : List Int) (w : World) (h : Sl w 1 u zs.length (ints zs)) (ha : Sl w 1 va xs.length (ints xs)) (h1 : 1 ≤ x) (h2 : x ≤ 5) (y1 : 1 ≤ y) (y2 : y ≤ 5) (hm25 : zs.length ≤ 25) :
    Calls Try.prog 80 #[terrV x y u, va] w (RetRows w (holL x y zs.length xs)) := by
  have hol : (outL zs.length xs).length ≤ 25 := Nat.le_trans (selN_le _ _) hm25
  have HS := Lib.hid fun W (hW : Below w.heap.size w W) (hC : W.cell? ⟨w.heap.size + 1, 0, none⟩ = some va) => cellsThat_any x y u zs 137 #[] #[.pointer (some ⟨w.heap.size + 1, 0, none⟩)] (fun k => !hasB xs k) W (h.below hW) (by omega) callFunc_hol1
    (fun W' k hk hW' => by
      have := hol1_any va xs (w.heap.size + 1) k W' (cell_below hC hW') (ha.below (grow_trans hW hW'))
      simpa using this)
  have HP := Lib.hid fun W nv (hW : Below w.heap.size w W) (hnv : Sl W 1 nv (outL zs.length xs).length (ints (outL zs.length xs))) => pieces_any x y u zs nv (outL zs.length xs) 140 #[terrV x y u] #[] (besB x) W (h.below hW) hnv hm25 hol (fun z hz => (outL_iff.1 hz).1) callFunc_beside
    (fun W' a b ha1 ha2 hb1 hb2 hW' => by
      have := beside_any x y u a b W' h1 h2 ha1 (by omega) hb1 (by omega)
      simpa using this)
  have hpl : (pcs (gapL x zs.length xs) (outL zs.length xs)).length ≤ 1048576 := by
    have := pcs_le (gapL x zs.length xs) (outL zs.length xs) (outL zs.length xs).length
    rw [List.take_length] at this
    omega
  have hpi : ∀ p ∈ pcs (gapL x zs.length xs) (outL zs.length xs), ∀ z ∈ p, 0 ≤ z ∧ z ≤ 25 := fun p hp z hz => by
    rw [pcs_eq gap_cls (selN_rise _ _)] at hp
    unfold heads at hp
    obtain ⟨c, _, rfl⟩ := List.mem_map.1 hp
    have := (mem_rchL.1 hz).1
    omega
  have HFl := Lib.hid fun W B v vs (hR : RowsV W B v vs (pcs (gapL x zs.length xs) (outL zs.length xs))) (hB : B ≤ W.heap.size) (hT : TB W w.heap.size x y u) => filter_rows_any v vs _ B 141 #[.pointer (some ⟨w.heap.size, 0, none⟩)] (fun p => p.all fun c => !brdB x y c) W hR hB hpl callFunc_hol2
    (fun W' i u' l hu hl hW' => by
      have := hol2_any x y u w.heap.size u' l W' (hT.below hW') (Sl.of_own (own_below (hR.row i u' l hu hl) hW')) h1 h2 y1 y2 (hpi l (List.mem_of_getElem? hl))
      simpa using this)
  obtain ⟨A, c, rfl⟩ := h.val
  obtain ⟨Aa, ca, rfl⟩ := ha.val
  have hTB0 : Hid (TB ((w.alloc (.cells #[.int .i64 x, .int .i64 y, .slice A zs.length c] 28)).alloc (.cells #[.slice Aa xs.length ca] 22)) w.heap.size x y (.slice A zs.length c)) := by show TB _ _ _ _ _; unfold TB; simp [go_sem]
  have hC0 : ((w.alloc (.cells #[.int .i64 x, .int .i64 y, .slice A zs.length c] 28)).alloc (.cells #[.slice Aa xs.length ca] 22)).cell? ⟨w.heap.size + 1, 0, none⟩ = some (.slice Aa xs.length ca) := by simp [go_sem]
  have hb0 : Hid (Below w.heap.size w ((w.alloc (.cells #[.int .i64 x, .int .i64 y, .slice A zs.length c] 28)).alloc (.cells #[.slice Aa xs.length ca] 22))) := two_news _ _ _
  have HC1 := Lib.hid (HS.out _ hb0.out hC0)
  have HX : Hid (holL x y zs.length xs = (pcs (gapL x zs.length xs) (outL zs.length xs)).filter fun p => p.all fun c => !brdB x y c) := rfl
  have HO : Hid (selN (fun k => !hasB xs k) zs.length = outL zs.length xs) := rfl
  rw [HO.out] at HC1
  have HP2 : Hid (∀ W nv, Below w.heap.size w W → Sl W 1 nv (outL zs.length xs).length (ints (outL zs.length xs)) → Calls Try.prog 139 #[terrV x y (.slice A zs.length c), nv, .func (.func 140) #[terrV x y (.slice A zs.length c)] #[]] W (RetRows W (pcs (gapL x zs.length xs) (outL zs.length xs)))) := HP.out
  clear h ha hC0 HS HP hpl hpi HO hol
  generalize holL x y zs.length xs = L at *
  generalize pcs (gapL x zs.length xs) (outL zs.length xs) = PL at *
  generalize outL zs.length xs = OL at *
  generalize zs.length = N at *
  generalize xs.length = M at *
  go_enter Try.func80, Try.ntmps80
  go_wp2_with fail
  with_reducible refine HC1.out.mono ?_
  rintro e w1 ⟨nv, rfl, on, hb1⟩
  have hT1 := Lib.hid (hTB0.out.below hb1)
  have hb2 := Lib.hid (grow_trans hb0.out hb1)
  have on := Lib.hid (Sl.of_own on)
  have HCP := Lib.hid (HP2.out w1 nv hb2.out on.out)
  obtain ⟨t0, t1, t2⟩ := hT1.out
  clear hb1 HC1 HP2
  go_wp2_with fail
  with_reducible refine HCP.out.mono ?_
  rintro e w2 ⟨v2, vs2, rfl, hR2, hb3⟩
  have hT2 := Lib.hid (hT1.out.below hb3)
  have HCF := Lib.hid (HFl.out w2 _ v2 vs2 hR2 hb3.size hT2.out)
  have hs2 := hb2.out.size
  have hb4 := Lib.hid (grow_trans hb2.out hb3)
  clear hb3 HCP HFl hR2 t0 t1 t2
  go_wp2_with fail
  with_reducible refine HCF.out.mono ?_
  rintro e w3 ⟨v3, vs3, rfl, hR3, hb5⟩
  have hR3 := Lib.hid (hR3.lower hs2)
  have hb6 := Lib.hid (grow_trans hb4.out hb5)
  clear hb5 HCF
  go_wp2
  go_ret
  exact ⟨_, vs3, rfl, by rw [HX.out]; exact hR3.out, hb6.out⟩
theorem any_at {l : List Int} {p : Int → Bool} {k : Nat} {z : Int} (h : l[k]? = some z) (hp : p z = true) : l.any p = true := List.any_eq_true.2 ⟨z, List.mem_of_getElem? h, hp⟩
set_option maxHeartbeats 4000000 in
theorem l6Border_any (x y : Int) (u : Value) (v : Value) (pl : List Int) (w : World) (hv : Sl w 1 v pl.length (ints pl)) (h1 : 1 ≤ x) (h2 : x ≤ 5) (y1 : 1 ≤ y) (y2 : y ≤ 5) (hp : ∀ z ∈ pl, 0 ≤ z ∧ z ≤ 25) :
    Calls Try.prog 133 #[terrV x y u, v] w fun e w' => e = .returned (.bool (pl.any (brdB x y))) ∧ Below w.heap.size w w' := by
  have hmx := hv.len
  unfold maxLen at hmx
  have Hs := Lib.hid fun W hW => hv.below (w' := W) hW
  have hTB0 : Hid (TB (w.alloc (.cells #[.int .i64 x, .int .i64 y, u] 28)) w.heap.size x y u) := by show TB _ _ _ _ _; unfold TB; simp [go_sem]
  have hb0 : Hid (Below w.heap.size w (w.alloc (.cells #[.int .i64 x, .int .i64 y, u] 28))) := grow_alloc _ _
  have Hp := Lib.hid hp
  obtain ⟨A, c, rfl⟩ := hv.val
  clear hv hp
  generalize hN : pl.length = N at *
  have HN := Lib.hid hN
  clear hN
  go_enter Try.func133, Try.ntmps133
  go_wp2
  go_loopw [5] (fun i wr => ∃ k : Nat, k ≤ N ∧ i = .int .i64 k ∧ Hid (Below w.heap.size w wr) ∧ Hid (TB wr w.heap.size x y u) ∧ Hid ((pl.take k).any (brdB x y) = false)) (fun i _ => N - (intOf i).toNat)
  case atStart => exact ⟨0, Nat.zero_le _, rfl, hb0.out, hTB0.out, by show _ = _; simp⟩
  case round =>
    obtain ⟨k, hk, rfl, hb, hT, hn⟩ := hrel
    by_cases hlt : k < N
    · obtain ⟨b, off, z, hA, hz, hcell⟩ := (Hs.out _ hb.out).at1 HN.out hlt
      subst hA
      obtain ⟨t0, t1, t2⟩ := hT.out
      have hzb := Hp.out z (List.mem_of_getElem? hz)
      obtain ⟨z1, z2, z3, z4⟩ := div_bds h1 h2 hzb.1 hzb.2
      obtain ⟨⟨p1, p2⟩, p3, p4⟩ := cell_bds h1 h2 hzb.1 hzb.2
      have hx0 : (x == 0) = false := by simpa using (show x ≠ 0 by omega)
      have hlt' : (k : Int) < (N : Int) := by omega
      have HB : Hid (brdB x y z = ((((z % x == 0) || (z / x == 0)) || (z % x == x - 1)) || (z / x == y - 1))) := rfl
      have Hany : Hid (brdB x y z = true → pl.any (brdB x y) = true) := any_at hz
      have Hstep : Hid (brdB x y z = false → (pl.take (k + 1)).any (brdB x y) = false) := fun h => by rw [any_take hz, hn.out, h]; rfl
      clear hz
      generalize brdB x y z = R at *
      generalize z % x = a at *
      generalize z / x = d at *
      cases hR : R with
      | true =>
        have Hr := Lib.hid (Hany.out hR)
        have hor : ((((a == 0) || (d == 0)) || (a == x - 1)) || (d == y - 1)) = true := by rw [← HB.out]; exact hR
        clear Hany Hstep HB hR
        cases e1 : (a == 0) <;> cases e2 : (d == 0) <;> cases e3 : (a == x - 1) <;> cases e4 : (d == y - 1) <;> simp only [e1, e2, e3, e4] at hor <;> first | (exfalso; revert hor; decide) | skip
        all_goals
          clear hor
          go_wp2_with fail
          go_quiet (fail)
          go_wp2
          go_ret
          exact ⟨by rw [Hr.out]; rfl, hb.out.trans ((grow_drewN wr _).mono hb.out.size)⟩
      | false =>
        have Hr := Lib.hid (Hstep.out hR)
        have hor : ((((a == 0) || (d == 0)) || (a == x - 1)) || (d == y - 1)) = false := by rw [← HB.out]; exact hR
        clear Hany Hstep HB hR
        simp only [Bool.or_eq_false_iff] at hor
        obtain ⟨⟨⟨e1, e2⟩, e3⟩, e4⟩ := hor
        go_wp2_with fail
        go_quiet (fail)
        go_wp2
        go_roundw
        case rel => exact ⟨k + 1, by omega, by go_num, hb.out.trans ((grow_drewN wr _).mono hb.out.size), hT.out.below (grow_drewN wr _), Hr.out⟩
        case measure => simp [intOf]; omega
    · obtain rfl : k = N := by omega
      have hall : pl.take k = pl := List.take_of_length_le (by have := HN.out; omega)
      rw [hall] at hn
      clear hall
      go_wp2
      go_ret
      exact ⟨by rw [hn.out]; rfl, hb.out⟩
end Go.Proofs.Ytefampjmbjbhcaa
