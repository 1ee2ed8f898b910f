/- Rows filtered; the holes of a region, in the program. Conditions: as each states. -/
import Derived.Test.YtjobjdmheocheaaHoles
namespace Go.Proofs.Ytjobjdmheocheaa
open Go.ChangeShapes Go.WideShapes Go.ChangeAt Go.RowKit Go.Deep
set_option linter.unusedVariables false
set_option linter.unusedSimpArgs false
set_option maxRecDepth 100000

theorem RowsV.add2 {w w' : World} {B : Nat} {ov ov' v : Value} {vs : List Value} {xss : List (List Int)} {l : List Int} (h : RowsV w B ov vs xss) (hv : w.ownsRow B 3 1 v l.length (ints l)) (hne : ∀ (i : Nat) (u : Value) (g : Nat), vs[i]? = some u → u.ownBlock = some g → v.ownBlock ≠ some g)
    (hq : Qw w' B 22 1 ov' (vs.length + 1) (vs ++ [v])) (hg : w.grownBy w' ov.ownBlock) : RowsV w' B ov' (vs ++ [v]) (xss ++ [l]) := by
  have hkp : ∀ {u : Value} {m : List Int}, w.ownsRow B 3 1 u m.length (ints m) → w'.ownsRow B 3 1 u m.length (ints m) := fun hu => own_kept hu hg (fun j hj e => by
    obtain ⟨c1, k1⟩ := own_kind hu hj
    obtain ⟨c2, k2⟩ := h.outer.kind e.symm
    exact kind_ne k1 k2 (by decide) rfl)
  refine ⟨by simpa using hq, by simp [h.len], fun i u m hu hm => ?_, fun i j u u' g hij hu hu' hgu => ?_⟩
  · by_cases hi : i < vs.length
    · rw [List.getElem?_append_left hi] at hu
      rw [List.getElem?_append_left (by rw [← h.len]; exact hi)] at hm
      exact hkp (h.row i u m hu hm)
    · have hi' : i = vs.length := by
        have := (List.getElem?_eq_some_iff.1 hu).1
        simp at this; omega
      subst hi'
      rw [List.getElem?_append_right (Nat.le_refl _)] at hu
      rw [h.len, List.getElem?_append_right (Nat.le_refl _)] at hm
      simp at hu hm
      subst hu hm
      exact hkp hv
  · by_cases hj : j < vs.length
    · rw [List.getElem?_append_left (by omega)] at hu
      rw [List.getElem?_append_left hj] at hu'
      exact h.apart i j u u' g hij hu hu' hgu
    · have hj' : j = vs.length := by
        have := (List.getElem?_eq_some_iff.1 hu').1
        simp at this; omega
      subst hj'
      rw [List.getElem?_append_left hij] at hu
      rw [List.getElem?_append_right (Nat.le_refl _)] at hu'
      simp at hu'
      subst hu'
      exact hne i u g hu hgu
theorem rfilt_yes {zs : List (List Int)} {p : List Int → Bool} {k : Nat} {z : List Int} (h : zs[k]? = some z) (hp : p z = true) : (zs.take (k + 1)).filter p = (zs.take k).filter p ++ [z] := by
  obtain ⟨hk, rfl⟩ := List.getElem?_eq_some_iff.1 h
  rw [List.take_succ_eq_append_getElem hk, List.filter_append]; simp [hp]
theorem rfilt_no {zs : List (List Int)} {p : List Int → Bool} {k : Nat} {z : List Int} (h : zs[k]? = some z) (hp : p z = false) : (zs.take (k + 1)).filter p = (zs.take k).filter p := by
  obtain ⟨hk, rfl⟩ := List.getElem?_eq_some_iff.1 h
  rw [List.take_succ_eq_append_getElem hk, List.filter_append]; simp [hp]
set_option maxHeartbeats 4000000 in
theorem filter_rows_any (v : Value) (vs : List Value) (xss : List (List Int)) (B : Nat) (g : Nat) (lb : Array Value) (p : List Int → Bool) (w : World) (h : RowsV w B v vs xss) (hB : B ≤ w.heap.size) (hn : xss.length ≤ 1048576)
    (eg : ∀ args w, (callFunc g args).run Try.prog w = .ok (.enter g args) w)
    (hp : ∀ (W : World) (i : Nat) (u : Value) (l : List Int), vs[i]? = some u → xss[i]? = some l → Below w.heap.size w W → Calls Try.prog g (#[u] ++ lb) W fun e w' => e = .returned (.bool (p l)) ∧ Below W.heap.size W w') :
    Calls Try.prog 111 #[v, .func (.func g) #[] lb] w fun e w' => ∃ u us, e = .returned u ∧ RowsV w' B u us (xss.filter p) ∧ Below w.heap.size w w' := by
  obtain ⟨i0, hi, hz0, hz1, hz2⟩ := info_parts info_ints
  have HV := Lib.hid h
  have Hp := Lib.hid hp
  obtain ⟨A, c, rfl⟩ := h.sl.outer.val
  have hlv := h.len
  have HLV := Lib.hid hlv
  clear h hp
  rw [hlv] at HV ⊢
  clear hlv
  generalize hN : xss.length = N at *
  have HN := Lib.hid hN
  clear hN
  have hq0 : Hid (RowsV (w.alloc (.cells #[] 22)) B (.slice (some ⟨w.heap.size, 0, none⟩) 0 0) [] ((xss.take 0).filter p)) := by
    show RowsV _ _ _ _ _
    exact RowsV.nil ((Qw.emptyAt (hp0 _ _) (Nat.le_refl _)).lower hB)
  go_enter Try.func111, Try.ntmps111
  go_wp2
  go_loopw [5, 11] (fun o i wr => ∃ k : Nat, k ≤ N ∧ i = .int .i64 k ∧ ∃ us : List Value, us.length ≤ k ∧ Hid (Below w.heap.size w wr) ∧ Hid (RowsV wr B o us ((xss.take k).filter p)) ∧ Hid (∀ j, o.ownBlock = some j → w.heap.size ≤ j) ∧ Hid (∀ (i : Nat) (u : Value), us[i]? = some u → ∃ j, j < k ∧ vs[j]? = some u)) (fun _ i _ => N - (intOf i).toNat)
  case atStart => exact ⟨0, Nat.zero_le _, rfl, [], by simp, grow_alloc _ _, hq0.out, fun j hj => by simp [Value.ownBlock] at hj; omega, by show ∀ i, _; simp⟩
  case round =>
    obtain ⟨k, hk, rfl, us, hul, hb, hR, ho, hin⟩ := hrel
    have hsz := hb.out.size
    by_cases hlt : k < N
    · have hvl := (HV.out.sl.below hb.out).outer
      rw [HLV.out] at hvl
      obtain ⟨b, off, z, rfl, hz, hcell⟩ := hvl.at1 HLV.out hlt
      simp only [id] at hcell
      obtain ⟨l, hl⟩ : ∃ l, xss[k]? = some l := ⟨_, List.getElem?_eq_getElem (by have := HN.out; omega)⟩
      have HC := Hp.out wr k z l hz hl hb.out
      have Hrow := Lib.hid (own_below (HV.out.row k z l hz hl) hb.out)
      have Hne : Hid (∀ (i : Nat) (u : Value) (g : Nat), us[i]? = some u → u.ownBlock = some g → z.ownBlock ≠ some g) := fun i u g hu hg => by
        obtain ⟨j, hj, hvj⟩ := hin.out i u hu
        exact HV.out.apart j k u z g hj hvj hz hg
      have Hin2 : Hid (∀ (i : Nat) (u : Value), (us ++ [z])[i]? = some u → ∃ j, j < k + 1 ∧ vs[j]? = some u) := fun i u hu => by
        by_cases hiu : i < us.length
        · rw [List.getElem?_append_left hiu] at hu
          obtain ⟨j, hj, hvj⟩ := hin.out i u hu
          exact ⟨j, by omega, hvj⟩
        · have hi' : i = us.length := by
            have := (List.getElem?_eq_some_iff.1 hu).1
            simp at this; omega
          subst hi'
          rw [List.getElem?_append_right (Nat.le_refl _)] at hu
          simp at hu
          subst hu
          exact ⟨k, by omega, hz⟩
      have Hl := Lib.hid hl
      have Hz := Lib.hid hz
      clear hvl hz hl
      cases hq : p l with
      | false =>
        rw [hq] at HC
        have HC := Lib.hid HC
        have Hq := Lib.hid hq
        clear hq
        go_wp2_with fail
        refine HC.out.mono ?_
        rintro e w1 ⟨rfl, hb1⟩
        have hR1 := Lib.hid (hR.out.below hb1)
        have hb1 := Lib.hid (grow_trans hb.out hb1)
        go_wp2
        go_roundw
        case rel => exact ⟨k + 1, by omega, by go_num, us, by omega, hb1.out, by show RowsV _ _ _ _ _; rw [rfilt_no Hl.out Hq.out]; exact hR1.out, ho.out, fun i u hu => by obtain ⟨j, hj, hvj⟩ := hin.out i u hu; exact ⟨j, by omega, hvj⟩⟩
        case measure => simp [intOf]; omega
      | true =>
        rw [hq] at HC
        have HC := Lib.hid HC
        have Hq := Lib.hid hq
        clear hq
        obtain ⟨Az, cz, rfl⟩ := (Sl.of_own Hrow.out).val
        go_wp2_with fail
        refine HC.out.mono ?_
        rintro e w1 ⟨rfl, hb1⟩
        have hs1 := hb1.size
        have hR1 := Lib.hid (hR.out.below hb1)
        have Hrow1 := Lib.hid (own_below Hrow.out hb1)
        have hb1 := Lib.hid (grow_trans hb.out hb1)
        clear HC
        go_wp2_with ((at_builtin; refine wpList_append_q _ rfl _ _ 44 rfl B 22 i0 (.slice none 0 0) 1 24 Try.underlying44 hi hz0 hz1 hz2 rfl (by decide) _ _ _ rfl (Qw.below hR1.out.outer (grow_alloc _ _)) _ 1 [.slice Az l.length cz] rfl (Sl.boxAt (hp0 _ _)) (by intro u hu; simp at hu; subst hu; rfl) (by unfold maxLen; omega) (by omega) (by simp; omega) ?_))
        intro vA wA hqA hgA hdA
        have hR7 := Lib.hid (RowsV.add2 (l := l) (hR1.out.below (grow_alloc _ _)) (own_below Hrow1.out (grow_alloc _ _)) Hne.out hqA hgA)
        have hb7 := Lib.hid ((hb1.out.alloc hb1.out.size _).grown hgA (by simp; omega) (fun j hj => ho.out j hj))
        have ho7 : Hid (∀ j, vA.ownBlock = some j → w.heap.size ≤ j) := fun j hj => by
          rcases hdA with e | e
          · exact ho.out j (e ▸ hj)
          · rw [e] at hj; cases hj; have := hb1.out.size; first | omega | (simp; omega)
        clear hgA hdA hqA
        go_wp2
        go_roundw
        case rel => exact ⟨k + 1, by omega, by go_num, _, by simp; omega, hb7.out, by show RowsV _ _ _ _ _; rw [rfilt_yes Hl.out Hq.out]; exact hR7.out, ho7.out, Hin2.out⟩
        case measure => simp [intOf]; omega
    · obtain rfl : k = N := by omega
      have hall : xss.take k = xss := List.take_of_length_le (by have := HN.out; omega)
      rw [hall] at hR
      clear hall
      go_wp2
      go_ret
      exact ⟨_, us, rfl, hR.out, hb.out⟩
end Go.Proofs.Ytjobjdmheocheaa
