/- The reader of choices: next, pick, one, of, among. Conditions: as each states. -/
import Derived.Test.YtnadeddkogapoaaGreatDoorLow
namespace Go.Proofs.YtnadeddkogapoaaGreatDoor
open Go.ChangeShapes Go.WideShapes Go.ChangeAt Go.RowKit Go.Deep
set_option linter.unusedVariables false
set_option linter.unusedSimpArgs false
set_option maxRecDepth 100000

theorem next_fin {w wd W2 : World} {C m k : Nat} {s S : Int} {V : Value} {zs : List Int} (hk : k ≤ m) (hd : Below w.heap.size w wd) (hc : Code w C V zs)
    (hO : w.ownsRow C 62 3 (.slice (some ⟨C, 0, none⟩) 1 1) 1 [V, .int .i64 k, .int .u64 s]) (hS : 0 ≤ S ∧ S ≤ 18446744073709551615)
    (hW : W2 = (wd.setCell ⟨C, 1, none⟩ (.int .i64 ((k : Int) + 1))).setCell ⟨C, 2, none⟩ (.int .u64 S)) :
    (W2.cell? ⟨C, 0, none⟩ = some V ∧ W2.cell? ⟨C, 1, none⟩ = some (.int .i64 ((k : Int) + 1)) ∧ W2.cell? ⟨C, 2, none⟩ = some (.int .u64 S) ∧ ∀ j, W2.frozen? ⟨C, j, none⟩ = false) ∧
    ∀ W3 x, Below W2.heap.size W2 W3 → 0 ≤ x → x ≤ 255 → RetC w C (m + 1) (IsN 256) (.returned (.int .i64 x)) W3 := by
  subst hW
  have s1 := World.ownsRow.stored (own_below hO hd) 1 (.int .i64 ((k : Int) + 1))
  have s2 := World.ownsRow.stored s1.1 2 (.int .u64 S)
  simp only [List.set_cons_zero, List.set_cons_succ] at s2
  refine ⟨⟨s2.1.cellAt 0 (by omega), s2.1.cellAt 1 (by omega), s2.1.cellAt 2 (by omega), fun j => s2.1.frozenAt j⟩, fun W3 x hb h0 h1 => ?_⟩
  have hg := grownBy_trans (grownBy_of_below (r := some C) hd) (grownBy_trans s1.2 s2.2)
  refine ⟨_, rfl, ⟨x, rfl, h0, by omega⟩, Cur.below ⟨_, zs, k + 1, S, by omega, hS, ⟨?_, hc.2⟩, ?_⟩ hb, grownBy_trans hg (grownBy_of_below hb)⟩
  · by_cases hz : zs = []
    · subst hz; exact hc.1.none_in
    · refine hc.1.kept hg ?_
      cases hV : V.ownBlock with
      | none => exact .inl rfl
      | some j => exact .inr fun e => by have a := hc.2.2 hz j hV; simp at e; omega
  · exact s2.1
set_option maxHeartbeats 4000000 in
theorem next_any (C m : Nat) (w : World) (h : Cur w C m) (hm : m ≤ 1099511627776) :
    Calls Tryz.prog 84 #[.pointer (some ⟨C, 0, none⟩)] w (RetC w C (m + 1) (IsN 256)) := by
  obtain ⟨V, zs, k, s, hk, hs, hc, hO⟩ := h
  have hmx := hc.1.len
  unfold maxLen at hmx
  obtain ⟨A, c, rfl⟩ := hc.1.val
  have hcell : k < zs.length → ∃ b off z, A = some ⟨b, off, none⟩ ∧ w.cell? ⟨b, off + k, none⟩ = some (.int .u8 z) ∧ (0 ≤ z ∧ z ≤ 255) ∧ b ≠ C := by
    intro hlt
    obtain ⟨b, off, z, rfl, hz, hcell⟩ := hc.1.at1 rfl hlt
    have hb := hc.2.2 (by intro e; subst e; simp at hlt) b rfl
    exact ⟨b, off, z, rfl, hcell, hc.2.1 z (List.mem_of_getElem? hz), by omega⟩
  have k0 := hO.cellAt 0 (by omega)
  have k1 := hO.cellAt 1 (by omega)
  have k2 := hO.cellAt 2 (by omega)
  have f0 := hO.frozenAt 0
  have f1 := hO.frozenAt 1
  have f2 := hO.frozenAt 2
  simp only [List.getElem?_cons_zero, List.getElem?_cons_succ] at k0 k1 k2
  have fin : Hid (∀ (q : Nat) (S : Int), (0 ≤ S ∧ S ≤ 18446744073709551615) → ∀ W2, W2 = ((w.drewN q).setCell ⟨C, 1, none⟩ (.int .i64 ((k : Int) + 1))).setCell ⟨C, 2, none⟩ (.int .u64 S) → _) := fun q S hS W2 hW => next_fin hk (grow_drewN w q) hc hO hS hW
  have kk : (k : Int) ≤ 1099511627776 := by omega
  have hsh : ∀ S : Int, 0 ≤ S ∧ S ≤ 18446744073709551615 → Hid (0 ≤ S.fdiv (2 ^ 40) ∧ S.fdiv (2 ^ 40) ≤ 18446744073709551615) := by
    intro S hS
    show _ ∧ _
    rw [Int.fdiv_eq_ediv_of_nonneg _ (by omega)]
    omega
  obtain ⟨hs0, hs1⟩ := hs
  generalize hN : zs.length = N at *
  clear hN hc hO
  by_cases hlt : k < N
  · obtain ⟨b, off, z, rfl, hcz, ⟨z0, z1⟩, hb⟩ := hcell hlt
    clear hcell
    go_enter Tryz.func84, Tryz.ntmps84
    go_wp2_with fail
    go_quiet (fail)
    go_wp2_with fail
    go_quiet (fail)
    go_wp2_with fail
    generalize hS : IntKind.u64.wrap (_ + 917917) = S
    have hSb : 0 ≤ S ∧ S ≤ 18446744073709551615 := by rw [← hS]; exact wrap64_bd _
    clear hS
    generalize hW : World.setCell (World.setCell _ _ _) _ _ = W2
    obtain ⟨⟨j0, j1, j2, jf⟩, fin2⟩ := fin.out _ S hSb W2 hW.symm
    have fin2 := Lib.hid fin2
    have g0 := jf 0
    have g1 := jf 1
    have g2 := jf 2
    clear jf
    clear hW fin k0 k1 k2 f0 f1 f2
    by_cases hle : (k : Int) + 1 ≤ (N : Int)
    · go_quiet (fail)
      go_wp2
      go_ret
      exact fin2.out _ z (grow_drewN _ _) (by omega) (by omega)
    · exfalso; omega
  · clear hcell
    go_enter Tryz.func84, Tryz.ntmps84
    go_wp2_with fail
    go_quiet (fail)
    go_wp2_with fail
    generalize hS : IntKind.u64.wrap (_ + 917917) = S
    have hSb : 0 ≤ S ∧ S ≤ 18446744073709551615 := by rw [← hS]; exact wrap64_bd _
    clear hS
    generalize hW : World.setCell (World.setCell _ _ _) _ _ = W2
    obtain ⟨⟨j0, j1, j2, jf⟩, fin2⟩ := fin.out _ S hSb W2 hW.symm
    have fin2 := Lib.hid fin2
    have g0 := jf 0
    have g1 := jf 1
    have g2 := jf 2
    clear jf
    clear hW fin k0 k1 k2 f0 f1 f2
    by_cases hle : (k : Int) + 1 ≤ (N : Int)
    · go_quiet (fail)
      go_wp2
      go_ret
      exact fin2.out _ 0 (grow_drewN _ _) (by omega) (by omega)
    · go_quiet (fail)
      obtain ⟨e0, e1⟩ := and255 (E := S / 1099511627776) (by omega) (by omega)
      generalize hE : bits .and .u64 (S / 1099511627776) 255 = E at *
      go_wp2
      go_ret
      exact fin2.out _ E (grow_drewN _ _) e0 e1
set_option maxHeartbeats 4000000 in
theorem pick_any (C m : Nat) (n : Int) (w : World) (h : Cur w C m) (hm : m ≤ 1099511627770) (hn : n ≤ 1000000) :
    Calls Tryz.prog 67 #[.pointer (some ⟨C, 0, none⟩), .int .i64 n] w (RetC w C (m + 2) (IsN (max n 1))) := by
  by_cases h1 : n ≤ 1
  · have H : Hid (RetC w C (m + 2) (IsN (max n 1)) (.returned (.int .i64 0)) w) := ⟨_, rfl, ⟨0, rfl, Int.le_refl _, by omega⟩, h.up (by omega), grownBy_of_below (Below.refl _ _)⟩
    clear h
    go_enter Tryz.func67, Tryz.ntmps67
    go_wp2
    go_ret
    exact H.out
  · have HN := Lib.hid fun W m' h hm => next_any C m' W h hm
    have h := Lib.hid h
    have hmod : ∀ x : Int, 0 ≤ x → x ≤ 65535 → (0 ≤ x % n ∧ x % n < n) ∧ IntKind.i64.wrap (x.tmod n) = x.tmod n := by
      intro x h0 h1
      have a := Int.tmod_nonneg n h0
      have b := Int.tmod_lt_of_pos x (show 0 < n by omega)
      exact ⟨⟨Int.emod_nonneg _ (by omega), Int.emod_lt_of_pos _ (by omega)⟩, IntWalk.i64_in _ (by omega)⟩
    have Hmod := Lib.hid hmod
    clear hmod
    go_enter Tryz.func67, Tryz.ntmps67
    go_wp2_with fail
    refine (HN.out _ _ h.out (by omega)).mono ?_
    rintro e w1 ⟨v, rfl, ⟨x, rfl, x0, x1⟩, hc1, hg1⟩
    have hc1 := Lib.hid hc1
    have hg1 := Lib.hid hg1
    by_cases h2 : n ≤ 200
    · obtain ⟨⟨y0, y1⟩, y2⟩ := Hmod.out x x0 (by omega)
      go_wp2
      go_ret
      exact ⟨_, rfl, ⟨_, rfl, y0, by omega⟩, hc1.out.up (by omega), hg1.out⟩
    · go_wp2_with fail
      refine (HN.out _ _ hc1.out (by omega)).mono ?_
      rintro e w2 ⟨v, rfl, ⟨z, rfl, z0, z1⟩, hc2, hg2⟩
      have hc2 := Lib.hid hc2
      have hg2 := Lib.hid (grownBy_trans hg1.out hg2)
      obtain ⟨⟨y0, y1⟩, y2⟩ := Hmod.out (x * 256 + z) (by omega) (by omega)
      go_wp2
      go_ret
      exact ⟨_, rfl, ⟨_, rfl, y0, by omega⟩, hc2.out.up (by omega), hg2.out⟩
theorem one_any (C m : Nat) (n : Int) (w : World) (h : Cur w C m) (hm : m ≤ 1099511627770) (hn : n ≤ 1000000) :
    Calls Tryz.prog 36 #[.pointer (some ⟨C, 0, none⟩), .int .i64 n] w (RetC w C (m + 2) fun v => ∃ b, v = .bool b) := by
  have HN := Lib.hid (pick_any C m n w h hm hn)
  clear h
  go_enter Tryz.func36, Tryz.ntmps36
  go_wp2_with fail
  refine HN.out.mono ?_
  rintro e w1 ⟨v, rfl, ⟨x, rfl, x0, x1⟩, hc1, hg1⟩
  have hc1 := Lib.hid hc1
  have hg1 := Lib.hid hg1
  go_wp2
  go_ret
  exact ⟨_, rfl, ⟨_, rfl⟩, hc1.out, hg1.out⟩
set_option maxHeartbeats 1000000 in
theorem among_any (C m : Nat) (v : Value) (zs : List Int) (w : World) (h : Cur w C m) (hm : m ≤ 1099511627770) (hv : Sl w 1 v zs.length (zs.map (Value.int .i64))) (hz : 0 < zs.length) (hn : zs.length ≤ 1000000) (hne : v.ownBlock ≠ some C) :
    Calls Tryz.prog 69 #[.pointer (some ⟨C, 0, none⟩), v] w (RetC w C (m + 2) (IsI zs)) := by
  have HN := Lib.hid (pick_any C m zs.length w h hm (by omega))
  have Hv : Hid (∀ w', w.grownBy w' (some C) → Sl w' 1 v zs.length (zs.map (Value.int .i64))) := fun w' hg => hv.kept hg (.inr hne)
  obtain ⟨A, c, rfl⟩ := hv.val
  clear h hv
  generalize hN : zs.length = N at *
  have HL := Lib.hid hN
  clear hN
  go_enter Tryz.func69, Tryz.ntmps69
  go_wp2_with fail
  refine HN.out.mono ?_
  rintro e w1 ⟨v, rfl, ⟨x, rfl, x0, x1⟩, hc1, hg1⟩
  obtain ⟨u, rfl⟩ := Int.eq_ofNat_of_zero_le x0
  have hu : u < N := by omega
  obtain ⟨b, off, z, rfl, hz, hcell⟩ := (Hv.out w1 hg1).at1 HL.out hu
  have hc1 := Lib.hid hc1
  have hg1 := Lib.hid hg1
  have hzm := Lib.hid (List.mem_of_getElem? hz)
  clear hz
  go_wp2
  go_ret
  exact ⟨_, rfl, ⟨z, hzm.out, rfl⟩, hc1.out, hg1.out⟩
set_option maxHeartbeats 1000000 in
theorem of_any (C m : Nat) (v : Value) (zs : List ByteArray) (w : World) (h : Cur w C m) (hm : m ≤ 1099511627770) (hv : Sl w 1 v zs.length (zs.map (Value.string))) (hz : 0 < zs.length) (hn : zs.length ≤ 1000000) (hne : v.ownBlock ≠ some C) :
    Calls Tryz.prog 68 #[.pointer (some ⟨C, 0, none⟩), v] w (RetC w C (m + 2) (IsS zs)) := by
  have HN := Lib.hid (pick_any C m zs.length w h hm (by omega))
  have Hv : Hid (∀ w', w.grownBy w' (some C) → Sl w' 1 v zs.length (zs.map (Value.string))) := fun w' hg => hv.kept hg (.inr hne)
  obtain ⟨A, c, rfl⟩ := hv.val
  clear h hv
  generalize hN : zs.length = N at *
  have HL := Lib.hid hN
  clear hN
  go_enter Tryz.func68, Tryz.ntmps68
  go_wp2_with fail
  refine HN.out.mono ?_
  rintro e w1 ⟨v, rfl, ⟨x, rfl, x0, x1⟩, hc1, hg1⟩
  obtain ⟨u, rfl⟩ := Int.eq_ofNat_of_zero_le x0
  have hu : u < N := by omega
  obtain ⟨b, off, z, rfl, hz, hcell⟩ := (Hv.out w1 hg1).at1 HL.out hu
  have hc1 := Lib.hid hc1
  have hg1 := Lib.hid hg1
  have hzm := Lib.hid (List.mem_of_getElem? hz)
  clear hz
  go_wp2
  go_ret
  exact ⟨_, rfl, ⟨z, hzm.out, rfl⟩, hc1.out, hg1.out⟩
end Go.Proofs.YtnadeddkogapoaaGreatDoor
