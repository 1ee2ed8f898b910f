/- The cells at the sides of a cell, in the reference. Conditions: as each states. -/
import Derived.Test.YtefampjmbjbhcaaEdge
import Derived.IntWalk
namespace Go.Proofs.Ytefampjmbjbhcaa
open Go.ChangeShapes Go.WideShapes Go.ChangeAt Go.RowKit Go.Deep
set_option linter.unusedVariables false
set_option linter.unusedSimpArgs false
set_option maxRecDepth 100000

theorem div_bds {x c : Int} (h1 : 1 ≤ x) (h2 : x ≤ 5) (h3 : 0 ≤ c) (h4 : c ≤ 25) : c.tmod x = c % x ∧ c.tdiv x = c / x ∧ IntKind.i64.wrap (c % x) = c % x ∧ IntKind.i64.wrap (c / x) = c / x := by
  obtain ⟨⟨p1, p2⟩, p3, p4⟩ := cell_bds h1 h2 h3 h4
  exact ⟨Int.tmod_eq_emod_of_nonneg h3, Int.tdiv_eq_ediv_of_nonneg h3, IntWalk.i64_in _ (by omega), IntWalk.i64_in _ (by omega)⟩
set_option maxHeartbeats 4000000 in
theorem l6Sides_any (x y : Int) (u : Value) (zs : List Int) (cl : Int) (w : World) (h : Sl w 1 u zs.length (ints zs)) (h1 : 1 ≤ x) (h2 : x ≤ 5) (h3 : 0 ≤ cl) (h4 : cl ≤ 25) (hn : (zs.length : Int) ≤ 25) :
    Calls Try.prog 169 #[terrV x y u, .int .i64 cl] w (RetQ w 3 1 ((selN (nearP x cl) zs.length).filter fun z => alongB x z cl).length (ints ((selN (nearP x cl) zs.length).filter fun z => alongB x z cl))) := by
  obtain ⟨i0, hi, hz0, hz1, hz2⟩ := info_parts info_int
  have HN2 := Lib.hid fun W hW => l2Near_any x y u zs cl W (h.below (w' := W) hW) h1 h2 h3 h4 hn
  have HnI := Lib.hid (selN_in (p := nearP x cl) (N := zs.length))
  have hnl := Nat.le_trans (selN_le (nearP x cl) zs.length) (show zs.length ≤ 25 by omega)
  obtain ⟨A, c, rfl⟩ := h.val
  clear h
  generalize zs.length = M at *
  generalize selN (nearP x cl) M = nl at *
  have hfl := fun k => filt_le nl (fun z => alongB x z cl) k
  have Hfl := Lib.hid hfl
  have hp : Hid (∀ z, (fun z => alongB x z cl) z = ((z % x == cl % x) || (z / x == cl / x))) := fun z => rfl
  generalize (fun z => alongB x z cl) = p at *
  generalize hK : nl.length = K at *
  have HNL := Lib.hid hK
  obtain ⟨c1, c2, c3, c4⟩ := div_bds h1 h2 h3 h4
  have C1 := Lib.hid c1
  have C2 := Lib.hid c2
  have C3 := Lib.hid c3
  have C4 := Lib.hid c4
  clear hK hfl c1 c2 c3 c4
  have hTB0 : Hid (TB ((w.alloc (.cells #[.int .i64 x, .int .i64 y, .slice A M c] 28)).alloc (.cells #[] 3)) w.heap.size x y (.slice A M c)) := by show TB _ _ _ _ _; unfold TB; simp [go_sem]
  have hq0 : Hid (Qw ((w.alloc (.cells #[.int .i64 x, .int .i64 y, .slice A M c] 28)).alloc (.cells #[] 3)) (w.heap.size + 1) 3 1 (.slice (some ⟨w.heap.size + 1, 0, none⟩) 0 0) 0 []) := Qw.emptyAt (hp2 _ _ _) (Nat.le_refl _)
  have hb0 : Hid (Below w.heap.size w ((w.alloc (.cells #[.int .i64 x, .int .i64 y, .slice A M c] 28)).alloc (.cells #[] 3))) := two_news _ _ _
  go_enter Try.func169, Try.ntmps169
  go_wp2_with fail
  with_reducible refine (HN2.out _ hb0.out).mono ?_
  rintro e w4 ⟨nr, rfl, on, hb4⟩
  have on' := Lib.hid on
  have hT4 := Lib.hid (hTB0.out.below hb4)
  have hq4 := Lib.hid (hq0.out.below hb4)
  have hb4 := Lib.hid (grow_trans hb0.out hb4)
  have hs4 := (hq4.out.lt _ rfl).2
  obtain ⟨An, cn, rfl, hAn⟩ := own_form on
  have hAn : ∀ g o, An = some ⟨g, o, none⟩ → 0 < K → w.heap.size + 2 ≤ g := by
    intro g o e hk
    obtain ⟨g', e', hg', _⟩ := hAn hk
    rw [e'] at e
    cases e
    simpa using hg'
  have on := Lib.hid (Sl.of_own on'.out)
  clear on'
  go_wp2
  go_loopw [5, 7] (fun v i wr => ∃ k : Nat, k ≤ K ∧ i = .int .i64 k ∧ Hid (Below w.heap.size w wr) ∧ w.heap.size + 1 < wr.heap.size ∧ Hid (TB wr w.heap.size x y (.slice A M c)) ∧ Hid (Sl wr 1 (.slice An K cn) K (ints nl)) ∧ Hid (Qw wr (w.heap.size + 1) 3 1 v ((nl.take k).filter p).length (ints ((nl.take k).filter p))) ∧ Hid (∀ g o, An = some ⟨g, o, none⟩ → 0 < K → v.ownBlock ≠ some g)) (fun _ i _ => K - (intOf i).toNat)
  case atStart => exact ⟨0, Nat.zero_le _, rfl, hb4.out, hs4, hT4.out, on.out, hq4.out, fun g o e hk e2 => by have := hAn g o e hk; simp [Value.ownBlock] at e2; omega⟩
  case round =>
    obtain ⟨k, hk, rfl, hb, hsz, hT, hon, hq, hap⟩ := hrel
    by_cases hlt : k < K
    · obtain ⟨b, off, z, hA, hz, hcell⟩ := hon.out.at1 HNL.out hlt
      subst hA
      obtain ⟨t0, t1, t2⟩ := hT.out
      have hzb := HnI.out z (List.mem_of_getElem? hz)
      have hle := Hfl.out k
      have Hz := Lib.hid hz
      have hlt' : (k : Int) < (K : Int) := by omega
      obtain ⟨z1, z2, z3, z4⟩ := div_bds h1 h2 hzb.1 (show z ≤ 25 by omega)
      have Hpz := Lib.hid (hp.out z)
      have hx0 : (x == 0) = false := by simpa using (show x ≠ 0 by omega)
      have c1 := C1.out
      have c2 := C2.out
      have c3 := C3.out
      have c4 := C4.out
      clear hz
      by_cases hcol : z % x = cl % x
      · have HPZ : Hid (p z = true) := by show _ = _; rw [Hpz.out]; simp [hcol]
        have e1 : (z % x == cl % x) = true := by simpa using hcol
        clear hcol
        go_wp2_with fail
        go_quiet (fail)
        have hbq := Lib.hid (hb.out.trans ((grow_drewN wr nq).mono hb.out.size))
        have hTq := Lib.hid (hT.out.below (grow_drewN wr nq))
        have hoq := Lib.hid (hon.out.below (grow_drewN wr nq))
        have hqq := Lib.hid (hq.out.below (grow_drewN wr nq))
        have hsq : w.heap.size + 1 < (wr.drewN nq).heap.size := hsz
        have hcq : (wr.drewN nq).cell? ⟨b, off + k, none⟩ = some (.int .i64 z) := hcell
        clear hb hT hon hq hsz hcell t0 t1 t2
        generalize wr.drewN nq = wq at *
        go_wp2_with ((at_builtin; refine wpList_append_q _ rfl _ _ 22 rfl (w.heap.size + 1) 3 i0 (.int .i64 0) 1 8 Try.underlying22 hi hz0 hz1 hz2 rfl (by decide) _ _ _ rfl (Qw.below (hqq.out) (grow_alloc wq _)) _ 1 [.int .i64 z] rfl (Sl.boxAt (hp0 wq _)) (by intro u hu; simp at hu; subst hu; rfl) (by unfold maxLen; omega) (by omega) (by simp; omega) ?_))
        intro vA wA hqA hgA hdA
        have hap2 := hap.out b off rfl (by omega)
        have hbb := cell_lt hcq
        have hb6 := Lib.hid ((hbq.out.alloc hbq.out.size _).grown hgA (by simp; omega) (fun j hj => by have := (hqq.out.lt j hj).1; omega))
        have hT6 := Lib.hid ((hTq.out.below (grow_alloc _ _)).kept hgA (fun e => by have := (hqq.out.lt _ e.symm).1; omega))
        have ho6 := Lib.hid ((hoq.out.below (grow_alloc _ _)).kept hgA (.inr fun e => hap2 e.symm))
        have hq6 := Lib.hid (filt_q Hz.out HPZ.out hqA)
        have hs6 := hgA.size
        simp at hs6
        have hs7 : w.heap.size + 1 < wA.heap.size := by omega
        have hap6 : Hid (∀ g o, (some ⟨b, off, none⟩ : Option Addr) = some ⟨g, o, none⟩ → 0 < K → vA.ownBlock ≠ some g) := by
          intro g o e hk e2
          cases e
          rcases hdA with h | h
          · exact hap2 (h.symm.trans e2)
          · rw [h] at e2; simp at e2; omega
        clear hgA hdA hqA
        go_wp2
        go_roundw
        case rel => exact ⟨k + 1, by omega, by go_num, hb6.out, hs7, hT6.out, ho6.out, hq6.out, hap6.out⟩
        case measure => simp [intOf]; omega
      · have e1 : (z % x == cl % x) = false := by simpa using hcol
        by_cases hrow : z / x = cl / x
        · have HPZ : Hid (p z = true) := by show _ = _; rw [Hpz.out]; simp [hrow]
          have e2 : (z / x == cl / x) = true := by simpa using hrow
          clear hcol hrow
          go_wp2_with fail
          go_quiet (fail)
          have hbq := Lib.hid (hb.out.trans ((grow_drewN wr nq).mono hb.out.size))
          have hTq := Lib.hid (hT.out.below (grow_drewN wr nq))
          have hoq := Lib.hid (hon.out.below (grow_drewN wr nq))
          have hqq := Lib.hid (hq.out.below (grow_drewN wr nq))
          have hsq : w.heap.size + 1 < (wr.drewN nq).heap.size := hsz
          have hcq : (wr.drewN nq).cell? ⟨b, off + k, none⟩ = some (.int .i64 z) := hcell
          clear hb hT hon hq hsz hcell t0 t1 t2
          generalize wr.drewN nq = wq at *
          go_wp2_with ((at_builtin; refine wpList_append_q _ rfl _ _ 22 rfl (w.heap.size + 1) 3 i0 (.int .i64 0) 1 8 Try.underlying22 hi hz0 hz1 hz2 rfl (by decide) _ _ _ rfl (Qw.below (hqq.out) (grow_alloc wq _)) _ 1 [.int .i64 z] rfl (Sl.boxAt (hp0 wq _)) (by intro u hu; simp at hu; subst hu; rfl) (by unfold maxLen; omega) (by omega) (by simp; omega) ?_))
          intro vA wA hqA hgA hdA
          have hap2 := hap.out b off rfl (by omega)
          have hbb := cell_lt hcq
          have hb6 := Lib.hid ((hbq.out.alloc hbq.out.size _).grown hgA (by simp; omega) (fun j hj => by have := (hqq.out.lt j hj).1; omega))
          have hT6 := Lib.hid ((hTq.out.below (grow_alloc _ _)).kept hgA (fun e => by have := (hqq.out.lt _ e.symm).1; omega))
          have ho6 := Lib.hid ((hoq.out.below (grow_alloc _ _)).kept hgA (.inr fun e => hap2 e.symm))
          have hq6 := Lib.hid (filt_q Hz.out HPZ.out hqA)
          have hs6 := hgA.size
          simp at hs6
          have hs7 : w.heap.size + 1 < wA.heap.size := by omega
          have hap6 : Hid (∀ g o, (some ⟨b, off, none⟩ : Option Addr) = some ⟨g, o, none⟩ → 0 < K → vA.ownBlock ≠ some g) := by
            intro g o e hk e2
            cases e
            rcases hdA with h | h
            · exact hap2 (h.symm.trans e2)
            · rw [h] at e2; simp at e2; omega
          clear hgA hdA hqA
          go_wp2
          go_roundw
          case rel => exact ⟨k + 1, by omega, by go_num, hb6.out, hs7, hT6.out, ho6.out, hq6.out, hap6.out⟩
          case measure => simp [intOf]; omega
        · have HPZ : Hid (p z = false) := by show _ = _; rw [Hpz.out]; simp [hrow, hcol]
          have e2 : (z / x == cl / x) = false := by simpa using hrow
          clear hcol hrow
          go_wp2_with fail
          go_quiet (fail)
          go_wp2
          go_roundw
          case rel => exact ⟨k + 1, by omega, by go_num, hb.out.trans ((grow_drewN wr _).mono hb.out.size), hsz, hT.out.below (grow_drewN wr _), hon.out.below (grow_drewN wr _), by show Qw _ _ _ _ _ _ _; rw [filt_no Hz.out HPZ.out]; exact hq.out.below (grow_drewN wr _), hap.out⟩
          case measure => simp [intOf]; omega
    · obtain rfl : k = K := by omega
      have hall : nl.take k = nl := List.take_of_length_le (by have := HNL.out; omega)
      rw [hall] at hq
      clear hall
      go_wp2
      go_ret
      exact ⟨_, rfl, hq.out.lower (Nat.le_succ _), hb.out⟩
end Go.Proofs.Ytefampjmbjbhcaa
