/- Slices of fuels: sizes asked, copies, comparison. Conditions: as each states. -/
import Derived.Test.YtnadeddkogapoaaFuel
import Derived.Test.YtnadeddkogapoaaInts
import Derived.Test.YtnadeddkogapoaaLater
import Derived.StillTailTactics
namespace Go.Proofs.Ytnadeddkogapoaa
open Go.ChangeShapes Go.WideShapes Go.ChangeAt Go.RowKit
set_option linter.unusedVariables false
set_option linter.unusedSimpArgs false
set_option maxRecDepth 100000

/-- A fuel. -/
structure Fu where
  i : Int
  n : ByteArray
  r : Int
  l : Int
  o : Int
def encU (p : Fu) : List Value := [.int .i64 p.i, .string p.n, .int .i64 p.r, .int .i64 p.l, .int .i64 p.o]
theorem encU_length (p : Fu) : (encU p).length = 5 := rfl
abbrev fus (ps : List Fu) : List Value := ps.flatMap encU
abbrev fuV (i : Int) (n : ByteArray) (r l o : Int) : Value := .agg #[.int .i64 i, .string n, .int .i64 r, .int .i64 l, .int .i64 o]
/-- The bytes of the names. -/
def nsum (ps : List Fu) : Nat := (ps.map fun p => p.n.size).sum
def fszN (ps : List Fu) : Nat := ps.length + nsum ps
theorem fszN_len (ps : List Fu) : ps.length ≤ fszN ps := by unfold fszN; omega
theorem nsum_succ {ps : List Fu} {k : Nat} {p : Fu} (h : ps[k]? = some p) : nsum (ps.take (k + 1)) = nsum (ps.take k) + p.n.size := by
  obtain ⟨hk, rfl⟩ := List.getElem?_eq_some_iff.1 h
  unfold nsum
  rw [List.take_succ_eq_append_getElem hk, List.map_append, List.sum_append]; simp
theorem nsum_take (ps : List Fu) (k : Nat) : nsum (ps.take k) ≤ nsum ps := by
  unfold nsum
  conv => rhs; rw [← List.take_append_drop k ps]
  rw [List.map_append, List.sum_append]; omega
theorem nsum_mem {ps : List Fu} {p : Fu} (h : p ∈ ps) : p.n.size ≤ nsum ps := by
  obtain ⟨k, hk, rfl⟩ := List.mem_iff_getElem.1 h
  have h1 := nsum_succ (List.getElem?_eq_getElem hk)
  have h2 := nsum_take ps (k + 1)
  omega
theorem info_fuel : (Try.prog.info? 31).map (fun i => (i.zero, i.size, i.bytes)) = some (some (fuV 0 ByteArray.empty 0 0 0), 5, 48) := by kernel_rfl
theorem Sl.fu {w : World} {A : Option Addr} {c n : Nat} {ps : List Fu} (h : Sl w 5 (.slice A n c) n (fus ps)) (hn : ps.length = n) {k : Nat} (hk : k < n) :
    ∃ b off i s r l o, A = some ⟨b, off, none⟩ ∧ ps[k]? = some ⟨i, s, r, l, o⟩ ∧ w.cell? ⟨b, off + k * 5, none⟩ = some (.int .i64 i) ∧ w.cell? ⟨b, off + k * 5 + 1, none⟩ = some (.string s) ∧ w.cell? ⟨b, off + k * 5 + 2, none⟩ = some (.int .i64 r) ∧ w.cell? ⟨b, off + k * 5 + 3, none⟩ = some (.int .i64 l) ∧ w.cell? ⟨b, off + k * 5 + 4, none⟩ = some (.int .i64 o) := by
  obtain ⟨b, off, ⟨i, s, r, l, o⟩, rfl, hx, hc⟩ := h.at_ encU_length hn (by omega) hk
  exact ⟨b, off, i, s, r, l, o, rfl, hx, hc 0 _ rfl, hc 1 _ rfl, hc 2 _ rfl, hc 3 _ rfl, hc 4 _ rfl⟩
/-- What is left of a size. -/
def szU (k : Int) (n : Nat) : Int := if k - n < 0 then -1 else k - n
set_option maxHeartbeats 2000000 in
theorem szFuelS_any (v : Value) (k : Int) (ps : List Fu) (w : World) (h : Sl w 5 v ps.length (fus ps)) (hm : ∀ p ∈ ps, p.n.size ≤ maxLen) (h1 : 0 ≤ k) (h2 : k ≤ 1048576) :
    Calls Try.prog 4 #[v, .int .i64 k] w fun e w' => e = .returned (.int .i64 (szU k (fszN ps))) ∧ Below w.heap.size w w' := by
  have hmx := h.len
  unfold maxLen at hmx
  have Hm := Lib.hid hm
  have HS : Hid (szU k (fszN ps) = if k - (ps.length + nsum ps : Nat) < 0 then -1 else k - (ps.length + nsum ps : Nat)) := rfl
  have Hn := Lib.hid fun j => nsum_take ps j
  have Hall : Hid (nsum (ps.take ps.length) = nsum ps) := by show _ = _; rw [List.take_length]
  obtain ⟨A, c, rfl⟩ := h.val
  generalize hN : ps.length = N at *
  have HN := Lib.hid hN
  have Hs := Lib.hid h
  generalize szU k (fszN ps) = R at *
  clear hN h hm
  by_cases hneg : k - N < 0
  · have hR : R = -1 := by rw [HS.out, if_pos (by omega)]
    subst hR
    clear HS Hm Hn Hs
    go_enter Try.func4, Try.ntmps4
    go_wp2
    go_ret
    exact ⟨rfl, Below.refl _ _⟩
  · go_enter Try.func4, Try.ntmps4
    go_wp2
    go_loopw [1, 5] (fun q i wr => ∃ j : Nat, j ≤ N ∧ i = .int .i64 j ∧ q = .int .i64 (k - N - nsum (ps.take j)) ∧ 0 ≤ k - N - nsum (ps.take j) ∧ Hid (Below w.heap.size w wr)) (fun _ i _ => N - (intOf i).toNat)
    case atStart => exact ⟨0, Nat.zero_le _, rfl, by simp [nsum], by simp [nsum]; omega, Below.refl _ _⟩
    case round =>
      obtain ⟨j, hj, rfl, rfl, h0, hb⟩ := hrel
      by_cases hlt : j < N
      · obtain ⟨b, off, i, s, r, l, o, rfl, hx, c0, c1, c2, c3, c4⟩ := (Hs.out.below hb.out).fu HN.out hlt
        have hsz := Hm.out _ (List.mem_of_getElem? hx)
        simp only at hsz
        have hsz' := hsz
        unfold maxLen at hsz'
        have Hsu := Lib.hid (nsum_succ hx)
        have hn1 := Hn.out (j + 1)
        have e1 := Hsu.out
        simp only at e1
        rw [e1] at hn1
        clear e1 hx
        have HC := Lib.hid (szFuel_any i s r l o (k - N - nsum (ps.take j)) wr hsz h0 (by omega))
        generalize hq : nsum (ps.take j) = q at *
        have Hq := Lib.hid hq
        clear hq
        by_cases hng : k - N - q - s.size < 0
        · have hR : R = -1 := by rw [HS.out, if_pos (by omega)]
          subst hR
          have hz : szN (k - N - q) s.size = -1 := by unfold szN; rw [if_pos hng]
          rw [hz] at HC
          clear hz HS
          go_wp2_with fail
          with_reducible refine HC.out.mono ?_
          rintro e w2 ⟨rfl, hb2⟩
          have hb2 := Lib.hid (grow_trans hb.out hb2)
          go_wp2
          go_ret
          exact ⟨rfl, hb2.out⟩
        · have hz : szN (k - N - q) s.size = k - N - q - s.size := by unfold szN; rw [if_neg hng]
          rw [hz] at HC
          clear hz
          go_wp2_with fail
          with_reducible refine HC.out.mono ?_
          rintro e w2 ⟨rfl, hb2⟩
          have hb2 := Lib.hid (grow_trans hb.out hb2)
          go_wp2
          go_roundw
          case rel => exact ⟨j + 1, by omega, by go_num, by rw [Hsu.out]; simp; omega, by rw [Hsu.out]; simp; omega, hb2.out⟩
          case measure => simp [intOf]; omega
      · obtain rfl : j = N := by omega
        rw [Hall.out] at h0 ⊢
        have hR : R = k - j - nsum ps := by rw [HS.out, if_neg (by omega)]; omega
        subst hR
        clear HS
        go_wp2
        go_ret
        exact ⟨rfl, hb.out⟩
theorem szFuelS_ok (u : Value) (k : Int) (ps : List Fu) (w : World) (h : Sl w 5 u ps.length (fus ps)) (hm : ∀ p ∈ ps, p.n.size ≤ maxLen) (h1 : 0 ≤ k) (h2 : k ≤ 1048576) (h3 : (fszN ps : Int) ≤ k) :
    Calls Try.prog 4 #[u, .int .i64 k] w fun e w' => e = .returned (.int .i64 (k - fszN ps)) ∧ Below w.heap.size w w' := by
  have := szFuelS_any u k ps w h hm h1 h2
  rwa [show szU k (fszN ps) = k - fszN ps by unfold szU; rw [if_neg (by omega)]] at this
theorem szFuelS_no (u : Value) (k : Int) (ps : List Fu) (w : World) (h : Sl w 5 u ps.length (fus ps)) (hm : ∀ p ∈ ps, p.n.size ≤ maxLen) (h1 : 0 ≤ k) (h2 : k ≤ 1048576) (h3 : ¬ (fszN ps : Int) ≤ k) :
    Calls Try.prog 4 #[u, .int .i64 k] w fun e w' => e = .returned (.int .i64 (-1)) ∧ Below w.heap.size w w' := by
  have := szFuelS_any u k ps w h hm h1 h2
  rwa [show szU k (fszN ps) = -1 by unfold szU; rw [if_pos (by omega)]] at this
theorem eqFuel_any (i : Int) (n : ByteArray) (r l o : Int) (w : World) :
    Calls Try.prog 17 #[fuV i n r l o, fuV i n r l o] w fun e w' => e = .returned (.bool true) ∧ Below w.heap.size w w' := by
  go_enter Try.func17, Try.ntmps17
  go_wp2
  go_ret
  exact ⟨rfl, grow_trans (grow_alloc _ _) (grow_alloc _ _)⟩
set_option maxHeartbeats 2000000 in
theorem eqFuelS_any (u v : Value) (ps : List Fu) (w : World) (hu : Sl w 5 u ps.length (fus ps)) (hv : Sl w 5 v ps.length (fus ps)) :
    Calls Try.prog 10 #[u, v] w fun e w' => e = .returned (.bool true) ∧ Below w.heap.size w w' := by
  have hmx := hu.len
  unfold maxLen at hmx
  obtain ⟨A, c, rfl⟩ := hu.val
  obtain ⟨A', c', rfl⟩ := hv.val
  generalize hN : ps.length = N at hu hv hmx ⊢
  have HN := Lib.hid hN
  clear hN
  go_enter Try.func10, Try.ntmps10
  go_wp2
  go_loopw [5] (fun i wr => ∃ k : Nat, k ≤ N ∧ i = .int .i64 k ∧ Hid (Below w.heap.size w wr)) (fun i _ => N - (intOf i).toNat)
  case atStart => exact ⟨0, Nat.zero_le _, rfl, Below.refl _ _⟩
  case round =>
    obtain ⟨k, hk, rfl, hb⟩ := hrel
    by_cases hlt : k < N
    · obtain ⟨b, off, i, s, r, l, o, rfl, hx, c0, c1, c2, c3, c4⟩ := (hu.below hb.out).fu HN.out hlt
      obtain ⟨b', off', i', s', r', l', o', rfl, hx', d0, d1, d2, d3, d4⟩ := (hv.below hb.out).fu HN.out hlt
      obtain ⟨rfl, rfl, rfl, rfl, rfl⟩ : i = i' ∧ s = s' ∧ r = r' ∧ l = l' ∧ o = o' := by rw [hx] at hx'; simpa using hx'
      clear hx hx'
      have hlz : (k : Int) < (N : Int) := by omega
      go_wp2_with fail
      go_still_tail 8, (by kernel_rfl)
      change wpList _ _ _ _ _ wr.drew
      generalize hwd : wr.drew = wd
      have hbd : Below w.heap.size w wd := by rw [← hwd]; exact hb.out.drew
      clear hwd
      go_wp2_with (go_at_call 17; refine (eqFuel_any _ _ _ _ _ _).mono ?_; rintro e w2 ⟨rfl, hb2⟩)
      go_roundw
      case rel => exact ⟨k + 1, by omega, by go_num, grow_trans hbd hb2⟩
      case measure => simp [intOf]; omega
    · go_wp2
      go_ret
      exact ⟨rfl, hb.out⟩
set_option maxHeartbeats 4000000 in
theorem toFuelS_any (v : Value) (ps : List Fu) (w : World) (hs : Sl w 5 v ps.length (fus ps)) (hm : ∀ p ∈ ps, p.n.size ≤ maxLen) (hn : ps.length ≤ 1048576) :
    Calls Try.prog 7 #[v] w (RetOwn w 31 5 ps.length (fus ps)) := by
  clear hm
  obtain ⟨A, c, rfl⟩ := hs.val
  obtain ⟨i0, hi0, hz0, hz1, hz2⟩ := info_parts info_fuel
  have hfl := flat_length encU_length ps
  generalize hN : ps.length = N at hs hn hfl ⊢
  have HN := Lib.hid hN
  have Hfl := Lib.hid hfl
  clear hN hfl
  have hby : i0.bytes * N ≤ 281474976710656 := by rw [hz2]; omega
  have hmx : N ≤ maxLen := by unfold maxLen; omega
  go_enter Try.func7, Try.ntmps7
  go_wp2_with (at_make; refine wpList_make_full _ rfl _ _ 27 rfl w.heap.size 31 i0 (fuV 0 ByteArray.empty 0 0 0) 5 Try.underlying27 hi0 hz0 hz1 _ _ _ _ N rfl rfl rfl rfl hby hmx (Nat.le_refl _) ?_)
  intro w1 hown hgrow
  have hb1 : Below w.heap.size w w1 := (Below.refl _ _).grown hgrow (Nat.le_refl _) (by simp)
  go_wp2
  go_loopw [4] (fun i wr => ∃ k : Nat, k ≤ N ∧ i = .int .i64 k ∧ Hid (Below w.heap.size w wr) ∧ Hid (∃ cs, wr.ownsRow w.heap.size 31 5 (.slice (some ⟨w.heap.size, 0, none⟩) N N) N cs ∧ ∀ j, j < k * 5 → cs[j]? = (fus ps)[j]?)) (fun i _ => N - (intOf i).toNat)
  case atStart => exact ⟨0, Nat.zero_le _, rfl, hb1, _, hown, fun j hj => by omega⟩
  case round =>
    obtain ⟨k, hk, rfl, hb, hcs⟩ := hrel
    by_cases hlt : k < N
    · obtain ⟨b, off, i, s, r, l, o, rfl, hx, hc0, hc1, hc2, hc3, hc4⟩ := (hs.below hb.out).fu HN.out hlt
      obtain ⟨cs, ho, hp⟩ := hcs.out
      have hl := ho.1
      have Hx := Lib.hid hx
      have Hp := Lib.hid hp
      have Ho := Lib.hid ho
      clear hx hp hl hcs ho
      go_wp2_with fail
      with_reducible refine (toFuel_any _ _ _ _ _ _).mono ?_
      rintro e w2 ⟨rfl, hb2⟩
      have o2 := own_below Ho.out hb2
      have hl := o2.1
      obtain ⟨u0, hu0⟩ : ∃ u, cs[k * 5]? = some u := ⟨_, List.getElem?_eq_getElem (by omega)⟩
      obtain ⟨u1, hu1⟩ : ∃ u, cs[k * 5 + 1]? = some u := ⟨_, List.getElem?_eq_getElem (by omega)⟩
      obtain ⟨u2, hu2⟩ : ∃ u, cs[k * 5 + 2]? = some u := ⟨_, List.getElem?_eq_getElem (by omega)⟩
      obtain ⟨u3, hu3⟩ : ∃ u, cs[k * 5 + 3]? = some u := ⟨_, List.getElem?_eq_getElem (by omega)⟩
      obtain ⟨u4, hu4⟩ : ∃ u, cs[k * 5 + 4]? = some u := ⟨_, List.getElem?_eq_getElem (by omega)⟩
      have d0 := o2.cellAt (k * 5) (by omega)
      have d1 := o2.cellAt (k * 5 + 1) (by omega)
      have d2 := o2.cellAt (k * 5 + 2) (by omega)
      have d3 := o2.cellAt (k * 5 + 3) (by omega)
      have d4 := o2.cellAt (k * 5 + 4) (by omega)
      rw [hu0] at d0
      rw [hu1] at d1
      rw [hu2] at d2
      rw [hu3] at d3
      rw [hu4] at d4
      have f0 := o2.frozenAt (k * 5)
      have f1 := o2.frozenAt (k * 5 + 1)
      have f2 := o2.frozenAt (k * 5 + 2)
      have f3 := o2.frozenAt (k * 5 + 3)
      have f4 := o2.frozenAt (k * 5 + 4)
      have O2 := Lib.hid o2
      have Hl := Lib.hid hl
      clear hu0 hu1 hu2 hu3 hu4 o2 hl
      go_wp2
      go_roundw
      case rel =>
        refine ⟨k + 1, by omega, by go_num, (((((grow_trans hb.out hb2).setCell (Nat.le_refl _) _).setCell (Nat.le_refl _) _).setCell (Nat.le_refl _) _).setCell (Nat.le_refl _) _).setCell (Nat.le_refl _) _, ((((cs.set (k * 5) (.int .i64 i)).set (k * 5 + 1) (.string s)).set (k * 5 + 2) (.int .i64 r)).set (k * 5 + 3) (.int .i64 l)).set (k * 5 + 4) (.int .i64 o), (((((O2.out.stored (k * 5) _).1.stored (k * 5 + 1) _).1.stored (k * 5 + 2) _).1.stored (k * 5 + 3) _).1.stored (k * 5 + 4) _).1, ?_⟩
        have hk2 : (k + 1) * 5 = k * 5 + 1 + 1 + 1 + 1 + 1 := by omega
        rw [hk2]
        have e0 : (fus ps)[k * 5]? = some (.int .i64 i) := flat_at encU_length Hx.out 0 _ rfl
        have e1 : (fus ps)[k * 5 + 1]? = some (.string s) := flat_at encU_length Hx.out 1 _ rfl
        have e2 : (fus ps)[k * 5 + 2]? = some (.int .i64 r) := flat_at encU_length Hx.out 2 _ rfl
        have e3 : (fus ps)[k * 5 + 3]? = some (.int .i64 l) := flat_at encU_length Hx.out 3 _ rfl
        have e4 : (fus ps)[k * 5 + 4]? = some (.int .i64 o) := flat_at encU_length Hx.out 4 _ rfl
        have := Hl.out
        exact prefix_set (prefix_set (prefix_set (prefix_set (prefix_set Hp.out (by omega) e0) (by simp; omega) e1) (by simp; omega) e2) (by simp; omega) e3) (by simp; omega) e4
      case measure => simp [intOf]; omega
    · obtain ⟨cs, ho, hp⟩ := hcs.out
      have hcs' : cs = fus ps := prefix_all (n := N * 5) (fun j hj => hp j (by omega)) (by have := ho.1; omega) Hfl.out
      subst hcs'
      have Ho := Lib.hid ho
      clear ho hp hcs
      go_wp2
      go_ret
      exact ⟨_, rfl, Ho.out, hb.out⟩
end Go.Proofs.Ytnadeddkogapoaa
