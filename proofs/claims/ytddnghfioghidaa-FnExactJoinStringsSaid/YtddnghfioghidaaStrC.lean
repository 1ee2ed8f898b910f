/- Contracts of the functions that size and copy slices of strings. Conditions: lengths up to 1048576. -/
import Derived.Test.YtddnghfioghidaaStrs
namespace Go.Proofs.Ytddnghfioghidaa
open Go.ChangeShapes Go.WideShapes Go.ChangeAt Go.RowKit Go.Deep
set_option linter.unusedVariables false
set_option linter.unusedSimpArgs false
set_option maxRecDepth 100000

/-- The bytes of strings. -/
def ssum (ss : List ByteArray) : Nat := (ss.map ByteArray.size).sum
def sszN (ss : List ByteArray) : Nat := ss.length + ssum ss
theorem sszN_len (ss : List ByteArray) : ss.length ≤ sszN ss := by unfold sszN; omega
theorem ssum_succ {ss : List ByteArray} {k : Nat} {p : ByteArray} (h : ss[k]? = some p) : ssum (ss.take (k + 1)) = ssum (ss.take k) + p.size := by
  obtain ⟨hk, rfl⟩ := List.getElem?_eq_some_iff.1 h
  unfold ssum
  rw [List.take_succ_eq_append_getElem hk, List.map_append, List.sum_append]; simp
theorem ssum_take (ss : List ByteArray) (k : Nat) : ssum (ss.take k) ≤ ssum ss := by
  unfold ssum
  conv => rhs; rw [← List.take_append_drop k ss]
  rw [List.map_append, List.sum_append]; omega
theorem ssum_mem {ss : List ByteArray} {p : ByteArray} (h : p ∈ ss) : p.size ≤ ssum ss := by
  obtain ⟨k, hk, rfl⟩ := List.mem_iff_getElem.1 h
  have h1 := ssum_succ (List.getElem?_eq_getElem hk)
  have h2 := ssum_take ss (k + 1)
  omega
theorem info_str : (Try.prog.info? 9).map (fun i => (i.zero, i.size, i.bytes)) = some (some (.string ⟨#[]⟩), 1, 16) := by kernel_rfl
/-- What is left of a size. -/
def szW (k : Int) (n : Nat) : Int := if k - n < 0 then -1 else k - n
set_option maxHeartbeats 2000000 in
theorem szStringS_any (v : Value) (k : Int) (ss : List ByteArray) (w : World) (h : Sl w 1 v ss.length (strs ss)) (hm : ∀ p ∈ ss, p.size ≤ maxLen) (h1 : 0 ≤ k) (h2 : k ≤ 1048576) :
    Calls Try.prog 4 #[v, .int .i64 k] w fun e w' => e = .returned (.int .i64 (szW k (sszN ss))) ∧ Below w.heap.size w w' := by
  have hmx := h.len
  unfold maxLen at hmx
  have Hm := Lib.hid hm
  have HS : Hid (szW k (sszN ss) = if k - (ss.length + ssum ss : Nat) < 0 then -1 else k - (ss.length + ssum ss : Nat)) := rfl
  have Hn := Lib.hid fun j => ssum_take ss j
  have Hall : Hid (ssum (ss.take ss.length) = ssum ss) := by show _ = _; rw [List.take_length]
  obtain ⟨A, c, rfl⟩ := h.val
  generalize hN : ss.length = N at *
  have HN := Lib.hid hN
  have Hs := Lib.hid h
  generalize szW k (sszN ss) = R at *
  clear hN h hm
  by_cases hneg : k - N < 0
  · have hR : R = -1 := by rw [HS.out, if_pos (by omega)]
    subst hR
    clear HS Hm Hn Hs
    go_enter Try.func4, Try.ntmps4
    go_wp2
    go_ret
    exact ⟨rfl, Below.refl _ _⟩
  · go_enter Try.func4, Try.ntmps4
    go_wp2
    go_loop [1, 5] (fun q i => ∃ j : Nat, j ≤ N ∧ i = .int .i64 j ∧ q = .int .i64 (k - N - ssum (ss.take j)) ∧ 0 ≤ k - N - ssum (ss.take j)) (fun _ i => N - (intOf i).toNat)
    case atStart => exact ⟨0, Nat.zero_le _, rfl, by simp [ssum], by simp [ssum]; omega⟩
    case round =>
      obtain ⟨j, hj, rfl, rfl, h0⟩ := hrel
      by_cases hlt : j < N
      · obtain ⟨b, off, s, rfl, hx, c0⟩ := Hs.out.at1 HN.out hlt
        have hsz := Hm.out _ (List.mem_of_getElem? hx)
        unfold maxLen at hsz
        have Hsu := Lib.hid (ssum_succ hx)
        have hn1 := Hn.out (j + 1)
        have e1 := Hsu.out
        rw [e1] at hn1
        clear e1 hx
        generalize hq : ssum (ss.take j) = q at *
        have Hq := Lib.hid hq
        clear hq
        have hlz : (j : Int) < (N : Int) := by omega
        by_cases hng : k - N - q - s.size < 0
        · have hR : R = -1 := by rw [HS.out, if_pos (by omega)]
          subst hR
          clear HS
          go_wp2
          go_ret
          exact ⟨rfl, Below.refl _ _⟩
        · go_wp2
          go_round
          case rel => exact ⟨j + 1, by omega, by go_num, by rw [Hsu.out]; simp; omega, by rw [Hsu.out]; simp; omega⟩
          case measure => simp [intOf]; omega
      · obtain rfl : j = N := by omega
        rw [Hall.out] at h0 ⊢
        have hR : R = k - j - ssum ss := by rw [HS.out, if_neg (by omega)]; omega
        subst hR
        clear HS
        go_wp2
        go_ret
        exact ⟨rfl, Below.refl _ _⟩
theorem szStringS_ok (u : Value) (k : Int) (ss : List ByteArray) (w : World) (h : Sl w 1 u ss.length (strs ss)) (hm : ∀ p ∈ ss, p.size ≤ maxLen) (h1 : 0 ≤ k) (h2 : k ≤ 1048576) (h3 : (sszN ss : Int) ≤ k) :
    Calls Try.prog 4 #[u, .int .i64 k] w fun e w' => e = .returned (.int .i64 (k - sszN ss)) ∧ Below w.heap.size w w' := by
  have := szStringS_any u k ss w h hm h1 h2
  rwa [show szW k (sszN ss) = k - sszN ss by unfold szW; rw [if_neg (by omega)]] at this
theorem szStringS_no (u : Value) (k : Int) (ss : List ByteArray) (w : World) (h : Sl w 1 u ss.length (strs ss)) (hm : ∀ p ∈ ss, p.size ≤ maxLen) (h1 : 0 ≤ k) (h2 : k ≤ 1048576) (h3 : ¬ (sszN ss : Int) ≤ k) :
    Calls Try.prog 4 #[u, .int .i64 k] w fun e w' => e = .returned (.int .i64 (-1)) ∧ Below w.heap.size w w' := by
  have := szStringS_any u k ss w h hm h1 h2
  rwa [show szW k (sszN ss) = -1 by unfold szW; rw [if_pos (by omega)]] at this
set_option maxHeartbeats 1000000 in
theorem toStringS_any (v : Value) (ss : List ByteArray) (w : World) (hs : Sl w 1 v ss.length (strs ss)) (hm : ∀ p ∈ ss, p.size ≤ maxLen) (hn : ss.length ≤ 1048576) :
    Calls Try.prog 6 #[v] w (RetOwn w 9 1 ss.length (strs ss)) := by
  obtain ⟨A, c, rfl⟩ := hs.val
  obtain ⟨i0, hi0, hz0, hz1, hz2⟩ := info_parts info_str
  clear hm
  generalize hN : ss.length = N at hs hn ⊢
  have HN := Lib.hid hN
  clear hN
  have hby : i0.bytes * N ≤ 281474976710656 := by rw [hz2]; omega
  have hmx : N ≤ maxLen := by unfold maxLen; omega
  go_enter Try.func6, Try.ntmps6
  go_wp2_with (at_make; refine wpList_make_full _ rfl _ _ 22 rfl w.heap.size 9 i0 (.string ⟨#[]⟩) 1 Try.underlying22 hi0 hz0 hz1 _ _ _ _ N rfl rfl rfl rfl hby hmx (Nat.le_refl _) ?_)
  intro w1 hown hgrow
  have hb1 : Below w.heap.size w w1 := (Below.refl _ _).grown hgrow (Nat.le_refl _) (by simp)
  go_wp2
  go_loopw [4] (fun i wr => ∃ k : Nat, k ≤ N ∧ i = .int .i64 k ∧ Hid (Below w.heap.size w wr) ∧ Hid (∃ cs, wr.ownsRow w.heap.size 9 1 (.slice (some ⟨w.heap.size, 0, none⟩) N N) N cs ∧ ∀ j, j < k → cs[j]? = (strs ss)[j]?)) (fun i _ => N - (intOf i).toNat)
  case atStart => exact ⟨0, Nat.zero_le _, rfl, hb1, _, hown, fun j hj => by omega⟩
  case round =>
    obtain ⟨k, hk, rfl, hb, hcs⟩ := hrel
    by_cases hlt : k < N
    · obtain ⟨b, off, x, rfl, hx, hcell⟩ := (hs.below hb.out).at1 HN.out hlt
      obtain ⟨cs, ho, hp⟩ := hcs.out
      have hl := ho.1
      obtain ⟨u, hu⟩ : ∃ u, cs[k]? = some u := ⟨_, List.getElem?_eq_getElem (by omega)⟩
      have c1 := ho.cellAt k (by omega)
      rw [hu] at c1
      have c2 := ho.frozenAt k
      have Hx := Lib.hid hx
      have Hp := Lib.hid hp
      clear hx hp hu hl hcs
      go_wp2
      go_roundw
      case rel =>
        exact ⟨k + 1, by omega, by go_num, hb.out.setCell (Nat.le_refl _) _, cs.set k (.string x), (ho.stored k _).1, prefix_set Hp.out (by have := ho.1; omega) (by simp [Hx.out])⟩
      case measure => simp [intOf]; omega
    · obtain ⟨cs, ho, hp⟩ := hcs.out
      have hcs' : cs = strs ss := prefix_all (n := N) (fun j hj => hp j (by omega)) (by have := ho.1; omega) (by simp [HN.out])
      subst hcs'
      have Ho := Lib.hid ho
      clear ho hp hcs
      go_wp2
      go_ret
      exact ⟨_, rfl, Ho.out, hb.out⟩
end Go.Proofs.Ytddnghfioghidaa
