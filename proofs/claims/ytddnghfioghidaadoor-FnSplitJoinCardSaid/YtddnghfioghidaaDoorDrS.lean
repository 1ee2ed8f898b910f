/- Texts that are drawn. Conditions: as each states. -/
import Derived.Test.YtddnghfioghidaaDoorCurL
import Derived.Test.YtddnghfioghidaaDoorFmt
import Derived.Test.YtddnghfioghidaaDoorPInt
import Derived.Test.YtddnghfioghidaaDoorStrC
namespace Go.Proofs.YtddnghfioghidaaDoor
open Go.ChangeShapes Go.WideShapes Go.ChangeAt Go.RowKit Go.Deep
set_option linter.unusedVariables false
set_option linter.unusedSimpArgs false
set_option maxRecDepth 100000

theorem fin_belowS {w w' : World} {o : Obj} (h : (w.alloc o).grownBy w' (some w.heap.size)) : Below w.heap.size w w' :=
  Below.grown (grow_alloc w o) h (by simp) (fun k hk => by cases hk; exact Nat.le_refl _)
set_option maxHeartbeats 4000000 in
theorem any1_any (C m : Nat) (w : World) (h : Cur w C m) (hm : m ≤ 1099511627700) :
    Calls Tryd.prog 76 #[.pointer (some ⟨C, 0, none⟩)] w fun e w' => ∃ s : ByteArray, e = .returned (.string s) ∧ s.size ≤ 10 ∧ Cur w' C (m + 2) ∧ w.grownBy w' (some C) := by
  have hA := of_lit _ _ 9 ([⟨#[]⟩, ⟨#[97]⟩, ⟨#[97, 44, 98]⟩, ⟨#[115, 111, 109, 101, 32, 119, 111, 114, 100, 115]⟩, ⟨#[120, 35, 121]⟩, ⟨#[45, 49, 50]⟩, ⟨#[0, 255]⟩, ⟨#[44, 44]⟩, ⟨#[48]⟩] : List ByteArray) _ rfl h (by omega) (by omega) (by omega)
  simp only [List.map_cons, List.map_nil] at hA
  replace hA := Lib.hid hA
  clear h
  go_enter Tryd.func76, Tryd.ntmps76
  go_wp2_with fail
  refine hA.out.mono ?_
  rintro e w1 ⟨y, hy, rfl, hc, hg⟩
  have hs : Hid (y.size ≤ 10) := (show ∀ y ∈ ([⟨#[]⟩, ⟨#[97]⟩, ⟨#[97, 44, 98]⟩, ⟨#[115, 111, 109, 101, 32, 119, 111, 114, 100, 115]⟩, ⟨#[120, 35, 121]⟩, ⟨#[45, 49, 50]⟩, ⟨#[0, 255]⟩, ⟨#[44, 44]⟩, ⟨#[48]⟩] : List ByteArray), y.size ≤ 10 by decide) y hy
  replace hc := Lib.hid hc
  replace hg := Lib.hid hg
  clear hy hA
  go_wp2
  go_ret
  exact ⟨y, rfl, hs.out, hc.out, hg.out⟩
set_option maxHeartbeats 4000000 in
theorem DrawSplitString_any (V : Value) (zs : List Int) (w : World) (h1 : Sl w 1 V zs.length (octs zs)) (h2 : ∀ z ∈ zs, 0 ≤ z ∧ z ≤ 255) :
    Calls Tryd.prog 27 #[V] w fun e w' => ∃ s p : ByteArray, e = .returned (.tuple #[.string s, .string p]) ∧ s.size ≤ 10 ∧ p.size ≤ 2 ∧ Below w.heap.size w w' := by
  obtain ⟨A, cc, rfl⟩ := h1.val
  have hC0 := Cur.new h1 h2
  have hg0 : Hid ((w.alloc (.cells #[.slice A zs.length cc, .int .i64 0, .int .u64 0] 88)).grownBy (w.alloc (.cells #[.slice A zs.length cc, .int .i64 0, .int .u64 0] 88)) (some w.heap.size)) := grownBy_of_below (Below.refl _ _)
  have hF := Lib.hid (any1_any _ _ _ hC0 (by omega))
  clear hC0
  go_enter Tryd.func27, Tryd.ntmps27
  go_wp2_with fail
  refine hF.out.mono ?_
  rintro e w1 ⟨s, rfl, hs, hc, hg⟩
  replace hs := Lib.hid hs
  have hA := of_lit _ _ 5 ([⟨#[44]⟩, ⟨#[44]⟩, ⟨#[32]⟩, ⟨#[]⟩, ⟨#[44, 44]⟩] : List ByteArray) _ rfl hc (by omega) (by omega) (by omega)
  simp only [List.map_cons, List.map_nil] at hA
  replace hA := Lib.hid hA
  replace hg := Lib.hid (grownBy_trans hg0.out hg)
  clear hF hc hg0
  go_wp2_with fail
  refine hA.out.mono ?_
  rintro e w2 ⟨p, hp, rfl, hc', hg'⟩
  have hp2 : Hid (p.size ≤ 2) := (show ∀ y ∈ ([⟨#[44]⟩, ⟨#[44]⟩, ⟨#[32]⟩, ⟨#[]⟩, ⟨#[44, 44]⟩] : List ByteArray), y.size ≤ 2 by decide) p hp
  replace hg := Lib.hid (fin_belowS (grownBy_trans hg.out hg'))
  clear hA hc' hg' hp
  go_wp2
  exact bodyPost_ret (v := .tuple #[.string s, .string p]) (by simp [results, Tryd.results27, go_sem]) rfl ⟨_, _, rfl, hs.out, hp2.out, hg.out⟩
set_option maxHeartbeats 4000000 in
theorem DrawLessString_any (V : Value) (zs : List Int) (w : World) (h1 : Sl w 1 V zs.length (octs zs)) (h2 : ∀ z ∈ zs, 0 ≤ z ∧ z ≤ 255) :
    Calls Tryd.prog 31 #[V] w fun e w' => ∃ s p : ByteArray, e = .returned (.tuple #[.string s, .string p]) ∧ s.size ≤ 10 ∧ p.size ≤ 10 ∧ Below w.heap.size w w' := by
  obtain ⟨A, cc, rfl⟩ := h1.val
  have hC0 := Cur.new h1 h2
  have hg0 : Hid ((w.alloc (.cells #[.slice A zs.length cc, .int .i64 0, .int .u64 0] 88)).grownBy (w.alloc (.cells #[.slice A zs.length cc, .int .i64 0, .int .u64 0] 88)) (some w.heap.size)) := grownBy_of_below (Below.refl _ _)
  have hF := Lib.hid (any1_any _ _ _ hC0 (by omega))
  clear hC0
  go_enter Tryd.func31, Tryd.ntmps31
  go_wp2_with fail
  refine hF.out.mono ?_
  rintro e w1 ⟨s, rfl, hs, hc, hg⟩
  replace hs := Lib.hid hs
  have hA := Lib.hid (any1_any _ _ _ hc (by omega))
  replace hg := Lib.hid (grownBy_trans hg0.out hg)
  clear hF hc hg0
  go_wp2_with fail
  refine hA.out.mono ?_
  rintro e w2 ⟨p, rfl, hp, hc', hg'⟩
  replace hp := Lib.hid hp
  replace hg := Lib.hid (fin_belowS (grownBy_trans hg.out hg'))
  clear hA hc' hg'
  go_wp2
  exact bodyPost_ret (v := .tuple #[.string s, .string p]) (by simp [results, Tryd.results31, go_sem]) rfl ⟨_, _, rfl, hs.out, hp.out, hg.out⟩
theorem info_byteS : (Tryd.prog.info? 5).map (fun i => (i.zero, i.size, i.bytes)) = some (some (.int .u8 0), 1, 1) := by kernel_rfl
theorem made_bytes (n : Nat) : (madeCells #[Value.int .u8 0] n).toList = byts (List.replicate n 0) := by
  apply List.ext_getElem?
  intro j
  simp only [madeCells, byts, Array.toList_map, Array.toList_range, List.map_replicate]
  rw [List.getElem?_map, List.getElem?_replicate]
  rcases Nat.lt_or_ge j n with h | h
  · rw [List.getElem?_range h, if_pos h]
    simp [Nat.mod_one]
  · rw [List.getElem?_eq_none (by simpa using h), if_neg (by omega)]; rfl
/-- The text of n zeros. -/
def zerS (n : Nat) : ByteArray := bs (List.replicate n 0)
theorem zerS_size (n : Nat) : (zerS n).size = n := by unfold zerS; rw [bs_size]; simp
theorem conv_zero {W : World} {base n : Nat} {v : Value} (h : W.ownsRow base 5 1 v n (madeCells #[Value.int .u8 0] n).toList) : (convert 45 9 v).run Tryd.prog W = .ok (.string (zerS n)) W := by
  have hq := Qw.of_own h
  rw [made_bytes] at hq
  have hl : (List.replicate n (0 : UInt8)).length = n := by simp
  exact conv_bytes Tryd.underlying45 Tryd.underlying5 Tryd.underlying9 (l := List.replicate n 0) (by rw [hl]; exact hq)
set_option maxHeartbeats 4000000 in
theorem DrawAppendChecksum_any (V : Value) (zs : List Int) (w : World) (h1 : Sl w 1 V zs.length (octs zs)) (h2 : ∀ z ∈ zs, 0 ≤ z ∧ z ≤ 255) :
    Calls Tryd.prog 40 #[V] w fun e w' => ∃ s : ByteArray, e = .returned (.string s) ∧ s.size ≤ 5000 ∧ Below w.heap.size w w' := by
  obtain ⟨A, cc, rfl⟩ := h1.val
  have hC0 := Cur.new h1 h2
  have hg0 : Hid ((w.alloc (.cells #[.slice A zs.length cc, .int .i64 0, .int .u64 0] 88)).grownBy (w.alloc (.cells #[.slice A zs.length cc, .int .i64 0, .int .u64 0] 88)) (some w.heap.size)) := grownBy_of_below (Below.refl _ _)
  have hF := Lib.hid (one_any _ _ 20 _ hC0 (by omega) (by omega))
  obtain ⟨i0, hi, hz0, hz1, hz2⟩ := info_parts info_byteS
  clear hC0
  go_enter Tryd.func40, Tryd.ntmps40
  go_wp2_with fail
  refine hF.out.mono ?_
  rintro e w1 ⟨v, rfl, ⟨b, rfl⟩, hc, hg⟩
  replace hg := Lib.hid (grownBy_trans hg0.out hg)
  clear hF hg0
  cases b with
  | true =>
    have hP := Lib.hid (pick_any _ _ 10 _ hc (by omega) (by omega))
    clear hc
    go_wp2_with fail
    refine hP.out.mono ?_
    rintro e w2 ⟨v, rfl, ⟨x, rfl, x0, x1⟩, hc', hg'⟩
    replace hg := Lib.hid (fin_belowS (grownBy_trans hg.out hg'))
    clear hP hc' hg'
    obtain ⟨u, rfl⟩ := Int.eq_ofNat_of_zero_le x0
    have hu : u < 10 := by omega
    have hL : Hid ((3990 : Int) + (u : Int) = ((3990 + u : Nat) : Int)) := by show _ = _; omega
    have hby : i0.bytes * (3990 + u) ≤ 281474976710656 := by rw [hz2]; omega
    have hmx : 3990 + u ≤ maxLen := by unfold maxLen; omega
    go_wp2_with (at_make; refine wpList_make_full _ rfl _ _ 45 rfl w2.heap.size 5 i0 (.int .u8 0) 1 Tryd.underlying45 hi hz0 hz1 _ _ _ _ (3990 + u) rfl rfl hL.out hL.out hby hmx (Nat.le_refl _) ?_)
    intro w3 hown hgrow
    have hcv := conv_zero hown
    have hb3 : Hid (Below w.heap.size w w3) := hg.out.grown hgrow hg.out.size (by simp)
    clear hown hgrow
    go_wp2
    go_ret
    exact ⟨_, rfl, by rw [zerS_size]; omega, hb3.out⟩
  | false =>
    have hP := Lib.hid (any1_any _ _ _ hc (by omega))
    clear hc
    go_wp2_with fail
    refine hP.out.mono ?_
    rintro e w2 ⟨s, rfl, hs, hc', hg'⟩
    replace hs := Lib.hid hs
    replace hg := Lib.hid (fin_belowS (grownBy_trans hg.out hg'))
    clear hP hc' hg'
    go_wp2
    go_ret
    exact ⟨_, rfl, by have := hs.out; omega, hg.out⟩
theorem info_strS : (Tryd.prog.info? 9).map (fun i => (i.zero, i.size, i.bytes)) = some (some (.string ⟨#[]⟩), 1, 16) := by kernel_rfl
/-- A list of drawn texts. -/
def LsS (ss : List ByteArray) (k : Nat) : Prop := ss.length ≤ k ∧ ∀ s ∈ ss, s.size ≤ 5000
theorem LsS.add {ss : List ByteArray} {k : Nat} (h : LsS ss k) {s : ByteArray} (hs : s.size ≤ 5000) : LsS (ss ++ [s]) (k + 1) :=
  ⟨by rw [List.length_append]; have := h.1; simp; omega, fun x hx => by
    rcases List.mem_append.1 hx with h1 | h1
    · exact h.2 x h1
    · rw [List.mem_singleton.1 h1]; exact hs⟩
theorem LsS.ssz {ss : List ByteArray} {k : Nat} (h : LsS ss k) (hk : k ≤ 10) : sszN ss ≤ 1048576 := by
  have key : ∀ (l : List ByteArray), (∀ s ∈ l, s.size ≤ 5000) → ssum l ≤ 5000 * l.length := by
    intro l
    induction l with
    | nil => intro _; simp [ssum]
    | cons x l ih =>
      intro h
      have h1 := ih (fun s hs => h s (by simp [hs]))
      have h2 := h x (by simp)
      unfold ssum at *
      rw [List.map_cons, List.sum_cons, List.length_cons]
      omega
  have h1 := key ss h.2
  have h2 := h.1
  unfold sszN
  omega
theorem strs_snocS {w : World} {base : Nat} {v : Value} {xs : List ByteArray} {x : ByteArray} (h : Qw w base 9 1 v (xs.length + 1) (strs xs ++ [.string x])) : Qw w base 9 1 v (xs ++ [x]).length (strs (xs ++ [x])) := by
  simpa using h
set_option maxHeartbeats 8000000 in
theorem DrawJoinStrings_any (V : Value) (zs : List Int) (w : World) (h1 : Sl w 1 V zs.length (octs zs)) (h2 : ∀ z ∈ zs, 0 ≤ z ∧ z ≤ 255) :
    Calls Tryd.prog 28 #[V] w fun e w' => ∃ u ss p, e = .returned (.tuple #[u, .string p]) ∧ Sl w' 1 u ss.length (strs ss) ∧ LsS ss 10 ∧ p.size ≤ 2 ∧ Below w.heap.size w w' := by
  obtain ⟨A, cc, rfl⟩ := h1.val
  have hC0 := Cur.new h1 h2
  have hg0 : Hid ((w.alloc (.cells #[.slice A zs.length cc, .int .i64 0, .int .u64 0] 88)).grownBy (w.alloc (.cells #[.slice A zs.length cc, .int .i64 0, .int .u64 0] 88)) (some w.heap.size)) := grownBy_of_below (Below.refl _ _)
  obtain ⟨i0, hi, hz0, hz1, hz2⟩ := info_parts info_strS
  obtain ⟨j0, hj, hy0, hy1, hy2⟩ := info_parts info_byteS
  have hb0 := grow_alloc (w.alloc (.cells #[.slice A zs.length cc, .int .i64 0, .int .u64 0] 88)) (.cells #[] 9)
  have hF := Lib.hid (pick_any _ _ 4 _ (hC0.below hb0) (by omega) (by omega))
  have hq0 : Hid (Qw ((w.alloc (.cells #[.slice A zs.length cc, .int .i64 0, .int .u64 0] 88)).alloc (.cells #[] 9)) (w.heap.size + 1) 9 1 (.slice (some ⟨w.heap.size + 1, 0, none⟩) 0 0) 0 []) := Qw.emptyAt (hp2 _ _ _) (Nat.le_refl _)
  replace hg0 := Lib.hid (grownBy_trans hg0.out (grownBy_of_below (r := some w.heap.size) hb0))
  clear hC0 hb0
  go_enter Tryd.func28, Tryd.ntmps28
  go_wp2_with fail
  refine hF.out.mono ?_
  rintro e w1 ⟨v, rfl, ⟨x, rfl, x0, x1⟩, hc, hg⟩
  have hq := Lib.hid (hq0.out.kept hg (fun j hj e => by simp [Value.ownBlock] at hj; cases e; omega))
  replace hg := Lib.hid (fin_belowS (grownBy_trans hg0.out hg))
  replace hc := Lib.hid hc
  obtain ⟨N, rfl⟩ := Int.eq_ofNat_of_zero_le x0
  have hN : N < 4 := by omega
  clear hF hg0 hq0
  go_wp2_with fail
  go_loopw [5, 7] (fun v i wr => ∃ (k : Nat) (ss : List ByteArray), k ≤ N ∧ i = .int .i64 k ∧ Hid (LsS ss k) ∧ Hid (Below w.heap.size w wr) ∧ Hid (Cur wr w.heap.size (2 + 2 * k)) ∧ Hid (Qw wr (w.heap.size + 1) 9 1 v ss.length (strs ss))) (fun _ i _ => N - (intOf i).toNat)
  case atStart => exact ⟨0, [], Nat.zero_le _, rfl, ⟨Nat.le_refl _, by simp⟩, hg.out, hc.out, hq.out⟩
  case round =>
    obtain ⟨k, ss, hk, rfl, hls, hb, hc', hq'⟩ := hrel
    clear hg hc hq
    by_cases hlt : k < N
    · have hP := Lib.hid (any1_any _ _ _ hc'.out (by omega))
      go_wp2_with fail
      refine hP.out.mono ?_
      rintro e w2 ⟨s, rfl, hs, hc, hg⟩
      have hq2 := hq'.out.kept hg (fun j hj e => by have := (hq'.out.lt j hj).1; cases e; omega)
      have hb2 : Below w.heap.size w w2 := hb.out.grown hg hb.out.size (fun j hj => by cases hj; exact Nat.le_refl _)
      have hlt2 := hc.lt
      have hss := hls.out.1
      have hsz2 := hb2.size
      clear hP hg
      go_wp2_with ((at_builtin; refine wpList_append_q _ rfl _ _ 22 rfl (w.heap.size + 1) 9 i0 (.string ⟨#[]⟩) 1 16 Tryd.underlying22 hi hz0 hz1 hz2 rfl (by decide) _ _ _ rfl (Qw.below hq2 (grow_alloc w2 _)) _ 1 [.string s] rfl (Sl.boxAt (hp0 w2 _)) (by intro u hu; simp at hu; subst hu; rfl) (by unfold maxLen; omega) (by omega) (by simp; omega) ?_))
      intro vA wA hqA hgA hdA
      have hrow : ∀ j, (Value.ownBlock _ : Option Nat) = some j → w.heap.size < j := fun j hj => by have := (hq2.lt j hj).1; omega
      have hbA := Lib.hid ((hb2.alloc hsz2 _).grown hgA (by simp; omega) (fun j hj => by have := hrow j hj; omega))
      have hcA := Lib.hid ((hc.below (grow_alloc w2 _)).kept hgA hrow)
      have hqA := Lib.hid (strs_snocS hqA)
      have hlA := Lib.hid (hls.out.add (s := s) (by omega))
      clear hq2 hb2 hc hgA hdA hrow
      go_wp2
      go_roundw
      case rel => exact ⟨k + 1, _, by omega, by go_num, hlA.out, hbA.out, hcA.out.up (by omega), hqA.out⟩
      case measure => simp [intOf]; omega
    · have hP := Lib.hid (one_any _ _ 20 _ hc'.out (by omega) (by omega))
      go_wp2_with fail
      refine hP.out.mono ?_
      rintro e w2 ⟨vb, rfl, ⟨b, rfl⟩, hc2, hg⟩
      have hq2 := hq'.out.kept hg (fun j hj e => by have := (hq'.out.lt j hj).1; cases e; omega)
      have hb2 : Below w.heap.size w w2 := hb.out.grown hg hb.out.size (fun j hj => by cases hj; exact Nat.le_refl _)
      have hsz2 := hb2.size
      clear hP hg hb hc' hq'
      cases b with
      | false =>
        have hss := hls.out.1
        have hA := of_lit _ _ 5 ([⟨#[44]⟩, ⟨#[59]⟩, ⟨#[59]⟩, ⟨#[]⟩, ⟨#[97, 98]⟩] : List ByteArray) _ rfl hc2 (by omega) (by omega) (by omega)
        simp only [List.map_cons, List.map_nil] at hA
        replace hA := Lib.hid hA
        have hAp := fun p (hp : p ∈ ([⟨#[44]⟩, ⟨#[59]⟩, ⟨#[59]⟩, ⟨#[]⟩, ⟨#[97, 98]⟩] : List ByteArray)) => (show ∀ y ∈ ([⟨#[44]⟩, ⟨#[59]⟩, ⟨#[59]⟩, ⟨#[]⟩, ⟨#[97, 98]⟩] : List ByteArray), y.size ≤ 2 by decide) p hp
        replace hAp := Lib.hid hAp
        go_wp2_with fail
        refine hA.out.mono ?_
        rintro e wz ⟨p, hp, rfl, hcz, hgz⟩
        have hqz := Lib.hid (hq2.kept hgz (fun j hj e => by have := (hq2.lt j hj).1; cases e; omega))
        have hbz := Lib.hid (hb2.grown hgz hb2.size (fun j hj => by cases hj; exact Nat.le_refl _))
        have hp2 := Lib.hid (hAp.out p hp)
        clear hA hAp hcz hgz hp
        go_wp2
        exact bodyPost_ret (v := .tuple #[u5, .string p]) (by simp [results, Tryd.results28, go_sem]) rfl ⟨_, _, _, rfl, Sl.of_q hqz.out, ⟨by have := hls.out.1; omega, hls.out.2⟩, hp2.out, hbz.out⟩
      | true =>
        have hP := Lib.hid (pick_any _ _ 20 _ hc2 (by omega) (by omega))
        clear hc2
        go_wp2_with fail
        refine hP.out.mono ?_
        rintro e w3 ⟨vb, rfl, ⟨y, rfl, y0', y1'⟩, hc3, hg⟩
        have hq3 := hq2.kept hg (fun j hj e => by have := (hq2.lt j hj).1; cases e; omega)
        have hb3 : Below w.heap.size w w3 := hb2.grown hg hb2.size (fun j hj => by cases hj; exact Nat.le_refl _)
        clear hP hg hb2 hq2
        obtain ⟨u, rfl⟩ := Int.eq_ofNat_of_zero_le y0'
        have hu : u < 20 := by omega
        have hL : Hid ((3990 : Int) + (u : Int) = ((3990 + u : Nat) : Int)) := by show _ = _; omega
        have hby : j0.bytes * (3990 + u) ≤ 281474976710656 := by rw [hy2]; omega
        have hmx : 3990 + u ≤ maxLen := by unfold maxLen; omega
        go_wp2_with (at_make; refine wpList_make_full _ rfl _ _ 45 rfl w3.heap.size 5 j0 (.int .u8 0) 1 Tryd.underlying45 hj hy0 hy1 _ _ _ _ (3990 + u) rfl rfl hL.out hL.out hby hmx (Nat.le_refl _) ?_)
        intro w4 hown hgrow
        have hcv := conv_zero hown
        have hz := zerS_size (3990 + u)
        have hb4 : Below w.heap.size w w4 := hb3.grown hgrow hb3.size (by simp)
        have hq4 := hq3.kept hgrow (fun j hj e => by cases e)
        have hc4 := hc3.kept hgrow (by intro j hj; cases hj)
        have hsz4 := hb4.size
        have hlt4 := hc4.lt
        have hss := hls.out.1
        clear hown hgrow hb3 hq3 hc3
        generalize zerS (3990 + u) = s at *
        go_wp2_with ((at_builtin; refine wpList_append_q _ rfl _ _ 22 rfl (w.heap.size + 1) 9 i0 (.string ⟨#[]⟩) 1 16 Tryd.underlying22 hi hz0 hz1 hz2 rfl (by decide) _ _ _ rfl (Qw.below hq4 (grow_alloc w4 _)) _ 1 [.string s] rfl (Sl.boxAt (hp0 w4 _)) (by intro u hu; simp at hu; subst hu; rfl) (by unfold maxLen; omega) (by omega) (by simp; omega) ?_))
        intro vA wA hqA hgA hdA
        have hrow : ∀ j, (Value.ownBlock _ : Option Nat) = some j → w.heap.size < j := fun j hj => by have := (hq4.lt j hj).1; omega
        have hbA := (hb4.alloc hsz4 _).grown hgA (by simp; omega) (fun j hj => by have := hrow j hj; omega)
        have hcA := (hc4.below (grow_alloc w4 _)).kept hgA hrow
        replace hqA := strs_snocS hqA
        have hlA := hls.out.add (s := s) (by omega)
        clear hq4 hb4 hc4 hgA hdA hrow
        have hA := of_lit _ _ 5 ([⟨#[44]⟩, ⟨#[59]⟩, ⟨#[59]⟩, ⟨#[]⟩, ⟨#[97, 98]⟩] : List ByteArray) _ rfl hcA (by omega) (by omega) (by omega)
        simp only [List.map_cons, List.map_nil] at hA
        replace hA := Lib.hid hA
        have hAp := fun p (hp : p ∈ ([⟨#[44]⟩, ⟨#[59]⟩, ⟨#[59]⟩, ⟨#[]⟩, ⟨#[97, 98]⟩] : List ByteArray)) => (show ∀ y ∈ ([⟨#[44]⟩, ⟨#[59]⟩, ⟨#[59]⟩, ⟨#[]⟩, ⟨#[97, 98]⟩] : List ByteArray), y.size ≤ 2 by decide) p hp
        replace hAp := Lib.hid hAp
        go_wp2_with fail
        refine hA.out.mono ?_
        rintro e wz ⟨p, hp, rfl, hcz, hgz⟩
        have hqz := Lib.hid (hqA.kept hgz (fun j hj e => by have := (hqA.lt j hj).1; cases e; omega))
        have hbz := Lib.hid (hbA.grown hgz hbA.size (fun j hj => by cases hj; exact Nat.le_refl _))
        have hp2 := Lib.hid (hAp.out p hp)
        clear hA hAp hcz hgz hp
        go_wp2
        exact bodyPost_ret (v := .tuple #[vA, .string p]) (by simp [results, Tryd.results28, go_sem]) rfl ⟨_, _, _, rfl, Sl.of_q hqz.out, ⟨by have := hlA.1; omega, hlA.2⟩, hp2.out, hbz.out⟩
set_option maxHeartbeats 4000000 in
theorem DrawFormatInt_any (V : Value) (zs : List Int) (w : World) (h1 : Sl w 1 V zs.length (octs zs)) (h2 : ∀ z ∈ zs, 0 ≤ z ∧ z ≤ 255) :
    Calls Tryd.prog 34 #[V] w fun e w' => ∃ n : Int, e = .returned (.int .i64 n) ∧ (-1000000 ≤ n ∧ n ≤ 1000000) ∧ Below w.heap.size w w' := by
  obtain ⟨A, cc, rfl⟩ := h1.val
  have hC0 := Cur.new h1 h2
  have hg0 : Hid ((w.alloc (.cells #[.slice A zs.length cc, .int .i64 0, .int .u64 0] 88)).grownBy (w.alloc (.cells #[.slice A zs.length cc, .int .i64 0, .int .u64 0] 88)) (some w.heap.size)) := grownBy_of_below (Below.refl _ _)
  have hF := Lib.hid (pick_any _ _ 1000 _ hC0 (by omega) (by omega))
  clear hC0
  go_enter Tryd.func34, Tryd.ntmps34
  go_wp2_with fail
  refine hF.out.mono ?_
  rintro e w1 ⟨v, rfl, ⟨x, rfl, x0, x1⟩, hc, hg⟩
  have hA := among_lit _ _ 9 ([0, 1, -1, 10, 999999, -999999, 1000000, -1000000, x - 500] : List Int) _ rfl hc (by omega) (by omega) (by omega)
  simp only [List.map_cons, List.map_nil] at hA
  replace hA := Lib.hid hA
  replace hg := Lib.hid (grownBy_trans hg0.out hg)
  clear hF hc hg0
  go_wp2_with fail
  refine hA.out.mono ?_
  rintro e w2 ⟨n, hn, rfl, hc', hg'⟩
  have hn2 : Hid (-1000000 ≤ n ∧ n ≤ 1000000) := by
    show _ ∧ _
    simp only [List.mem_cons, List.not_mem_nil, or_false] at hn
    omega
  replace hg := Lib.hid (fin_belowS (grownBy_trans hg.out hg'))
  clear hA hc' hg' hn
  go_wp2
  go_ret
  exact ⟨_, rfl, hn2.out, hg.out⟩
set_option maxHeartbeats 4000000 in
theorem DrawParseInt_any (V : Value) (zs : List Int) (w : World) (h1 : Sl w 1 V zs.length (octs zs)) (h2 : ∀ z ∈ zs, 0 ≤ z ∧ z ≤ 255) :
    Calls Tryd.prog 37 #[V] w fun e w' => ∃ s : ByteArray, e = .returned (.string s) ∧ s.size ≤ 5000 ∧ Below w.heap.size w w' := by
  obtain ⟨A, cc, rfl⟩ := h1.val
  have hC0 := Cur.new h1 h2
  have hg0 : Hid ((w.alloc (.cells #[.slice A zs.length cc, .int .i64 0, .int .u64 0] 88)).grownBy (w.alloc (.cells #[.slice A zs.length cc, .int .i64 0, .int .u64 0] 88)) (some w.heap.size)) := grownBy_of_below (Below.refl _ _)
  have hF := Lib.hid (one_any _ _ 2 _ hC0 (by omega) (by omega))
  clear hC0
  go_enter Tryd.func37, Tryd.ntmps37
  go_wp2_with fail
  refine hF.out.mono ?_
  rintro e w1 ⟨v, rfl, ⟨b, rfl⟩, hc, hg⟩
  replace hg := Lib.hid (grownBy_trans hg0.out hg)
  clear hF hg0
  cases b with
  | true =>
    have hA := of_lit _ _ 11 ([⟨#[]⟩, ⟨#[45]⟩, ⟨#[45, 48]⟩, ⟨#[48, 48]⟩, ⟨#[48, 49]⟩, ⟨#[45, 45, 49]⟩, ⟨#[49, 120]⟩, ⟨#[57, 57, 57, 57, 57, 57]⟩, ⟨#[49, 48, 48, 48, 48, 48, 48]⟩, ⟨#[45, 57, 57, 57, 57, 57, 57]⟩, ⟨#[49, 56, 52, 52, 54, 55, 52, 52, 48, 55, 51, 55, 48, 57, 53, 53, 49, 54, 49, 55]⟩] : List ByteArray) _ rfl hc (by omega) (by omega) (by omega)
    simp only [List.map_cons, List.map_nil] at hA
    replace hA := Lib.hid hA
    clear hc
    go_wp2_with fail
    refine hA.out.mono ?_
    rintro e w2 ⟨s, hs, rfl, hc', hg'⟩
    have hs2 : Hid (s.size ≤ 5000) := (show ∀ y ∈ ([⟨#[]⟩, ⟨#[45]⟩, ⟨#[45, 48]⟩, ⟨#[48, 48]⟩, ⟨#[48, 49]⟩, ⟨#[45, 45, 49]⟩, ⟨#[49, 120]⟩, ⟨#[57, 57, 57, 57, 57, 57]⟩, ⟨#[49, 48, 48, 48, 48, 48, 48]⟩, ⟨#[45, 57, 57, 57, 57, 57, 57]⟩, ⟨#[49, 56, 52, 52, 54, 55, 52, 52, 48, 55, 51, 55, 48, 57, 53, 53, 49, 54, 49, 55]⟩] : List ByteArray), y.size ≤ 5000 by decide) s hs
    replace hg := Lib.hid (fin_belowS (grownBy_trans hg.out hg'))
    clear hA hc' hg' hs
    go_wp2
    go_ret
    exact ⟨_, rfl, hs2.out, hg.out⟩
  | false =>
    have hP := Lib.hid (pick_any _ _ 2000 _ hc (by omega) (by omega))
    clear hc
    go_wp2_with fail
    refine hP.out.mono ?_
    rintro e w2 ⟨v, rfl, ⟨x, rfl, x0, x1⟩, hc', hg'⟩
    replace hg := Lib.hid (fin_belowS (grownBy_trans hg.out hg'))
    have hN := Lib.hid fun W => l1Num_any (x - 1000) (by omega) (by omega) W
    have hz : Hid ((numS (x - 1000)).size ≤ 5000) := by
      show _ ≤ _
      have := numS_short (x - 1000) (inB_iff.2 (by omega))
      omega
    clear hP hc' hg'
    go_wp2_with fail
    refine (hN.out _).mono ?_
    rintro e w3 ⟨rfl, hb'⟩
    replace hg := Lib.hid (grow_trans hg.out hb')
    clear hN hb'
    generalize numS (x - 1000) = s at *
    go_wp2
    go_ret
    exact ⟨_, rfl, hz.out, hg.out⟩
end Go.Proofs.YtddnghfioghidaaDoor
