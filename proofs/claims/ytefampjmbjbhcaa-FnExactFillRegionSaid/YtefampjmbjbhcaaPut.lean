/- A number put to its place in a list, a list copied, in the reference. Conditions: as each states. -/
import Derived.Test.YtefampjmbjbhcaaQueue
import Derived.Test.YtefampjmbjbhcaaSet
import Derived.Test.YtefampjmbjbhcaaRise
import Derived.Deep.RegionHeldLaw
import Derived.Deep.DrawnRows
import Derived.Outline
namespace Go.Proofs.Ytefampjmbjbhcaa
open Go.ChangeShapes Go.WideShapes Go.ChangeAt Go.RowKit Go.Deep
set_option linter.unusedVariables false
set_option linter.unusedSimpArgs false
set_option maxRecDepth 100000

set_option maxHeartbeats 1000000 in
theorem l1Own_any (v : Value) (zs : List Int) (w : World) (h : Sl w 1 v zs.length (ints zs)) (hn : zs.length ≤ 1048576) :
    Calls Try.prog 75 #[v] w (RetQ w 3 1 zs.length (ints zs)) := by
  obtain ⟨A, c, rfl⟩ := h.val
  obtain ⟨i0, hi, hz0, hz1, hz2⟩ := info_parts info_int
  generalize hN : zs.length = N at *
  have HN := Lib.hid hN
  clear hN
  have Ho : Hid (Qw (w.alloc (.cells #[] 3)) w.heap.size 3 1 (.slice (some ⟨w.heap.size, 0, none⟩) 0 0) 0 []) := Qw.empty w _
  have Hs := Lib.hid (h.below (grow_alloc w (.cells #[] 3)))
  have h1 := ints_one zs
  have H1 := Lib.hid h1
  clear h h1
  go_enter Try.func75, Try.ntmps75
  go_wp2_with ((at_builtin; refine wpList_append_q _ rfl _ _ 22 rfl w.heap.size 3 i0 (.int .i64 0) 1 8 Try.underlying22 hi hz0 hz1 hz2 rfl (by decide) _ _ _ rfl Ho.out _ _ _ rfl Hs.out H1.out (by unfold maxLen; omega) (by omega) (by simp) ?_))
  intro v' w1 hq hg _
  have hq := Lib.hid hq
  have hb := Lib.hid (((Below.refl w.heap.size w).alloc (Nat.le_refl _) (.cells #[] 3)).grown hg (by simp) (fun j hj => by simp [Value.ownBlock] at hj; omega))
  clear hg
  go_wp2
  go_ret
  exact ⟨_, rfl, by simpa using hq.out, hb.out⟩
theorem put_tail {zs : List Int} {n : Int} {k : Nat} (hk : k ≤ zs.length) (h : ∀ (j : Nat) (z : Int), j < k → zs[j]? = some z → z < n) (hs : ∀ z, zs[k]? = some z → n < z) : ints (putL zs n) = [] ++ (ints zs).take k ++ [.int .i64 n] ++ (ints zs).drop k := by
  rw [putL_at hk h hs]; simp
/-- What l1Put hands back. -/
def RetPut (w : World) (base : Nat) (v : Value) (cs : List Int) (e : Ending) (w' : World) : Prop :=
  ∃ u, e = .returned u ∧ Qw w' base 3 1 u cs.length (ints cs) ∧ Below w.heap.size w w' ∧ (u = v ∨ ∀ j, u.ownBlock = some j → w.heap.size ≤ j)
theorem put_end {w w' : World} {base : Nat} {v u : Value} {zs : List Int} {n : Int} {k N : Nat} (h : Qw w' w.heap.size 3 1 u (0 + k + 1 + (N - k)) ([] ++ (ints zs).take k ++ [.int .i64 n] ++ (ints zs).drop k)) (hb : Below w.heap.size w w') (hbase : base ≤ w.heap.size)
    (hN : True) (hp : ints (putL zs n) = [] ++ (ints zs).take k ++ [.int .i64 n] ++ (ints zs).drop k) : RetPut w base v (putL zs n) (.returned u) w' := by
  rw [← hp] at h
  have hl : (putL zs n).length = 0 + k + 1 + (N - k) := by have := h.1; simpa using this
  rw [← hl] at h
  exact ⟨u, rfl, h.lower hbase, hb, .inr fun j hj => (h.lt j hj).1⟩
set_option maxHeartbeats 4000000 in
theorem l1Put_any (v : Value) (zs : List Int) (n : Int) (base : Nat) (w : World) (h : Qw w base 3 1 v zs.length (ints zs)) (hbase : base ≤ w.heap.size) (hn : zs.length ≤ 1048576) :
    Calls Try.prog 77 #[v, .int .i64 n] w (RetPut w base v (putL zs n)) := by
  have hs := Sl.of_q h
  obtain ⟨A, c, rfl⟩ := hs.val
  have hmx := hs.len
  unfold maxLen at hmx
  have hcap : zs.length ≤ c ∧ c ≤ 9223372036854775807 := by
    obtain ⟨A', c', e, h1, h2, _⟩ := hs
    injection e with _ _ e2
    subst e2
    unfold maxLen at h2; omega
  obtain ⟨hc1, hc2⟩ := hcap
  obtain ⟨i0, hi, hz0, hz1, hz2⟩ := info_parts info_int
  have h1 := ints_one zs
  have H1 := Lib.hid h1
  have HQ := Lib.hid h
  have HS := Lib.hid hs
  clear h hs h1
  generalize hN : zs.length = N at *
  have HN := Lib.hid hN
  clear hN
  go_enter Try.func77, Try.ntmps77
  go_wp2
  go_loop [5] (fun i => ∃ k : Nat, k ≤ N ∧ i = .int .i64 k ∧ Hid (∀ (j : Nat) (z : Int), j < k → zs[j]? = some z → z < n)) (fun i => N - (intOf i).toNat)
  case atStart => exact ⟨0, Nat.zero_le _, rfl, fun j z hj => by omega⟩
  case round =>
    obtain ⟨k, hk, rfl, hlow⟩ := hrel
    by_cases hlt : k < N
    · obtain ⟨b, off, z, rfl, hz, hcell⟩ := HS.out.at1 HN.out hlt
      have Hz := Lib.hid hz
      clear hz
      by_cases hq : z < n
      · go_wp2
        go_round
        case rel =>
          refine ⟨k + 1, by omega, by go_num, fun j y hj hy => ?_⟩
          by_cases e : j = k
          · subst e
            rw [Hz.out] at hy
            cases hy
            exact hq
          · exact hlow.out j y (by omega) hy
        case measure => simp [intOf]; omega
      · by_cases he : z = n
        · subst he
          have Hp := Lib.hid (putL_in (l := zs) (n := z) (k := k) hlow.out Hz.out)
          go_wp2
          go_ret
          exact ⟨_, rfl, by rw [Hp.out, HN.out]; exact HQ.out, Below.refl _ _, .inl rfl⟩
        · have Hp := Lib.hid (put_tail (zs := zs) (n := n) (k := k) (by have := HN.out; omega) hlow.out (fun y hy => by rw [Hz.out] at hy; cases hy; omega))
          have HA := Lib.hid (HS.out.cut hk)
          have hB := HS.out.from hk
          simp only [Nat.mul_one, Option.map_some, Addr.add_lit] at hB
          have HB := Lib.hid hB
          clear hB
          go_wp2_with fail
          have i1 : (0 : Int) ≤ (k : Int) := by omega
          have i2 : (k : Int) ≤ (N : Int) := by omega
          have i3 : (k : Int) ≤ (c : Int) := by omega
          have g1 : Hid (∀ u ∈ (ints zs).take k, u.oneCell' = true) := fun u hu => H1.out u (List.mem_of_mem_take hu)
          have g2 : Hid (∀ u ∈ (ints zs).drop k, u.oneCell' = true) := fun u hu => H1.out u (List.mem_of_mem_drop hu)
          go_region_held_law (fun w' => True) (trivial) (first | (refine step_append_q (o := ⟨some 37, _, _, _, _, _⟩) _ (by rfl) (.tmp 33) (.tmp 36) 22 (by rfl) w.heap.size 3 i0 (.int .i64 0) 1 8 Try.underlying22 hi hz0 hz1 hz2 rfl (by decide) _ 0 [] (by rfl) (Qw.emptyAt (by first | exact hp0 _ _ | exact hp1 _ _ _ | exact hp2 _ _ _) (by first | exact Nat.le_refl _ | simp)) _ k ((ints zs).take k) (by rfl) (HA.out.below (by first | exact (grow_alloc _ _).drew | exact (grow_trans (grow_alloc _ _) (grow_alloc _ _)).drew)) g1.out (by unfold maxLen; omega) (by omega) (by simp; try omega) ?_; intro v1 w1 hq1 hg1 hd1; have hb1 : Below w.heap.size w w1 := Below.grown (by first | exact (grow_alloc _ _).drew | exact (grow_trans (grow_alloc _ _) (grow_alloc _ _)).drew) hg1 (by simp <;> omega) (fun j hj => by simp [Value.ownBlock] at hj; omega); have s1 := hb1.size; clear hd1) | (refine step_append_q (o := ⟨some 40, _, _, _, _, _⟩) _ (by rfl) (.tmp 37) (.tmp 39) 22 (by rfl) w.heap.size 3 i0 (.int .i64 0) 1 8 Try.underlying22 hi hz0 hz1 hz2 rfl (by decide) v1 (0 + k) ([] ++ (ints zs).take k) (by rfl) (by first | exact hq1 | exact hq1.below (grow_alloc _ _)) _ 1 [.int .i64 n] (by rfl) (Sl.boxAt (by first | exact hp0 _ _ | exact (hg1.block _ (by simp <;> omega) (by simp [Value.ownBlock])).trans (hp1 _ _ _) | exact (hg1.block _ (by simp <;> omega) (by simp [Value.ownBlock])).trans (hp2 _ _ _))) (by intro u hu; simp at hu; subst hu; rfl) (by unfold maxLen; omega) (by omega) (by first | exact s1 | (simp; omega)) ?_; intro v2 w2 hq2 hg2 hd2; have hb2 : Below w.heap.size w w2 := (by first | exact hb1.grown hg2 s1 (fun j hj => (hq1.lt j hj).1) | exact (hb1.alloc s1 _).grown hg2 (by simp; omega) (fun j hj => (hq1.lt j hj).1)); have s2 := hb2.size; clear hd2 hg2 hg1) | (refine step_append_q (o := ⟨some 44, _, _, _, _, _⟩) _ (by rfl) (.tmp 40) (.tmp 43) 22 (by rfl) w.heap.size 3 i0 (.int .i64 0) 1 8 Try.underlying22 hi hz0 hz1 hz2 rfl (by decide) v2 (0 + k + 1) ([] ++ (ints zs).take k ++ [.int .i64 n]) (by rfl) hq2 _ (N - k) ((ints zs).drop k) (by rfl) (by exact HB.out.below hb2) g2.out (by unfold maxLen; omega) (by omega) s2 ?_; intro v3 w3 hq3 hg3 hd3; have hb3 := hb2.grown hg3 s2 (fun j hj => (hq2.lt j hj).1); clear hd3 hg3))
          all_goals
            have HQ3 := Lib.hid hq3
            have HB3 := Lib.hid hb3
            clear hq1 hq2 hq3 hb1 hb2 hb3
            go_wp2
            all_goals go_ret
            all_goals exact put_end HQ3.out HB3.out hbase trivial Hp.out
    · have Hp := Lib.hid (put_tail (zs := zs) (n := n) (k := k) (by have := HN.out; omega) hlow.out (fun y hy => by rw [List.getElem?_eq_none (by have := HN.out; omega)] at hy; cases hy))
      have HA := Lib.hid (HS.out.cut hk)
      have hB := HS.out.from hk
      simp only [Nat.mul_one] at hB
      have HB := Lib.hid hB
      clear hB
      go_wp2_with fail
      have i1 : (0 : Int) ≤ (k : Int) := by omega
      have i2 : (k : Int) ≤ (N : Int) := by omega
      have i3 : (k : Int) ≤ (c : Int) := by omega
      have g1 : Hid (∀ u ∈ (ints zs).take k, u.oneCell' = true) := fun u hu => H1.out u (List.mem_of_mem_take hu)
      have g2 : Hid (∀ u ∈ (ints zs).drop k, u.oneCell' = true) := fun u hu => H1.out u (List.mem_of_mem_drop hu)
      go_region_held_law (fun w' => True) (trivial) (first | (refine step_append_q (o := ⟨some 37, _, _, _, _, _⟩) _ (by rfl) (.tmp 33) (.tmp 36) 22 (by rfl) w.heap.size 3 i0 (.int .i64 0) 1 8 Try.underlying22 hi hz0 hz1 hz2 rfl (by decide) _ 0 [] (by rfl) (Qw.emptyAt (by first | exact hp0 _ _ | exact hp1 _ _ _ | exact hp2 _ _ _) (by first | exact Nat.le_refl _ | simp)) _ k ((ints zs).take k) (by rfl) (HA.out.below (by first | exact (grow_alloc _ _).drew | exact (grow_trans (grow_alloc _ _) (grow_alloc _ _)).drew)) g1.out (by unfold maxLen; omega) (by omega) (by simp; try omega) ?_; intro v1 w1 hq1 hg1 hd1; have hb1 : Below w.heap.size w w1 := Below.grown (by first | exact (grow_alloc _ _).drew | exact (grow_trans (grow_alloc _ _) (grow_alloc _ _)).drew) hg1 (by simp <;> omega) (fun j hj => by simp [Value.ownBlock] at hj; omega); have s1 := hb1.size; clear hd1) | (refine step_append_q (o := ⟨some 40, _, _, _, _, _⟩) _ (by rfl) (.tmp 37) (.tmp 39) 22 (by rfl) w.heap.size 3 i0 (.int .i64 0) 1 8 Try.underlying22 hi hz0 hz1 hz2 rfl (by decide) v1 (0 + k) ([] ++ (ints zs).take k) (by rfl) (by first | exact hq1 | exact hq1.below (grow_alloc _ _)) _ 1 [.int .i64 n] (by rfl) (Sl.boxAt (by first | exact hp0 _ _ | exact (hg1.block _ (by simp <;> omega) (by simp [Value.ownBlock])).trans (hp1 _ _ _) | exact (hg1.block _ (by simp <;> omega) (by simp [Value.ownBlock])).trans (hp2 _ _ _))) (by intro u hu; simp at hu; subst hu; rfl) (by unfold maxLen; omega) (by omega) (by first | exact s1 | (simp; omega)) ?_; intro v2 w2 hq2 hg2 hd2; have hb2 : Below w.heap.size w w2 := (by first | exact hb1.grown hg2 s1 (fun j hj => (hq1.lt j hj).1) | exact (hb1.alloc s1 _).grown hg2 (by simp; omega) (fun j hj => (hq1.lt j hj).1)); have s2 := hb2.size; clear hd2 hg2 hg1) | (refine step_append_q (o := ⟨some 44, _, _, _, _, _⟩) _ (by rfl) (.tmp 40) (.tmp 43) 22 (by rfl) w.heap.size 3 i0 (.int .i64 0) 1 8 Try.underlying22 hi hz0 hz1 hz2 rfl (by decide) v2 (0 + k + 1) ([] ++ (ints zs).take k ++ [.int .i64 n]) (by rfl) hq2 _ (N - k) ((ints zs).drop k) (by rfl) (by exact HB.out.below hb2) g2.out (by unfold maxLen; omega) (by omega) s2 ?_; intro v3 w3 hq3 hg3 hd3; have hb3 := hb2.grown hg3 s2 (fun j hj => (hq2.lt j hj).1); clear hd3 hg3))
      all_goals
        have HQ3 := Lib.hid hq3
        have HB3 := Lib.hid hb3
        clear hq1 hq2 hq3 hb1 hb2 hb3
        go_wp2
        all_goals go_ret
        all_goals exact put_end HQ3.out HB3.out hbase trivial Hp.out
end Go.Proofs.Ytefampjmbjbhcaa
