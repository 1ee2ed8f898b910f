/- BurningFuels in the program and in the reference. Conditions: as each states. -/
import Derived.Test.YtnadeddkogapoaaGreatDoorFusC
import Derived.Test.YtnadeddkogapoaaGreatDoorFast
import Derived.Test.YtnadeddkogapoaaGreatDoorLow
import Derived.Sort.OwnSorted
import Derived.Deep.RegionHeldLaw
namespace Go.Proofs.YtnadeddkogapoaaGreatDoor
open Go.ChangeShapes Go.WideShapes Go.ChangeAt Go.RowKit Go.Deep Go.Sort
set_option linter.unusedVariables false
set_option linter.unusedSimpArgs false
set_option maxRecDepth 100000

/-- The names of the first fuels that burn. -/
def bnL (ps : List Fu) (m : Int) (k : Nat) : List (List UInt8) := ((ps.take k).filter fun p => decide (0 < speedN p.r p.l m 0)).map fun p => p.n.data.toList
theorem bnL_yes {ps : List Fu} {m : Int} {k : Nat} {i r l o : Int} {n : ByteArray} (hx : ps[k]? = some ⟨i, n, r, l, o⟩) (h : 0 < speedN r l m 0) : bnL ps m (k + 1) = bnL ps m k ++ [n.data.toList] := by
  unfold bnL
  rw [List.take_add_one, hx]
  simp [List.filter_append, h]
theorem bnL_no {ps : List Fu} {m : Int} {k : Nat} {i r l o : Int} {n : ByteArray} (hx : ps[k]? = some ⟨i, n, r, l, o⟩) (h : ¬ 0 < speedN r l m 0) : bnL ps m (k + 1) = bnL ps m k := by
  unfold bnL
  rw [List.take_add_one, hx]
  simp [List.filter_append, h]
theorem bnL_le (ps : List Fu) (m : Int) (k : Nat) : (bnL ps m k).length ≤ ps.length := by
  unfold bnL
  rw [List.length_map]
  exact Nat.le_trans (List.length_filter_le _ _) (by rw [List.length_take]; omega)
/-- The names sorted. -/
def srtL (ls : List (List UInt8)) : List (List UInt8) := ls.mergeSort fun x y => decide (x ≤ y)
theorem srtL_length (ls : List (List UInt8)) : (srtL ls).length = ls.length := (List.mergeSort_perm ls _).length_eq
/-- Names as cells. -/
abbrev nms (ls : List (List UInt8)) : List Value := ls.map fun l => .string (bs l)
theorem nms_strs (ls : List (List UInt8)) : nms ls = (ls.map bs).map Value.string := by simp [nms, List.map_map, Function.comp_def]
theorem nms_one (ls : List (List UInt8)) : ∀ u ∈ nms ls, u.oneCell' = true := by
  intro u hu
  simp only [nms, List.mem_map] at hu
  obtain ⟨l, _, rfl⟩ := hu; rfl
theorem bs_dataF (n : ByteArray) : bs n.data.toList = n := by unfold bs; simp
theorem bs_listF (l : List UInt8) : (bs l).toList = l := by rw [ByteArray.toList_eq]; unfold bs; simp
/-- How two names are told apart. -/
theorem less_yes {a b : ByteArray} (h : a.data.toList < b.data.toList) : Op.bytesLess a.toList b.toList = true := by rw [bytesLess_eq, ByteArray.toList_eq, ByteArray.toList_eq, decide_eq_true h]
theorem less_no {a b : ByteArray} (h : ¬ a.data.toList < b.data.toList) : Op.bytesLess a.toList b.toList = false := by rw [bytesLess_eq, ByteArray.toList_eq, ByteArray.toList_eq, decide_eq_false h]
/-- The cells of a list with a name put in. -/
theorem nms_put (ls : List (List UInt8)) (x : List UInt8) (j : Nat) : nms (ls.take j ++ [x] ++ ls.drop j) = [] ++ (nms ls).take j ++ [.string (bs x)] ++ (nms ls).drop j := by
  simp [nms, List.map_take, List.map_drop]
/-- A list of names and a Bool handed back. -/
def RetNmQ (w : World) (ls : List (List UInt8)) (ok : Bool) (e : Ending) (w' : World) : Prop := ∃ v, e = .returned (.tuple #[v, .bool ok]) ∧ Qw w' w.heap.size 9 1 v ls.length (nms ls) ∧ Below w.heap.size w w'
def RetNm (w : World) (ls : List (List UInt8)) (ok : Bool) (e : Ending) (w' : World) : Prop := ∃ v, e = .returned (.tuple #[v, .bool ok]) ∧ w'.ownsRow w.heap.size 9 1 v ls.length (nms ls) ∧ Below w.heap.size w w'
theorem bf_end {w3 : World} {base base' : Nat} {v : Value} {ls : List (List UInt8)} {n : ByteArray} {j : Nat} (hj : j ≤ ls.length) (hb : base' ≤ base) (h : Qw w3 base 9 1 v (0 + j + 1 + (ls.length - j)) ([] ++ (nms ls).take j ++ [.string n] ++ (nms ls).drop j)) :
    Qw w3 base' 9 1 v (ls.take j ++ [n.data.toList] ++ ls.drop j).length (nms (ls.take j ++ [n.data.toList] ++ ls.drop j)) := by
  rw [nms_put, bs_dataF]
  have e : (ls.take j ++ [n.data.toList] ++ ls.drop j).length = 0 + j + 1 + (ls.length - j) := by simp; omega
  rw [e]
  exact h.lower hb
def bfB (ps : List Fu) (m : Int) : Bool := areB ps && inB m 0 400
def bfL (ps : List Fu) (m : Int) : List (List UInt8) := if bfB ps m then srtL (bnL ps m ps.length) else []
theorem bf_no {ps : List Fu} {m : Int} (h : bfB ps m = false) : bfL ps m = [] := by unfold bfL; rw [h]; rfl
theorem bf_yes {ps : List Fu} {m : Int} (h : bfB ps m = true) : bfL ps m = srtL (bnL ps m ps.length) := by unfold bfL; rw [h]; rfl
theorem info_stringB : (Tryz.prog.info? 9).map (fun i => (i.zero, i.size, i.bytes)) = some (some (.string ⟨#[]⟩), 1, 16) := by kernel_rfl
set_option maxHeartbeats 16000000 in
theorem sBurningFuels_any (v : Value) (ps : List Fu) (m : Int) (w : World) (hs : Sl w 5 v ps.length (fus ps)) (hm : ∀ p ∈ ps, p.n.size ≤ maxLen) :
    Calls Tryz.prog 19 #[v, .int .i64 m] w (RetNmQ w (bfL ps m) (bfB ps m)) := by
  obtain ⟨i0, hi, hz0, hz1, hz2⟩ := info_parts info_stringB
  have hb0 : Hid (Below w.heap.size w (w.alloc (.cells #[] 9))) := grow_alloc _ _
  have hq0 : Hid (Qw (w.alloc (.cells #[] 9)) w.heap.size 9 1 (.slice (some ⟨w.heap.size, 0, none⟩) 0 0) 0 []) := Qw.emptyAt (hp0 _ _) (Nat.le_refl _)
  have HA := Lib.hid (l3Good_any v ps _ (hs.below hb0.out) hm)
  have HL := Lib.hid fun (h : bfB ps m = false) => bf_no h
  have HY := Lib.hid fun (h : bfB ps m = true) => bf_yes h
  have HV : Hid (areB ps = true → ps.length ≤ 8 ∧ ∀ (k : Nat) (i r l o : Int) (n : ByteArray), ps[k]? = some ⟨i, n, r, l, o⟩ → (1 ≤ r ∧ r ≤ 1000) ∧ (10 ≤ l ∧ l ≤ 400) ∧ 1 ≤ n.size ∧ n.size ≤ 10) := fun h => ⟨(are_facts h).1, fun k i r l o n hx => are_at h hx⟩
  obtain ⟨A, c, rfl⟩ := hs.val
  have hBd : bfB ps m = (areB ps && inB m 0 400) := rfl
  generalize hBf : bfB ps m = B at *
  clear hBf
  cases hA : areB ps with
  | false =>
    rw [hA] at HA hBd
    obtain rfl : B = false := by rw [hBd]; rfl
    rw [HL.out rfl]
    clear HL HY HV hs hm hA hBd
    go_enter Tryz.func19, Tryz.ntmps19
    go_wp2_with fail
    with_reducible refine HA.out.mono ?_
    rintro e w1 ⟨rfl, hb1⟩
    have hq1 := Lib.hid (hq0.out.below hb1)
    have hb2 := Lib.hid (grow_trans hb0.out hb1)
    clear hb1 hq0 hb0 HA
    go_wp2
    exact bodyPost_ret (v := .tuple #[.slice (some ⟨w.heap.size, 0, none⟩) 0 0, .bool false]) (by simp [results, Tryz.results19, go_sem]) rfl ⟨_, rfl, hq1.out, hb2.out⟩
  | true =>
    rw [hA] at HA hBd
    cases hM : inB m 0 400 with
    | false =>
      rw [hM] at hBd
      obtain rfl : B = false := by rw [hBd]; rfl
      rw [HL.out rfl]
      clear HL HY HV hs hm hA hBd
      go_enter Tryz.func19, Tryz.ntmps19
      go_wp2_with fail
      with_reducible refine HA.out.mono ?_
      rintro e w1 ⟨rfl, hb1⟩
      have hq1 := Lib.hid (hq0.out.below hb1)
      have hb2 := Lib.hid (grow_trans hb0.out hb1)
      clear hb1 hq0 hb0 HA
      go_wp2_with (go_at_call 51; refine (l20Moist_any _ _).mono ?_; rintro e w' ⟨rfl, rfl⟩; rw [hM])
      exact bodyPost_ret (v := .tuple #[.slice (some ⟨w.heap.size, 0, none⟩) 0 0, .bool false]) (by simp [results, Tryz.results19, go_sem]) rfl ⟨_, rfl, hq1.out, hb2.out⟩
    | true =>
      rw [hM] at hBd
      obtain rfl : B = true := by rw [hBd]; rfl
      rw [HY.out rfl]
      obtain ⟨h8, hv⟩ := HV.out hA
      have HV2 := Lib.hid hv
      obtain ⟨m1, m2⟩ := inB_iff.1 hM
      clear HL HY HV hm hA hBd hv
      have HSt := Lib.hid fun (k : Nat) (i r l o : Int) (n : ByteArray) (hx : ps[k]? = some ⟨i, n, r, l, o⟩) (h : 0 < speedN r l m 0) => bnL_yes hx h
      have HSn := Lib.hid fun (k : Nat) (i r l o : Int) (n : ByteArray) (hx : ps[k]? = some ⟨i, n, r, l, o⟩) (h : ¬ 0 < speedN r l m 0) => bnL_no hx h
      have HLe := Lib.hid (bnL_le ps m)
      generalize hN : ps.length = N at *
      have HN := Lib.hid hN
      have Hs := Lib.hid hs
      clear hN hs
      go_enter Tryz.func19, Tryz.ntmps19
      go_wp2_with fail
      with_reducible refine HA.out.mono ?_
      rintro e w1 ⟨rfl, hb1⟩
      have hq1 := Lib.hid (hq0.out.below hb1)
      have hb2 := Lib.hid (grow_trans hb0.out hb1)
      clear hb1 hq0 hb0 HA
      go_wp2_with (go_at_call 51; refine (l20Moist_any _ _).mono ?_; rintro e w' ⟨rfl, rfl⟩; rw [hM])
      go_loopw [6, 7] (fun q i wr => ∃ k : Nat, ∃ ls : List (List UInt8), k ≤ N ∧ i = .int .i64 k ∧ Hid (Below w.heap.size w wr) ∧ Hid (Qw wr w.heap.size 9 1 q ls.length (nms ls)) ∧ Hid (ls.Pairwise (· ≤ ·) ∧ ls.Perm (bnL ps m k))) (fun _ i _ => N - (intOf i).toNat)
      case atStart => exact ⟨0, [], Nat.zero_le _, rfl, hb2.out, hq1.out, by show _ ∧ _; exact ⟨List.Pairwise.nil, by simp [bnL]⟩⟩
      case round =>
        obtain ⟨k, ls, hk, rfl, hb, hq, hls⟩ := hrel
        clear hq1 hb2
        have hll : ls.length ≤ N := by rw [hls.out.2.length_eq]; exact HLe.out k
        by_cases hlt : k < N
        case neg =>
          obtain rfl : k = N := by omega
          have hu : Hid (srtL (bnL ps m k) = ls) := sort_uniq hls.out.2 hls.out.1
          obtain ⟨A2, c2, rfl⟩ := (Sl.of_q hq.out).val
          go_wp2
          refine bodyPost_ret (v := .tuple #[.slice A2 ls.length c2, .bool true]) (by simp [results, Tryz.results19, go_sem]) rfl ?_
          rw [hu.out]
          exact ⟨_, rfl, hq.out, hb.out⟩
        case pos =>
          obtain ⟨fb, off, i, n, r, l, o, rfl, hx, c0, c1, c2, c3, c4⟩ := (Hs.out.below hb.out).fu HN.out hlt
          obtain ⟨⟨r1, r2⟩, ⟨l1, l2⟩, n1, n2⟩ := HV2.out k i r l o n hx
          have HC := Lib.hid (l3Speed_any i n r l o m 0 wr r1 r2 l1 l2 m1 m2 (by omega) (by omega))
          have h0 := speed_nonneg (m := m) r1 l1
          have HY := Lib.hid (HSt.out k i r l o n hx)
          have HZ := Lib.hid (HSn.out k i r l o n hx)
          have hcc : Hid (∀ W, Below wr.heap.size wr W → W.cell? ⟨fb, off + k * 5 + 1, none⟩ = some (.string n)) := fun W hW => by rw [hW.cell (World.block_lt_of_cell? wr _ c1)]; exact c1
          clear hx
          generalize speedN r l m 0 = sp at *
          by_cases hsp : sp = 0
          · subst hsp
            have hst := Lib.hid (HZ.out (by omega))
            clear HY HZ hcc
            go_wp2_with fail
            with_reducible refine HC.out.mono ?_
            rintro e w2 ⟨rfl, hb1⟩
            have hb2 := Lib.hid (grow_trans hb.out hb1)
            have hq2 := Lib.hid (hq.out.below hb1)
            clear hb1 HC c0 c1 c2 c3 c4
            go_wp2
            go_roundw
            case rel => exact ⟨k + 1, ls, by omega, by go_num, hb2.out, hq2.out, by show _ ∧ _; rw [hst.out]; exact hls.out⟩
            case measure => simp [intOf]; omega
          · have hst := Lib.hid (HY.out (by omega))
            have hq0' : (sp == 0) = false := by simpa using hsp
            clear HY HZ
            obtain ⟨A2, ca, rfl⟩ := (Sl.of_q hq.out).val
            have hcap := (Sl.of_q hq.out)
            have hcap2 : ls.length ≤ ca ∧ ca ≤ 9223372036854775807 := by
              obtain ⟨A', c', e, h1, h2, _⟩ := hcap
              injection e with _ _ e2
              subst e2
              unfold maxLen at h2; omega
            clear hcap
            obtain ⟨hc1, hc2⟩ := hcap2
            go_wp2_with fail
            with_reducible refine HC.out.mono ?_
            rintro e w2 ⟨rfl, hb1⟩
            have hb2 := Lib.hid (grow_trans hb.out hb1)
            have hq2 := Lib.hid (hq.out.below hb1)
            have hcc2 : Hid (∀ W, Below w2.heap.size w2 W → W.cell? ⟨fb, off + k * 5 + 1, none⟩ = some (.string n)) := fun W hW => hcc.out W (grow_trans hb1 hW)
            clear hb1 HC c0 c1 c2 c3 c4 hq hb hcc
            obtain ⟨wo, rfl⟩ : ∃ wo : World, wo = w2 := ⟨_, rfl⟩
            go_wp2
            go_loopw [8] (fun q wr => ∃ j : Nat, j ≤ ls.length ∧ q = .int .i64 j ∧ Hid (Below wo.heap.size wo wr) ∧ Hid (∀ (u : Nat) (y : List UInt8), j ≤ u → ls[u]? = some y → n.data.toList < y)) (fun q _ => (intOf q).toNat)
            case atStart => exact ⟨ls.length, Nat.le_refl _, rfl, Below.refl _ _, fun u y hu hy => by rw [List.getElem?_eq_none hu] at hy; cases hy⟩
            case round =>
              obtain ⟨j, hj, rfl, hbr, hup⟩ := hrel
              have hcl := hcc2.out wr hbr.out
              by_cases hj0 : j = 0
              case pos =>
                have hlo : Hid (∀ y, 0 < j → ls[j - 1]? = some y → ¬ n.data.toList < y) := fun y h => absurd h (by omega)
                have d0 : decide (0 < j) = false := decide_eq_false (by omega)
                clear hj0
                go_wp2_with fail
                go_quiet (fail)
                generalize hwr : World.drewN _ _ = wr2
                replace hbr : Hid (Below wo.heap.size wo wr2) := by rw [← hwr]; exact grow_trans hbr.out (grow_drewN _ _)
                clear hwr
                obtain ⟨wr, rfl⟩ : ∃ wr : World, wr = wr2 := ⟨_, rfl⟩
                have hls1 := hls.out
                have hSS := Lib.hid (ins_sorted (x := n.data.toList) hj hls1.1 hup.out hlo.out)
                have hPP : Hid ((ls.take j ++ [n.data.toList] ++ ls.drop j).Perm (bnL ps m (k + 1))) := by
                  show List.Perm _ _
                  rw [hst.out]
                  exact ((ins_perm ls n.data.toList j).trans (hls1.2.cons _)).trans (List.perm_append_singleton _ _).symm
                clear hls1 hup hlo hcl
                have hbz := hb2.out.trans (hbr.out.mono hb2.out.size)
                have HS := (Sl.of_q hq2.out).below hbr.out
                have HA := HS.cut hj
                have HB := HS.from hj
                simp only [Nat.mul_one, Option.map_some, Addr.add_lit] at HB
                have g1 : ∀ u ∈ (nms ls).take j, u.oneCell' = true := fun u hu => nms_one ls u (List.mem_of_mem_take hu)
                have g2 : ∀ u ∈ (nms ls).drop j, u.oneCell' = true := fun u hu => nms_one ls u (List.mem_of_mem_drop hu)
                have mkS := fun W (hW : Below wr.heap.size wr W) => hcc2.out W (grow_trans hbr.out hW)
                have i1 : (0 : Int) ≤ (j : Int) := by omega
                have i2 : (j : Int) ≤ (ls.length : Int) := by omega
                have i3 : (j : Int) ≤ (ca : Int) := by omega
                replace HA := Lib.hid HA
                replace HB := Lib.hid HB
                replace hbz := Lib.hid hbz
                replace mkS := Lib.hid mkS
                clear HS
                go_wp2_with fail
                replace HA := HA.out
                replace HB := HB.out
                replace mkS := mkS.out
                refine wp_region_held_drew (S := fun W => W.cell? ⟨fb, off + k * 5 + 1, none⟩ = some (.string n)) (by kernel_rfl) (mkS _ (grow_drew _)) (fun hHeld => ?_)
                have hbW : Below wr.heap.size wr wr.drew := grow_drew _
                generalize wr.drew = Wd at *
                refine wpAnyH_take (i := 1) (v := ?_) rfl (by kernel_rfl) (by kernel_rfl) (by kernel_rfl) (fun _ _ _ h => h) (Or.inl ⟨by rfl, ?_⟩) (by assumption) ?_
                rotate_left
                · intro w hSw
                  try dsimp only at hSw
                  go_simp
                  try (with_reducible rfl)
                try simp only [Act.put, List.setIfInBounds_toArray, List.set_cons_zero, List.set_cons_succ]
                refine wpAnyH_take (i := 2) (v := ?_) rfl (by kernel_rfl) (by kernel_rfl) (by kernel_rfl) (fun _ _ _ h => h) (Or.inl ⟨by rfl, ?_⟩) (by assumption) ?_
                rotate_left
                · intro w hSw
                  try dsimp only at hSw
                  go_simp
                  try (with_reducible rfl)
                try simp only [Act.put, List.setIfInBounds_toArray, List.set_cons_zero, List.set_cons_succ]
                refine wpAnyH_take (i := 3) (v := ?_) rfl (by kernel_rfl) (by kernel_rfl) (by kernel_rfl) (fun _ _ _ h => h) (Or.inl ⟨by rfl, ?_⟩) (by assumption) ?_
                rotate_left
                · intro w hSw
                  try dsimp only at hSw
                  go_simp
                  try (with_reducible rfl)
                try simp only [Act.put, List.setIfInBounds_toArray, List.set_cons_zero, List.set_cons_succ]
                refine wpAnyH_take (i := 5) (v := ?_) rfl (by kernel_rfl) (by kernel_rfl) (by kernel_rfl) (fun _ _ _ h => h) (Or.inl ⟨by rfl, ?_⟩) (by assumption) ?_
                rotate_left
                · intro w hSw
                  try dsimp only at hSw
                  go_simp
                  try (with_reducible rfl)
                try simp only [Act.put, List.setIfInBounds_toArray, List.set_cons_zero, List.set_cons_succ]
                refine wpAnyH_take (i := 6) (v := ?_) rfl (by kernel_rfl) (by kernel_rfl) (by kernel_rfl) (fun _ _ _ h => h) (Or.inl ⟨by rfl, ?_⟩) (by assumption) ?_
                rotate_left
                · intro w hSw
                  try dsimp only at hSw
                  go_simp
                  try (with_reducible rfl)
                try simp only [Act.put, List.setIfInBounds_toArray, List.set_cons_zero, List.set_cons_succ]
                refine wpAnyH_take (i := 7) (v := ?_) rfl (by kernel_rfl) (by kernel_rfl) (by kernel_rfl) (fun _ _ _ h => h) (Or.inl ⟨by rfl, ?_⟩) (by assumption) ?_
                rotate_left
                · intro w hSw
                  try dsimp only at hSw
                  go_simp
                  try (with_reducible rfl)
                try simp only [Act.put, List.setIfInBounds_toArray, List.set_cons_zero, List.set_cons_succ]
                refine wpAnyH_take (i := 8) (v := ?_) rfl (by kernel_rfl) (by kernel_rfl) (by kernel_rfl) (fun _ _ _ h => h) (Or.inl ⟨by rfl, ?_⟩) (by assumption) ?_
                rotate_left
                · intro w hSw
                  try dsimp only at hSw
                  go_simp
                  try (with_reducible rfl)
                try simp only [Act.put, List.setIfInBounds_toArray, List.set_cons_zero, List.set_cons_succ]
                refine wpAnyH_take (i := 9) (v := ?_) rfl (by kernel_rfl) (by kernel_rfl) (by kernel_rfl) (fun _ _ _ h => h) (Or.inl ⟨by rfl, ?_⟩) (by assumption) ?_
                rotate_left
                · intro w hSw
                  try dsimp only at hSw
                  go_simp
                  try (with_reducible rfl)
                try simp only [Act.put, List.setIfInBounds_toArray, List.set_cons_zero, List.set_cons_succ]
                refine wpAnyH_take (i := 12) (v := ?_) rfl (by kernel_rfl) (by kernel_rfl) (by kernel_rfl) (fun _ _ _ h => h) (Or.inl ⟨by rfl, ?_⟩) (by assumption) ?_
                rotate_left
                · intro w hSw
                  try dsimp only at hSw
                  go_simp
                  try (with_reducible rfl)
                try simp only [Act.put, List.setIfInBounds_toArray, List.set_cons_zero, List.set_cons_succ]
                refine wpAnyH_take (i := 13) (v := ?_) rfl (by kernel_rfl) (by kernel_rfl) (by kernel_rfl) (fun _ _ _ h => h) (Or.inl ⟨by rfl, ?_⟩) (by assumption) ?_
                rotate_left
                · intro w hSw
                  try dsimp only at hSw
                  go_simp
                  try (with_reducible rfl)
                try simp only [Act.put, List.setIfInBounds_toArray, List.set_cons_zero, List.set_cons_succ]
                refine wpAnyH_take (i := 14) (v := ?_) rfl (by kernel_rfl) (by kernel_rfl) (by kernel_rfl) (fun _ _ _ h => h) (Or.inl ⟨by rfl, ?_⟩) (by assumption) ?_
                rotate_left
                · intro w hSw
                  try dsimp only at hSw
                  go_simp
                  try (with_reducible rfl)
                try simp only [Act.put, List.setIfInBounds_toArray, List.set_cons_zero, List.set_cons_succ]
                refine wpAnyH_ready (rs := [0, 10]) (by kernel_rfl) (by simp) ?_
                refine AllReadyH.cons rfl (fun K hK => ?_) (AllReadyH.cons rfl (fun K hK => ?_) AllReadyH.nil)
                · skip
                  go_simp
                  have q0 : Qw (Wd.alloc (.cells #[] 9)) wr.heap.size 9 1 (.slice (some ⟨Wd.heap.size, 0, none⟩) 0 0) 0 [] := Qw.emptyAt (hp0 _ _) hbW.size
                  replace hbW := grow_trans hbW (grow_alloc Wd (.cells #[] 9))
                  have z0 := Lib.hid (World.size_alloc Wd (.cells #[] 9))
                  generalize Wd.alloc (.cells #[] 9) = Wa0 at *
                  generalize Wd.heap.size = b0 at *
                  refine hK.out _ _ (mkS _ hbW) (fun hHeld => ?_)
                  clear hK K
                  refine wpAnyH_ready (rs := [4, 10]) (by kernel_rfl) (by simp) ?_
                  refine AllReadyH.cons rfl (fun K hK => ?_) (AllReadyH.cons rfl (fun K hK => ?_) AllReadyH.nil)
                  · skip
                    refine step_append_q _ rfl (.tmp 51) (.tmp 54) 42 rfl wr.heap.size 9 i0 (.string ⟨#[]⟩) 1 16 Tryz.underlying42 hi hz0 hz1 hz2 rfl (by decide) (.slice (some ⟨b0, 0, none⟩) 0 0) (0) ([]) (by rfl) q0 _ (j) ((nms ls).take j) (by rfl) (HA.below hbW) g1 (by unfold maxLen; omega) (by omega) hbW.size ?_
                    intro v1 w1 hq1 hg1 hd1
                    replace hbW := hbW.grown hg1 hbW.size (fun j hj => (q0.lt j hj).1)
                    clear hg1 hd1
                    refine hK.out _ _ (mkS _ hbW) (fun hHeld => ?_)
                    clear hK K
                    refine wpAnyH_ready (rs := [10]) (by kernel_rfl) (by simp) ?_
                    refine AllReadyH.cons rfl (fun K hK => ?_) AllReadyH.nil
                    go_simp
                    have s2 : Sl (w1.alloc (.cells #[.string n] 9)) 1 (.slice (some ⟨w1.heap.size, 0, none⟩) 1 1) 1 [.string n] := Sl.boxAt (hp0 _ _)
                    replace hq1 := hq1.below (grow_alloc w1 (.cells #[.string n] 9))
                    replace hbW := grow_trans hbW (grow_alloc w1 (.cells #[.string n] 9))
                    have z2 := Lib.hid (World.size_alloc w1 (.cells #[.string n] 9))
                    generalize w1.alloc (.cells #[.string n] 9) = Wa2 at *
                    generalize w1.heap.size = b2 at *
                    refine hK.out _ _ (mkS _ hbW) (fun hHeld => ?_)
                    clear hK K
                    refine wpAnyH_ready (rs := [11]) (by kernel_rfl) (by simp) ?_
                    refine AllReadyH.cons rfl (fun K hK => ?_) AllReadyH.nil
                    refine step_append_q _ rfl (.tmp 55) (.tmp 61) 42 rfl wr.heap.size 9 i0 (.string ⟨#[]⟩) 1 16 Tryz.underlying42 hi hz0 hz1 hz2 rfl (by decide) v1 (0 + j) ([] ++ (nms ls).take j) (by rfl) hq1 _ (1) ([.string n]) (by rfl) s2 (by intro u hu; simp at hu; subst hu; rfl) (by unfold maxLen; omega) (by omega) hbW.size ?_
                    intro v2 w2 hq2 hg2 hd2
                    replace hbW := hbW.grown hg2 hbW.size (fun j hj => (hq1.lt j hj).1)
                    clear hg2 hd2
                    refine hK.out _ _ (mkS _ hbW) (fun hHeld => ?_)
                    clear hK K
                    refine wpAnyH_ready (rs := [15]) (by kernel_rfl) (by simp) ?_
                    refine AllReadyH.cons rfl (fun K hK => ?_) AllReadyH.nil
                    refine step_append_q _ rfl (.tmp 62) (.tmp 65) 42 rfl wr.heap.size 9 i0 (.string ⟨#[]⟩) 1 16 Tryz.underlying42 hi hz0 hz1 hz2 rfl (by decide) v2 (0 + j + 1) ([] ++ (nms ls).take j ++ [.string n]) (by rfl) hq2 _ (ls.length - j) ((nms ls).drop j) (by rfl) (HB.below hbW) g2 (by unfold maxLen; omega) (by omega) hbW.size ?_
                    intro v3 w3 hq3 hg3 hd3
                    replace hbW := hbW.grown hg3 hbW.size (fun j hj => (hq2.lt j hj).1)
                    clear hg3 hd3
                    refine hK.out _ _ (mkS _ hbW) (fun hHeld => ?_)
                    clear hK K
                    refine wpAnyH_take (i := 16) (v := ?_) rfl (by kernel_rfl) (by kernel_rfl) (by kernel_rfl) (fun _ _ _ h => h) (Or.inl ⟨by rfl, ?_⟩) (by assumption) ?_
                    rotate_left
                    · intro w hSw
                      try dsimp only at hSw
                      go_simp
                      try (with_reducible rfl)
                    try simp only [Act.put, List.setIfInBounds_toArray, List.set_cons_zero, List.set_cons_succ]
                    refine wpAnyH_done (by kernel_rfl) ?_ _
                    have hqz := Lib.hid (bf_end (n := n) hj (show w.heap.size ≤ wr.heap.size from hbz.out.size) hq3)
                    have hbf := Lib.hid (hbz.out.trans (hbW.mono hbz.out.size))
                    clear hq3 hbW g1 g2 mkS hHeld HA HB
                    go_wp2
                    go_roundw
                    case rel => exact ⟨k + 1, _, by omega, by go_num, hbf.out, hqz.out, hSS.out, hPP.out⟩
                    case measure => simp [intOf]; omega
                  · skip
                    go_simp
                    have s2 : Sl (Wa0.alloc (.cells #[.string n] 9)) 1 (.slice (some ⟨Wa0.heap.size, 0, none⟩) 1 1) 1 [.string n] := Sl.boxAt (hp0 _ _)
                    replace q0 := q0.below (grow_alloc Wa0 (.cells #[.string n] 9))
                    replace hbW := grow_trans hbW (grow_alloc Wa0 (.cells #[.string n] 9))
                    have z2 := Lib.hid (World.size_alloc Wa0 (.cells #[.string n] 9))
                    generalize Wa0.alloc (.cells #[.string n] 9) = Wa1 at *
                    generalize Wa0.heap.size = b2 at *
                    refine hK.out _ _ (mkS _ hbW) (fun hHeld => ?_)
                    clear hK K
                    refine wpAnyH_ready (rs := [4]) (by kernel_rfl) (by simp) ?_
                    refine AllReadyH.cons rfl (fun K hK => ?_) AllReadyH.nil
                    refine step_append_q _ rfl (.tmp 51) (.tmp 54) 42 rfl wr.heap.size 9 i0 (.string ⟨#[]⟩) 1 16 Tryz.underlying42 hi hz0 hz1 hz2 rfl (by decide) (.slice (some ⟨b0, 0, none⟩) 0 0) (0) ([]) (by rfl) q0 _ (j) ((nms ls).take j) (by rfl) (HA.below hbW) g1 (by unfold maxLen; omega) (by omega) hbW.size ?_
                    intro v1 w1 hq1 hg1 hd1
                    replace s2 := s2.kept hg1 (.inr (by intro e; simp [Value.ownBlock] at e; have y0 := z0.out; have y2 := z2.out; omega))
                    replace hbW := hbW.grown hg1 hbW.size (fun j hj => (q0.lt j hj).1)
                    clear hg1 hd1
                    refine hK.out _ _ (mkS _ hbW) (fun hHeld => ?_)
                    clear hK K
                    refine wpAnyH_ready (rs := [11]) (by kernel_rfl) (by simp) ?_
                    refine AllReadyH.cons rfl (fun K hK => ?_) AllReadyH.nil
                    refine step_append_q _ rfl (.tmp 55) (.tmp 61) 42 rfl wr.heap.size 9 i0 (.string ⟨#[]⟩) 1 16 Tryz.underlying42 hi hz0 hz1 hz2 rfl (by decide) v1 (0 + j) ([] ++ (nms ls).take j) (by rfl) hq1 _ (1) ([.string n]) (by rfl) s2 (by intro u hu; simp at hu; subst hu; rfl) (by unfold maxLen; omega) (by omega) hbW.size ?_
                    intro v2 w2 hq2 hg2 hd2
                    replace hbW := hbW.grown hg2 hbW.size (fun j hj => (hq1.lt j hj).1)
                    clear hg2 hd2
                    refine hK.out _ _ (mkS _ hbW) (fun hHeld => ?_)
                    clear hK K
                    refine wpAnyH_ready (rs := [15]) (by kernel_rfl) (by simp) ?_
                    refine AllReadyH.cons rfl (fun K hK => ?_) AllReadyH.nil
                    refine step_append_q _ rfl (.tmp 62) (.tmp 65) 42 rfl wr.heap.size 9 i0 (.string ⟨#[]⟩) 1 16 Tryz.underlying42 hi hz0 hz1 hz2 rfl (by decide) v2 (0 + j + 1) ([] ++ (nms ls).take j ++ [.string n]) (by rfl) hq2 _ (ls.length - j) ((nms ls).drop j) (by rfl) (HB.below hbW) g2 (by unfold maxLen; omega) (by omega) hbW.size ?_
                    intro v3 w3 hq3 hg3 hd3
                    replace hbW := hbW.grown hg3 hbW.size (fun j hj => (hq2.lt j hj).1)
                    clear hg3 hd3
                    refine hK.out _ _ (mkS _ hbW) (fun hHeld => ?_)
                    clear hK K
                    refine wpAnyH_take (i := 16) (v := ?_) rfl (by kernel_rfl) (by kernel_rfl) (by kernel_rfl) (fun _ _ _ h => h) (Or.inl ⟨by rfl, ?_⟩) (by assumption) ?_
                    rotate_left
                    · intro w hSw
                      try dsimp only at hSw
                      go_simp
                      try (with_reducible rfl)
                    try simp only [Act.put, List.setIfInBounds_toArray, List.set_cons_zero, List.set_cons_succ]
                    refine wpAnyH_done (by kernel_rfl) ?_ _
                    have hqz := Lib.hid (bf_end (n := n) hj (show w.heap.size ≤ wr.heap.size from hbz.out.size) hq3)
                    have hbf := Lib.hid (hbz.out.trans (hbW.mono hbz.out.size))
                    clear hq3 hbW g1 g2 mkS hHeld HA HB
                    go_wp2
                    go_roundw
                    case rel => exact ⟨k + 1, _, by omega, by go_num, hbf.out, hqz.out, hSS.out, hPP.out⟩
                    case measure => simp [intOf]; omega
                · skip
                  go_simp
                  have s2 : Sl (Wd.alloc (.cells #[.string n] 9)) 1 (.slice (some ⟨Wd.heap.size, 0, none⟩) 1 1) 1 [.string n] := Sl.boxAt (hp0 _ _)
                  replace hbW := grow_trans hbW (grow_alloc Wd (.cells #[.string n] 9))
                  have z2 := Lib.hid (World.size_alloc Wd (.cells #[.string n] 9))
                  generalize Wd.alloc (.cells #[.string n] 9) = Wa0 at *
                  generalize Wd.heap.size = b2 at *
                  refine hK.out _ _ (mkS _ hbW) (fun hHeld => ?_)
                  clear hK K
                  refine wpAnyH_ready (rs := [0]) (by kernel_rfl) (by simp) ?_
                  refine AllReadyH.cons rfl (fun K hK => ?_) AllReadyH.nil
                  go_simp
                  have q0 : Qw (Wa0.alloc (.cells #[] 9)) wr.heap.size 9 1 (.slice (some ⟨Wa0.heap.size, 0, none⟩) 0 0) 0 [] := Qw.emptyAt (hp0 _ _) hbW.size
                  replace s2 := s2.below (grow_alloc Wa0 (.cells #[] 9))
                  replace hbW := grow_trans hbW (grow_alloc Wa0 (.cells #[] 9))
                  have z0 := Lib.hid (World.size_alloc Wa0 (.cells #[] 9))
                  generalize Wa0.alloc (.cells #[] 9) = Wa1 at *
                  generalize Wa0.heap.size = b0 at *
                  refine hK.out _ _ (mkS _ hbW) (fun hHeld => ?_)
                  clear hK K
                  refine wpAnyH_ready (rs := [4]) (by kernel_rfl) (by simp) ?_
                  refine AllReadyH.cons rfl (fun K hK => ?_) AllReadyH.nil
                  refine step_append_q _ rfl (.tmp 51) (.tmp 54) 42 rfl wr.heap.size 9 i0 (.string ⟨#[]⟩) 1 16 Tryz.underlying42 hi hz0 hz1 hz2 rfl (by decide) (.slice (some ⟨b0, 0, none⟩) 0 0) (0) ([]) (by rfl) q0 _ (j) ((nms ls).take j) (by rfl) (HA.below hbW) g1 (by unfold maxLen; omega) (by omega) hbW.size ?_
                  intro v1 w1 hq1 hg1 hd1
                  replace s2 := s2.kept hg1 (.inr (by intro e; simp [Value.ownBlock] at e; have y0 := z0.out; have y2 := z2.out; omega))
                  replace hbW := hbW.grown hg1 hbW.size (fun j hj => (q0.lt j hj).1)
                  clear hg1 hd1
                  refine hK.out _ _ (mkS _ hbW) (fun hHeld => ?_)
                  clear hK K
                  refine wpAnyH_ready (rs := [11]) (by kernel_rfl) (by simp) ?_
                  refine AllReadyH.cons rfl (fun K hK => ?_) AllReadyH.nil
                  refine step_append_q _ rfl (.tmp 55) (.tmp 61) 42 rfl wr.heap.size 9 i0 (.string ⟨#[]⟩) 1 16 Tryz.underlying42 hi hz0 hz1 hz2 rfl (by decide) v1 (0 + j) ([] ++ (nms ls).take j) (by rfl) hq1 _ (1) ([.string n]) (by rfl) s2 (by intro u hu; simp at hu; subst hu; rfl) (by unfold maxLen; omega) (by omega) hbW.size ?_
                  intro v2 w2 hq2 hg2 hd2
                  replace hbW := hbW.grown hg2 hbW.size (fun j hj => (hq1.lt j hj).1)
                  clear hg2 hd2
                  refine hK.out _ _ (mkS _ hbW) (fun hHeld => ?_)
                  clear hK K
                  refine wpAnyH_ready (rs := [15]) (by kernel_rfl) (by simp) ?_
                  refine AllReadyH.cons rfl (fun K hK => ?_) AllReadyH.nil
                  refine step_append_q _ rfl (.tmp 62) (.tmp 65) 42 rfl wr.heap.size 9 i0 (.string ⟨#[]⟩) 1 16 Tryz.underlying42 hi hz0 hz1 hz2 rfl (by decide) v2 (0 + j + 1) ([] ++ (nms ls).take j ++ [.string n]) (by rfl) hq2 _ (ls.length - j) ((nms ls).drop j) (by rfl) (HB.below hbW) g2 (by unfold maxLen; omega) (by omega) hbW.size ?_
                  intro v3 w3 hq3 hg3 hd3
                  replace hbW := hbW.grown hg3 hbW.size (fun j hj => (hq2.lt j hj).1)
                  clear hg3 hd3
                  refine hK.out _ _ (mkS _ hbW) (fun hHeld => ?_)
                  clear hK K
                  refine wpAnyH_take (i := 16) (v := ?_) rfl (by kernel_rfl) (by kernel_rfl) (by kernel_rfl) (fun _ _ _ h => h) (Or.inl ⟨by rfl, ?_⟩) (by assumption) ?_
                  rotate_left
                  · intro w hSw
                    try dsimp only at hSw
                    go_simp
                    try (with_reducible rfl)
                  try simp only [Act.put, List.setIfInBounds_toArray, List.set_cons_zero, List.set_cons_succ]
                  refine wpAnyH_done (by kernel_rfl) ?_ _
                  have hqz := Lib.hid (bf_end (n := n) hj (show w.heap.size ≤ wr.heap.size from hbz.out.size) hq3)
                  have hbf := Lib.hid (hbz.out.trans (hbW.mono hbz.out.size))
                  clear hq3 hbW g1 g2 mkS hHeld HA HB
                  go_wp2
                  go_roundw
                  case rel => exact ⟨k + 1, _, by omega, by go_num, hbf.out, hqz.out, hSS.out, hPP.out⟩
                  case measure => simp [intOf]; omega
              case neg =>
                obtain ⟨b2, off2, x, rfl, hx2, hcell⟩ := Sl.at1 (f := fun l => Value.string (bs l)) (xs := ls) (i := j - 1) ((Sl.of_q hq2.out).below hbr.out) rfl (by omega)
                have d0 : decide (0 < j) = true := decide_eq_true (by omega)
                have m1' : (j : Int) - 1 = ((j - 1 : Nat) : Int) := by omega
                have m2' : IntKind.i64.wrap (((j - 1 : Nat) : Int)) = ((j - 1 : Nat) : Int) := IntWalk.i64_in _ (by omega)
                have m3' : IntKind.i64.wrap ((j : Int) - 1) = ((j - 1 : Nat) : Int) := by rw [m1', m2']
                have m4' : (((j - 1 : Nat) : Int)) < (ls.length : Int) := by omega
                have m5' : (0 : Int) ≤ ((j - 1 : Nat) : Int) := by omega
                have hxd : (bs x).data.toList = x := by unfold bs; simp
                by_cases hgt : n.data.toList < x
                case pos =>
                  have e1 : Op.bytesLess (bs x).toList n.toList = false := less_no (by rw [hxd]; exact List.not_lt.2 (List.le_of_lt hgt))
                  have e2 : ((bs x).toList == n.toList) = false := beqL_no (fun e => by rw [← e, hxd] at hgt; exact List.lt_irrefl _ hgt)
                  have hup2 : Hid (∀ (u : Nat) (y : List UInt8), j - 1 ≤ u → ls[u]? = some y → n.data.toList < y) := fun u y hu hy => by
                    by_cases e : u = j - 1
                    · subst e; rw [hx2] at hy; cases hy; exact hgt
                    · exact hup.out u y (by omega) hy
                  clear hup hx2 hxd
                  go_wp2_with fail
                  go_quiet (fail)
                  go_wp2
                  go_roundw
                  case rel => exact ⟨j - 1, by omega, rfl, grow_trans hbr.out (grow_drewN _ _), hup2.out⟩
                  case measure => simp [intOf]; omega
                case neg =>
                  have hlo : Hid (∀ y, 0 < j → ls[j - 1]? = some y → ¬ n.data.toList < y) := fun y _ hy => by rw [hx2] at hy; cases hy; exact hgt
                  by_cases hxe : bs x = n
                  case pos =>
                    have e1 : Op.bytesLess (bs x).toList n.toList = false := less_no (by rw [hxe]; exact List.lt_irrefl _)
                    have e2 : ((bs x).toList == n.toList) = true := by rw [hxe]; simp
                    clear hx2 hxd
                    go_wp2_with fail
                    go_quiet (fail)
                    generalize hwr : World.drewN _ _ = wr2
                    replace hbr : Hid (Below wo.heap.size wo wr2) := by rw [← hwr]; exact grow_trans hbr.out (grow_drewN _ _)
                    clear hwr
                    obtain ⟨wr, rfl⟩ : ∃ wr : World, wr = wr2 := ⟨_, rfl⟩
                    clear hcell hgt hxe e1 e2
                    have hls1 := hls.out
                    have hSS := Lib.hid (ins_sorted (x := n.data.toList) hj hls1.1 hup.out hlo.out)
                    have hPP : Hid ((ls.take j ++ [n.data.toList] ++ ls.drop j).Perm (bnL ps m (k + 1))) := by
                      show List.Perm _ _
                      rw [hst.out]
                      exact ((ins_perm ls n.data.toList j).trans (hls1.2.cons _)).trans (List.perm_append_singleton _ _).symm
                    clear hls1 hup hlo hcl
                    have hbz := hb2.out.trans (hbr.out.mono hb2.out.size)
                    have HS := (Sl.of_q hq2.out).below hbr.out
                    have HA := HS.cut hj
                    have HB := HS.from hj
                    simp only [Nat.mul_one, Option.map_some, Addr.add_lit] at HB
                    have g1 : ∀ u ∈ (nms ls).take j, u.oneCell' = true := fun u hu => nms_one ls u (List.mem_of_mem_take hu)
                    have g2 : ∀ u ∈ (nms ls).drop j, u.oneCell' = true := fun u hu => nms_one ls u (List.mem_of_mem_drop hu)
                    have mkS := fun W (hW : Below wr.heap.size wr W) => hcc2.out W (grow_trans hbr.out hW)
                    have i1 : (0 : Int) ≤ (j : Int) := by omega
                    have i2 : (j : Int) ≤ (ls.length : Int) := by omega
                    have i3 : (j : Int) ≤ (ca : Int) := by omega
                    replace HA := Lib.hid HA
                    replace HB := Lib.hid HB
                    replace hbz := Lib.hid hbz
                    replace mkS := Lib.hid mkS
                    clear HS
                    go_wp2_with fail
                    replace HA := HA.out
                    replace HB := HB.out
                    replace mkS := mkS.out
                    refine wp_region_held_drew (S := fun W => W.cell? ⟨fb, off + k * 5 + 1, none⟩ = some (.string n)) (by kernel_rfl) (mkS _ (grow_drew _)) (fun hHeld => ?_)
                    have hbW : Below wr.heap.size wr wr.drew := grow_drew _
                    generalize wr.drew = Wd at *
                    refine wpAnyH_take (i := 1) (v := ?_) rfl (by kernel_rfl) (by kernel_rfl) (by kernel_rfl) (fun _ _ _ h => h) (Or.inl ⟨by rfl, ?_⟩) (by assumption) ?_
                    rotate_left
                    · intro w hSw
                      try dsimp only at hSw
                      go_simp
                      try (with_reducible rfl)
                    try simp only [Act.put, List.setIfInBounds_toArray, List.set_cons_zero, List.set_cons_succ]
                    refine wpAnyH_take (i := 2) (v := ?_) rfl (by kernel_rfl) (by kernel_rfl) (by kernel_rfl) (fun _ _ _ h => h) (Or.inl ⟨by rfl, ?_⟩) (by assumption) ?_
                    rotate_left
                    · intro w hSw
                      try dsimp only at hSw
                      go_simp
                      try (with_reducible rfl)
                    try simp only [Act.put, List.setIfInBounds_toArray, List.set_cons_zero, List.set_cons_succ]
                    refine wpAnyH_take (i := 3) (v := ?_) rfl (by kernel_rfl) (by kernel_rfl) (by kernel_rfl) (fun _ _ _ h => h) (Or.inl ⟨by rfl, ?_⟩) (by assumption) ?_
                    rotate_left
                    · intro w hSw
                      try dsimp only at hSw
                      go_simp
                      try (with_reducible rfl)
                    try simp only [Act.put, List.setIfInBounds_toArray, List.set_cons_zero, List.set_cons_succ]
                    refine wpAnyH_take (i := 5) (v := ?_) rfl (by kernel_rfl) (by kernel_rfl) (by kernel_rfl) (fun _ _ _ h => h) (Or.inl ⟨by rfl, ?_⟩) (by assumption) ?_
                    rotate_left
                    · intro w hSw
                      try dsimp only at hSw
                      go_simp
                      try (with_reducible rfl)
                    try simp only [Act.put, List.setIfInBounds_toArray, List.set_cons_zero, List.set_cons_succ]
                    refine wpAnyH_take (i := 6) (v := ?_) rfl (by kernel_rfl) (by kernel_rfl) (by kernel_rfl) (fun _ _ _ h => h) (Or.inl ⟨by rfl, ?_⟩) (by assumption) ?_
                    rotate_left
                    · intro w hSw
                      try dsimp only at hSw
                      go_simp
                      try (with_reducible rfl)
                    try simp only [Act.put, List.setIfInBounds_toArray, List.set_cons_zero, List.set_cons_succ]
                    refine wpAnyH_take (i := 7) (v := ?_) rfl (by kernel_rfl) (by kernel_rfl) (by kernel_rfl) (fun _ _ _ h => h) (Or.inl ⟨by rfl, ?_⟩) (by assumption) ?_
                    rotate_left
                    · intro w hSw
                      try dsimp only at hSw
                      go_simp
                      try (with_reducible rfl)
                    try simp only [Act.put, List.setIfInBounds_toArray, List.set_cons_zero, List.set_cons_succ]
                    refine wpAnyH_take (i := 8) (v := ?_) rfl (by kernel_rfl) (by kernel_rfl) (by kernel_rfl) (fun _ _ _ h => h) (Or.inl ⟨by rfl, ?_⟩) (by assumption) ?_
                    rotate_left
                    · intro w hSw
                      try dsimp only at hSw
                      go_simp
                      try (with_reducible rfl)
                    try simp only [Act.put, List.setIfInBounds_toArray, List.set_cons_zero, List.set_cons_succ]
                    refine wpAnyH_take (i := 9) (v := ?_) rfl (by kernel_rfl) (by kernel_rfl) (by kernel_rfl) (fun _ _ _ h => h) (Or.inl ⟨by rfl, ?_⟩) (by assumption) ?_
                    rotate_left
                    · intro w hSw
                      try dsimp only at hSw
                      go_simp
                      try (with_reducible rfl)
                    try simp only [Act.put, List.setIfInBounds_toArray, List.set_cons_zero, List.set_cons_succ]
                    refine wpAnyH_take (i := 12) (v := ?_) rfl (by kernel_rfl) (by kernel_rfl) (by kernel_rfl) (fun _ _ _ h => h) (Or.inl ⟨by rfl, ?_⟩) (by assumption) ?_
                    rotate_left
                    · intro w hSw
                      try dsimp only at hSw
                      go_simp
                      try (with_reducible rfl)
                    try simp only [Act.put, List.setIfInBounds_toArray, List.set_cons_zero, List.set_cons_succ]
                    refine wpAnyH_take (i := 13) (v := ?_) rfl (by kernel_rfl) (by kernel_rfl) (by kernel_rfl) (fun _ _ _ h => h) (Or.inl ⟨by rfl, ?_⟩) (by assumption) ?_
                    rotate_left
                    · intro w hSw
                      try dsimp only at hSw
                      go_simp
                      try (with_reducible rfl)
                    try simp only [Act.put, List.setIfInBounds_toArray, List.set_cons_zero, List.set_cons_succ]
                    refine wpAnyH_take (i := 14) (v := ?_) rfl (by kernel_rfl) (by kernel_rfl) (by kernel_rfl) (fun _ _ _ h => h) (Or.inl ⟨by rfl, ?_⟩) (by assumption) ?_
                    rotate_left
                    · intro w hSw
                      try dsimp only at hSw
                      go_simp
                      try (with_reducible rfl)
                    try simp only [Act.put, List.setIfInBounds_toArray, List.set_cons_zero, List.set_cons_succ]
                    refine wpAnyH_ready (rs := [0, 10]) (by kernel_rfl) (by simp) ?_
                    refine AllReadyH.cons rfl (fun K hK => ?_) (AllReadyH.cons rfl (fun K hK => ?_) AllReadyH.nil)
                    · skip
                      go_simp
                      have q0 : Qw (Wd.alloc (.cells #[] 9)) wr.heap.size 9 1 (.slice (some ⟨Wd.heap.size, 0, none⟩) 0 0) 0 [] := Qw.emptyAt (hp0 _ _) hbW.size
                      replace hbW := grow_trans hbW (grow_alloc Wd (.cells #[] 9))
                      have z0 := Lib.hid (World.size_alloc Wd (.cells #[] 9))
                      generalize Wd.alloc (.cells #[] 9) = Wa0 at *
                      generalize Wd.heap.size = b0 at *
                      refine hK.out _ _ (mkS _ hbW) (fun hHeld => ?_)
                      clear hK K
                      refine wpAnyH_ready (rs := [4, 10]) (by kernel_rfl) (by simp) ?_
                      refine AllReadyH.cons rfl (fun K hK => ?_) (AllReadyH.cons rfl (fun K hK => ?_) AllReadyH.nil)
                      · skip
                        refine step_append_q _ rfl (.tmp 51) (.tmp 54) 42 rfl wr.heap.size 9 i0 (.string ⟨#[]⟩) 1 16 Tryz.underlying42 hi hz0 hz1 hz2 rfl (by decide) (.slice (some ⟨b0, 0, none⟩) 0 0) (0) ([]) (by rfl) q0 _ (j) ((nms ls).take j) (by rfl) (HA.below hbW) g1 (by unfold maxLen; omega) (by omega) hbW.size ?_
                        intro v1 w1 hq1 hg1 hd1
                        replace hbW := hbW.grown hg1 hbW.size (fun j hj => (q0.lt j hj).1)
                        clear hg1 hd1
                        refine hK.out _ _ (mkS _ hbW) (fun hHeld => ?_)
                        clear hK K
                        refine wpAnyH_ready (rs := [10]) (by kernel_rfl) (by simp) ?_
                        refine AllReadyH.cons rfl (fun K hK => ?_) AllReadyH.nil
                        go_simp
                        have s2 : Sl (w1.alloc (.cells #[.string n] 9)) 1 (.slice (some ⟨w1.heap.size, 0, none⟩) 1 1) 1 [.string n] := Sl.boxAt (hp0 _ _)
                        replace hq1 := hq1.below (grow_alloc w1 (.cells #[.string n] 9))
                        replace hbW := grow_trans hbW (grow_alloc w1 (.cells #[.string n] 9))
                        have z2 := Lib.hid (World.size_alloc w1 (.cells #[.string n] 9))
                        generalize w1.alloc (.cells #[.string n] 9) = Wa2 at *
                        generalize w1.heap.size = b2 at *
                        refine hK.out _ _ (mkS _ hbW) (fun hHeld => ?_)
                        clear hK K
                        refine wpAnyH_ready (rs := [11]) (by kernel_rfl) (by simp) ?_
                        refine AllReadyH.cons rfl (fun K hK => ?_) AllReadyH.nil
                        refine step_append_q _ rfl (.tmp 55) (.tmp 61) 42 rfl wr.heap.size 9 i0 (.string ⟨#[]⟩) 1 16 Tryz.underlying42 hi hz0 hz1 hz2 rfl (by decide) v1 (0 + j) ([] ++ (nms ls).take j) (by rfl) hq1 _ (1) ([.string n]) (by rfl) s2 (by intro u hu; simp at hu; subst hu; rfl) (by unfold maxLen; omega) (by omega) hbW.size ?_
                        intro v2 w2 hq2 hg2 hd2
                        replace hbW := hbW.grown hg2 hbW.size (fun j hj => (hq1.lt j hj).1)
                        clear hg2 hd2
                        refine hK.out _ _ (mkS _ hbW) (fun hHeld => ?_)
                        clear hK K
                        refine wpAnyH_ready (rs := [15]) (by kernel_rfl) (by simp) ?_
                        refine AllReadyH.cons rfl (fun K hK => ?_) AllReadyH.nil
                        refine step_append_q _ rfl (.tmp 62) (.tmp 65) 42 rfl wr.heap.size 9 i0 (.string ⟨#[]⟩) 1 16 Tryz.underlying42 hi hz0 hz1 hz2 rfl (by decide) v2 (0 + j + 1) ([] ++ (nms ls).take j ++ [.string n]) (by rfl) hq2 _ (ls.length - j) ((nms ls).drop j) (by rfl) (HB.below hbW) g2 (by unfold maxLen; omega) (by omega) hbW.size ?_
                        intro v3 w3 hq3 hg3 hd3
                        replace hbW := hbW.grown hg3 hbW.size (fun j hj => (hq2.lt j hj).1)
                        clear hg3 hd3
                        refine hK.out _ _ (mkS _ hbW) (fun hHeld => ?_)
                        clear hK K
                        refine wpAnyH_take (i := 16) (v := ?_) rfl (by kernel_rfl) (by kernel_rfl) (by kernel_rfl) (fun _ _ _ h => h) (Or.inl ⟨by rfl, ?_⟩) (by assumption) ?_
                        rotate_left
                        · intro w hSw
                          try dsimp only at hSw
                          go_simp
                          try (with_reducible rfl)
                        try simp only [Act.put, List.setIfInBounds_toArray, List.set_cons_zero, List.set_cons_succ]
                        refine wpAnyH_done (by kernel_rfl) ?_ _
                        have hqz := Lib.hid (bf_end (n := n) hj (show w.heap.size ≤ wr.heap.size from hbz.out.size) hq3)
                        have hbf := Lib.hid (hbz.out.trans (hbW.mono hbz.out.size))
                        clear hq3 hbW g1 g2 mkS hHeld HA HB
                        go_wp2
                        go_roundw
                        case rel => exact ⟨k + 1, _, by omega, by go_num, hbf.out, hqz.out, hSS.out, hPP.out⟩
                        case measure => simp [intOf]; omega
                      · skip
                        go_simp
                        have s2 : Sl (Wa0.alloc (.cells #[.string n] 9)) 1 (.slice (some ⟨Wa0.heap.size, 0, none⟩) 1 1) 1 [.string n] := Sl.boxAt (hp0 _ _)
                        replace q0 := q0.below (grow_alloc Wa0 (.cells #[.string n] 9))
                        replace hbW := grow_trans hbW (grow_alloc Wa0 (.cells #[.string n] 9))
                        have z2 := Lib.hid (World.size_alloc Wa0 (.cells #[.string n] 9))
                        generalize Wa0.alloc (.cells #[.string n] 9) = Wa1 at *
                        generalize Wa0.heap.size = b2 at *
                        refine hK.out _ _ (mkS _ hbW) (fun hHeld => ?_)
                        clear hK K
                        refine wpAnyH_ready (rs := [4]) (by kernel_rfl) (by simp) ?_
                        refine AllReadyH.cons rfl (fun K hK => ?_) AllReadyH.nil
                        refine step_append_q _ rfl (.tmp 51) (.tmp 54) 42 rfl wr.heap.size 9 i0 (.string ⟨#[]⟩) 1 16 Tryz.underlying42 hi hz0 hz1 hz2 rfl (by decide) (.slice (some ⟨b0, 0, none⟩) 0 0) (0) ([]) (by rfl) q0 _ (j) ((nms ls).take j) (by rfl) (HA.below hbW) g1 (by unfold maxLen; omega) (by omega) hbW.size ?_
                        intro v1 w1 hq1 hg1 hd1
                        replace s2 := s2.kept hg1 (.inr (by intro e; simp [Value.ownBlock] at e; have y0 := z0.out; have y2 := z2.out; omega))
                        replace hbW := hbW.grown hg1 hbW.size (fun j hj => (q0.lt j hj).1)
                        clear hg1 hd1
                        refine hK.out _ _ (mkS _ hbW) (fun hHeld => ?_)
                        clear hK K
                        refine wpAnyH_ready (rs := [11]) (by kernel_rfl) (by simp) ?_
                        refine AllReadyH.cons rfl (fun K hK => ?_) AllReadyH.nil
                        refine step_append_q _ rfl (.tmp 55) (.tmp 61) 42 rfl wr.heap.size 9 i0 (.string ⟨#[]⟩) 1 16 Tryz.underlying42 hi hz0 hz1 hz2 rfl (by decide) v1 (0 + j) ([] ++ (nms ls).take j) (by rfl) hq1 _ (1) ([.string n]) (by rfl) s2 (by intro u hu; simp at hu; subst hu; rfl) (by unfold maxLen; omega) (by omega) hbW.size ?_
                        intro v2 w2 hq2 hg2 hd2
                        replace hbW := hbW.grown hg2 hbW.size (fun j hj => (hq1.lt j hj).1)
                        clear hg2 hd2
                        refine hK.out _ _ (mkS _ hbW) (fun hHeld => ?_)
                        clear hK K
                        refine wpAnyH_ready (rs := [15]) (by kernel_rfl) (by simp) ?_
                        refine AllReadyH.cons rfl (fun K hK => ?_) AllReadyH.nil
                        refine step_append_q _ rfl (.tmp 62) (.tmp 65) 42 rfl wr.heap.size 9 i0 (.string ⟨#[]⟩) 1 16 Tryz.underlying42 hi hz0 hz1 hz2 rfl (by decide) v2 (0 + j + 1) ([] ++ (nms ls).take j ++ [.string n]) (by rfl) hq2 _ (ls.length - j) ((nms ls).drop j) (by rfl) (HB.below hbW) g2 (by unfold maxLen; omega) (by omega) hbW.size ?_
                        intro v3 w3 hq3 hg3 hd3
                        replace hbW := hbW.grown hg3 hbW.size (fun j hj => (hq2.lt j hj).1)
                        clear hg3 hd3
                        refine hK.out _ _ (mkS _ hbW) (fun hHeld => ?_)
                        clear hK K
                        refine wpAnyH_take (i := 16) (v := ?_) rfl (by kernel_rfl) (by kernel_rfl) (by kernel_rfl) (fun _ _ _ h => h) (Or.inl ⟨by rfl, ?_⟩) (by assumption) ?_
                        rotate_left
                        · intro w hSw
                          try dsimp only at hSw
                          go_simp
                          try (with_reducible rfl)
                        try simp only [Act.put, List.setIfInBounds_toArray, List.set_cons_zero, List.set_cons_succ]
                        refine wpAnyH_done (by kernel_rfl) ?_ _
                        have hqz := Lib.hid (bf_end (n := n) hj (show w.heap.size ≤ wr.heap.size from hbz.out.size) hq3)
                        have hbf := Lib.hid (hbz.out.trans (hbW.mono hbz.out.size))
                        clear hq3 hbW g1 g2 mkS hHeld HA HB
                        go_wp2
                        go_roundw
                        case rel => exact ⟨k + 1, _, by omega, by go_num, hbf.out, hqz.out, hSS.out, hPP.out⟩
                        case measure => simp [intOf]; omega
                    · skip
                      go_simp
                      have s2 : Sl (Wd.alloc (.cells #[.string n] 9)) 1 (.slice (some ⟨Wd.heap.size, 0, none⟩) 1 1) 1 [.string n] := Sl.boxAt (hp0 _ _)
                      replace hbW := grow_trans hbW (grow_alloc Wd (.cells #[.string n] 9))
                      have z2 := Lib.hid (World.size_alloc Wd (.cells #[.string n] 9))
                      generalize Wd.alloc (.cells #[.string n] 9) = Wa0 at *
                      generalize Wd.heap.size = b2 at *
                      refine hK.out _ _ (mkS _ hbW) (fun hHeld => ?_)
                      clear hK K
                      refine wpAnyH_ready (rs := [0]) (by kernel_rfl) (by simp) ?_
                      refine AllReadyH.cons rfl (fun K hK => ?_) AllReadyH.nil
                      go_simp
                      have q0 : Qw (Wa0.alloc (.cells #[] 9)) wr.heap.size 9 1 (.slice (some ⟨Wa0.heap.size, 0, none⟩) 0 0) 0 [] := Qw.emptyAt (hp0 _ _) hbW.size
                      replace s2 := s2.below (grow_alloc Wa0 (.cells #[] 9))
                      replace hbW := grow_trans hbW (grow_alloc Wa0 (.cells #[] 9))
                      have z0 := Lib.hid (World.size_alloc Wa0 (.cells #[] 9))
                      generalize Wa0.alloc (.cells #[] 9) = Wa1 at *
                      generalize Wa0.heap.size = b0 at *
                      refine hK.out _ _ (mkS _ hbW) (fun hHeld => ?_)
                      clear hK K
                      refine wpAnyH_ready (rs := [4]) (by kernel_rfl) (by simp) ?_
                      refine AllReadyH.cons rfl (fun K hK => ?_) AllReadyH.nil
                      refine step_append_q _ rfl (.tmp 51) (.tmp 54) 42 rfl wr.heap.size 9 i0 (.string ⟨#[]⟩) 1 16 Tryz.underlying42 hi hz0 hz1 hz2 rfl (by decide) (.slice (some ⟨b0, 0, none⟩) 0 0) (0) ([]) (by rfl) q0 _ (j) ((nms ls).take j) (by rfl) (HA.below hbW) g1 (by unfold maxLen; omega) (by omega) hbW.size ?_
                      intro v1 w1 hq1 hg1 hd1
                      replace s2 := s2.kept hg1 (.inr (by intro e; simp [Value.ownBlock] at e; have y0 := z0.out; have y2 := z2.out; omega))
                      replace hbW := hbW.grown hg1 hbW.size (fun j hj => (q0.lt j hj).1)
                      clear hg1 hd1
                      refine hK.out _ _ (mkS _ hbW) (fun hHeld => ?_)
                      clear hK K
                      refine wpAnyH_ready (rs := [11]) (by kernel_rfl) (by simp) ?_
                      refine AllReadyH.cons rfl (fun K hK => ?_) AllReadyH.nil
                      refine step_append_q _ rfl (.tmp 55) (.tmp 61) 42 rfl wr.heap.size 9 i0 (.string ⟨#[]⟩) 1 16 Tryz.underlying42 hi hz0 hz1 hz2 rfl (by decide) v1 (0 + j) ([] ++ (nms ls).take j) (by rfl) hq1 _ (1) ([.string n]) (by rfl) s2 (by intro u hu; simp at hu; subst hu; rfl) (by unfold maxLen; omega) (by omega) hbW.size ?_
                      intro v2 w2 hq2 hg2 hd2
                      replace hbW := hbW.grown hg2 hbW.size (fun j hj => (hq1.lt j hj).1)
                      clear hg2 hd2
                      refine hK.out _ _ (mkS _ hbW) (fun hHeld => ?_)
                      clear hK K
                      refine wpAnyH_ready (rs := [15]) (by kernel_rfl) (by simp) ?_
                      refine AllReadyH.cons rfl (fun K hK => ?_) AllReadyH.nil
                      refine step_append_q _ rfl (.tmp 62) (.tmp 65) 42 rfl wr.heap.size 9 i0 (.string ⟨#[]⟩) 1 16 Tryz.underlying42 hi hz0 hz1 hz2 rfl (by decide) v2 (0 + j + 1) ([] ++ (nms ls).take j ++ [.string n]) (by rfl) hq2 _ (ls.length - j) ((nms ls).drop j) (by rfl) (HB.below hbW) g2 (by unfold maxLen; omega) (by omega) hbW.size ?_
                      intro v3 w3 hq3 hg3 hd3
                      replace hbW := hbW.grown hg3 hbW.size (fun j hj => (hq2.lt j hj).1)
                      clear hg3 hd3
                      refine hK.out _ _ (mkS _ hbW) (fun hHeld => ?_)
                      clear hK K
                      refine wpAnyH_take (i := 16) (v := ?_) rfl (by kernel_rfl) (by kernel_rfl) (by kernel_rfl) (fun _ _ _ h => h) (Or.inl ⟨by rfl, ?_⟩) (by assumption) ?_
                      rotate_left
                      · intro w hSw
                        try dsimp only at hSw
                        go_simp
                        try (with_reducible rfl)
                      try simp only [Act.put, List.setIfInBounds_toArray, List.set_cons_zero, List.set_cons_succ]
                      refine wpAnyH_done (by kernel_rfl) ?_ _
                      have hqz := Lib.hid (bf_end (n := n) hj (show w.heap.size ≤ wr.heap.size from hbz.out.size) hq3)
                      have hbf := Lib.hid (hbz.out.trans (hbW.mono hbz.out.size))
                      clear hq3 hbW g1 g2 mkS hHeld HA HB
                      go_wp2
                      go_roundw
                      case rel => exact ⟨k + 1, _, by omega, by go_num, hbf.out, hqz.out, hSS.out, hPP.out⟩
                      case measure => simp [intOf]; omega
                  case neg =>
                    have e1 : Op.bytesLess (bs x).toList n.toList = true := less_yes (by
                      rw [hxd]
                      by_cases h : x < n.data.toList
                      · exact h
                      · exfalso
                        have := List.le_antisymm (List.not_lt.1 hgt) (List.not_lt.1 h)
                        exact hxe (by rw [this, bs_dataF]))
                    clear hx2 hxd
                    go_wp2_with fail
                    go_quiet (fail)
                    generalize hwr : World.drewN _ _ = wr2
                    replace hbr : Hid (Below wo.heap.size wo wr2) := by rw [← hwr]; exact grow_trans hbr.out (grow_drewN _ _)
                    clear hwr
                    obtain ⟨wr, rfl⟩ : ∃ wr : World, wr = wr2 := ⟨_, rfl⟩
                    clear hcell hgt hxe e1
                    have hls1 := hls.out
                    have hSS := Lib.hid (ins_sorted (x := n.data.toList) hj hls1.1 hup.out hlo.out)
                    have hPP : Hid ((ls.take j ++ [n.data.toList] ++ ls.drop j).Perm (bnL ps m (k + 1))) := by
                      show List.Perm _ _
                      rw [hst.out]
                      exact ((ins_perm ls n.data.toList j).trans (hls1.2.cons _)).trans (List.perm_append_singleton _ _).symm
                    clear hls1 hup hlo hcl
                    have hbz := hb2.out.trans (hbr.out.mono hb2.out.size)
                    have HS := (Sl.of_q hq2.out).below hbr.out
                    have HA := HS.cut hj
                    have HB := HS.from hj
                    simp only [Nat.mul_one, Option.map_some, Addr.add_lit] at HB
                    have g1 : ∀ u ∈ (nms ls).take j, u.oneCell' = true := fun u hu => nms_one ls u (List.mem_of_mem_take hu)
                    have g2 : ∀ u ∈ (nms ls).drop j, u.oneCell' = true := fun u hu => nms_one ls u (List.mem_of_mem_drop hu)
                    have mkS := fun W (hW : Below wr.heap.size wr W) => hcc2.out W (grow_trans hbr.out hW)
                    have i1 : (0 : Int) ≤ (j : Int) := by omega
                    have i2 : (j : Int) ≤ (ls.length : Int) := by omega
                    have i3 : (j : Int) ≤ (ca : Int) := by omega
                    replace HA := Lib.hid HA
                    replace HB := Lib.hid HB
                    replace hbz := Lib.hid hbz
                    replace mkS := Lib.hid mkS
                    clear HS
                    go_wp2_with fail
                    replace HA := HA.out
                    replace HB := HB.out
                    replace mkS := mkS.out
                    refine wp_region_held_drew (S := fun W => W.cell? ⟨fb, off + k * 5 + 1, none⟩ = some (.string n)) (by kernel_rfl) (mkS _ (grow_drew _)) (fun hHeld => ?_)
                    have hbW : Below wr.heap.size wr wr.drew := grow_drew _
                    generalize wr.drew = Wd at *
                    refine wpAnyH_take (i := 1) (v := ?_) rfl (by kernel_rfl) (by kernel_rfl) (by kernel_rfl) (fun _ _ _ h => h) (Or.inl ⟨by rfl, ?_⟩) (by assumption) ?_
                    rotate_left
                    · intro w hSw
                      try dsimp only at hSw
                      go_simp
                      try (with_reducible rfl)
                    try simp only [Act.put, List.setIfInBounds_toArray, List.set_cons_zero, List.set_cons_succ]
                    refine wpAnyH_take (i := 2) (v := ?_) rfl (by kernel_rfl) (by kernel_rfl) (by kernel_rfl) (fun _ _ _ h => h) (Or.inl ⟨by rfl, ?_⟩) (by assumption) ?_
                    rotate_left
                    · intro w hSw
                      try dsimp only at hSw
                      go_simp
                      try (with_reducible rfl)
                    try simp only [Act.put, List.setIfInBounds_toArray, List.set_cons_zero, List.set_cons_succ]
                    refine wpAnyH_take (i := 3) (v := ?_) rfl (by kernel_rfl) (by kernel_rfl) (by kernel_rfl) (fun _ _ _ h => h) (Or.inl ⟨by rfl, ?_⟩) (by assumption) ?_
                    rotate_left
                    · intro w hSw
                      try dsimp only at hSw
                      go_simp
                      try (with_reducible rfl)
                    try simp only [Act.put, List.setIfInBounds_toArray, List.set_cons_zero, List.set_cons_succ]
                    refine wpAnyH_take (i := 5) (v := ?_) rfl (by kernel_rfl) (by kernel_rfl) (by kernel_rfl) (fun _ _ _ h => h) (Or.inl ⟨by rfl, ?_⟩) (by assumption) ?_
                    rotate_left
                    · intro w hSw
                      try dsimp only at hSw
                      go_simp
                      try (with_reducible rfl)
                    try simp only [Act.put, List.setIfInBounds_toArray, List.set_cons_zero, List.set_cons_succ]
                    refine wpAnyH_take (i := 6) (v := ?_) rfl (by kernel_rfl) (by kernel_rfl) (by kernel_rfl) (fun _ _ _ h => h) (Or.inl ⟨by rfl, ?_⟩) (by assumption) ?_
                    rotate_left
                    · intro w hSw
                      try dsimp only at hSw
                      go_simp
                      try (with_reducible rfl)
                    try simp only [Act.put, List.setIfInBounds_toArray, List.set_cons_zero, List.set_cons_succ]
                    refine wpAnyH_take (i := 7) (v := ?_) rfl (by kernel_rfl) (by kernel_rfl) (by kernel_rfl) (fun _ _ _ h => h) (Or.inl ⟨by rfl, ?_⟩) (by assumption) ?_
                    rotate_left
                    · intro w hSw
                      try dsimp only at hSw
                      go_simp
                      try (with_reducible rfl)
                    try simp only [Act.put, List.setIfInBounds_toArray, List.set_cons_zero, List.set_cons_succ]
                    refine wpAnyH_take (i := 8) (v := ?_) rfl (by kernel_rfl) (by kernel_rfl) (by kernel_rfl) (fun _ _ _ h => h) (Or.inl ⟨by rfl, ?_⟩) (by assumption) ?_
                    rotate_left
                    · intro w hSw
                      try dsimp only at hSw
                      go_simp
                      try (with_reducible rfl)
                    try simp only [Act.put, List.setIfInBounds_toArray, List.set_cons_zero, List.set_cons_succ]
                    refine wpAnyH_take (i := 9) (v := ?_) rfl (by kernel_rfl) (by kernel_rfl) (by kernel_rfl) (fun _ _ _ h => h) (Or.inl ⟨by rfl, ?_⟩) (by assumption) ?_
                    rotate_left
                    · intro w hSw
                      try dsimp only at hSw
                      go_simp
                      try (with_reducible rfl)
                    try simp only [Act.put, List.setIfInBounds_toArray, List.set_cons_zero, List.set_cons_succ]
                    refine wpAnyH_take (i := 12) (v := ?_) rfl (by kernel_rfl) (by kernel_rfl) (by kernel_rfl) (fun _ _ _ h => h) (Or.inl ⟨by rfl, ?_⟩) (by assumption) ?_
                    rotate_left
                    · intro w hSw
                      try dsimp only at hSw
                      go_simp
                      try (with_reducible rfl)
                    try simp only [Act.put, List.setIfInBounds_toArray, List.set_cons_zero, List.set_cons_succ]
                    refine wpAnyH_take (i := 13) (v := ?_) rfl (by kernel_rfl) (by kernel_rfl) (by kernel_rfl) (fun _ _ _ h => h) (Or.inl ⟨by rfl, ?_⟩) (by assumption) ?_
                    rotate_left
                    · intro w hSw
                      try dsimp only at hSw
                      go_simp
                      try (with_reducible rfl)
                    try simp only [Act.put, List.setIfInBounds_toArray, List.set_cons_zero, List.set_cons_succ]
                    refine wpAnyH_take (i := 14) (v := ?_) rfl (by kernel_rfl) (by kernel_rfl) (by kernel_rfl) (fun _ _ _ h => h) (Or.inl ⟨by rfl, ?_⟩) (by assumption) ?_
                    rotate_left
                    · intro w hSw
                      try dsimp only at hSw
                      go_simp
                      try (with_reducible rfl)
                    try simp only [Act.put, List.setIfInBounds_toArray, List.set_cons_zero, List.set_cons_succ]
                    refine wpAnyH_ready (rs := [0, 10]) (by kernel_rfl) (by simp) ?_
                    refine AllReadyH.cons rfl (fun K hK => ?_) (AllReadyH.cons rfl (fun K hK => ?_) AllReadyH.nil)
                    · skip
                      go_simp
                      have q0 : Qw (Wd.alloc (.cells #[] 9)) wr.heap.size 9 1 (.slice (some ⟨Wd.heap.size, 0, none⟩) 0 0) 0 [] := Qw.emptyAt (hp0 _ _) hbW.size
                      replace hbW := grow_trans hbW (grow_alloc Wd (.cells #[] 9))
                      have z0 := Lib.hid (World.size_alloc Wd (.cells #[] 9))
                      generalize Wd.alloc (.cells #[] 9) = Wa0 at *
                      generalize Wd.heap.size = b0 at *
                      refine hK.out _ _ (mkS _ hbW) (fun hHeld => ?_)
                      clear hK K
                      refine wpAnyH_ready (rs := [4, 10]) (by kernel_rfl) (by simp) ?_
                      refine AllReadyH.cons rfl (fun K hK => ?_) (AllReadyH.cons rfl (fun K hK => ?_) AllReadyH.nil)
                      · skip
                        refine step_append_q _ rfl (.tmp 51) (.tmp 54) 42 rfl wr.heap.size 9 i0 (.string ⟨#[]⟩) 1 16 Tryz.underlying42 hi hz0 hz1 hz2 rfl (by decide) (.slice (some ⟨b0, 0, none⟩) 0 0) (0) ([]) (by rfl) q0 _ (j) ((nms ls).take j) (by rfl) (HA.below hbW) g1 (by unfold maxLen; omega) (by omega) hbW.size ?_
                        intro v1 w1 hq1 hg1 hd1
                        replace hbW := hbW.grown hg1 hbW.size (fun j hj => (q0.lt j hj).1)
                        clear hg1 hd1
                        refine hK.out _ _ (mkS _ hbW) (fun hHeld => ?_)
                        clear hK K
                        refine wpAnyH_ready (rs := [10]) (by kernel_rfl) (by simp) ?_
                        refine AllReadyH.cons rfl (fun K hK => ?_) AllReadyH.nil
                        go_simp
                        have s2 : Sl (w1.alloc (.cells #[.string n] 9)) 1 (.slice (some ⟨w1.heap.size, 0, none⟩) 1 1) 1 [.string n] := Sl.boxAt (hp0 _ _)
                        replace hq1 := hq1.below (grow_alloc w1 (.cells #[.string n] 9))
                        replace hbW := grow_trans hbW (grow_alloc w1 (.cells #[.string n] 9))
                        have z2 := Lib.hid (World.size_alloc w1 (.cells #[.string n] 9))
                        generalize w1.alloc (.cells #[.string n] 9) = Wa2 at *
                        generalize w1.heap.size = b2 at *
                        refine hK.out _ _ (mkS _ hbW) (fun hHeld => ?_)
                        clear hK K
                        refine wpAnyH_ready (rs := [11]) (by kernel_rfl) (by simp) ?_
                        refine AllReadyH.cons rfl (fun K hK => ?_) AllReadyH.nil
                        refine step_append_q _ rfl (.tmp 55) (.tmp 61) 42 rfl wr.heap.size 9 i0 (.string ⟨#[]⟩) 1 16 Tryz.underlying42 hi hz0 hz1 hz2 rfl (by decide) v1 (0 + j) ([] ++ (nms ls).take j) (by rfl) hq1 _ (1) ([.string n]) (by rfl) s2 (by intro u hu; simp at hu; subst hu; rfl) (by unfold maxLen; omega) (by omega) hbW.size ?_
                        intro v2 w2 hq2 hg2 hd2
                        replace hbW := hbW.grown hg2 hbW.size (fun j hj => (hq1.lt j hj).1)
                        clear hg2 hd2
                        refine hK.out _ _ (mkS _ hbW) (fun hHeld => ?_)
                        clear hK K
                        refine wpAnyH_ready (rs := [15]) (by kernel_rfl) (by simp) ?_
                        refine AllReadyH.cons rfl (fun K hK => ?_) AllReadyH.nil
                        refine step_append_q _ rfl (.tmp 62) (.tmp 65) 42 rfl wr.heap.size 9 i0 (.string ⟨#[]⟩) 1 16 Tryz.underlying42 hi hz0 hz1 hz2 rfl (by decide) v2 (0 + j + 1) ([] ++ (nms ls).take j ++ [.string n]) (by rfl) hq2 _ (ls.length - j) ((nms ls).drop j) (by rfl) (HB.below hbW) g2 (by unfold maxLen; omega) (by omega) hbW.size ?_
                        intro v3 w3 hq3 hg3 hd3
                        replace hbW := hbW.grown hg3 hbW.size (fun j hj => (hq2.lt j hj).1)
                        clear hg3 hd3
                        refine hK.out _ _ (mkS _ hbW) (fun hHeld => ?_)
                        clear hK K
                        refine wpAnyH_take (i := 16) (v := ?_) rfl (by kernel_rfl) (by kernel_rfl) (by kernel_rfl) (fun _ _ _ h => h) (Or.inl ⟨by rfl, ?_⟩) (by assumption) ?_
                        rotate_left
                        · intro w hSw
                          try dsimp only at hSw
                          go_simp
                          try (with_reducible rfl)
                        try simp only [Act.put, List.setIfInBounds_toArray, List.set_cons_zero, List.set_cons_succ]
                        refine wpAnyH_done (by kernel_rfl) ?_ _
                        have hqz := Lib.hid (bf_end (n := n) hj (show w.heap.size ≤ wr.heap.size from hbz.out.size) hq3)
                        have hbf := Lib.hid (hbz.out.trans (hbW.mono hbz.out.size))
                        clear hq3 hbW g1 g2 mkS hHeld HA HB
                        go_wp2
                        go_roundw
                        case rel => exact ⟨k + 1, _, by omega, by go_num, hbf.out, hqz.out, hSS.out, hPP.out⟩
                        case measure => simp [intOf]; omega
                      · skip
                        go_simp
                        have s2 : Sl (Wa0.alloc (.cells #[.string n] 9)) 1 (.slice (some ⟨Wa0.heap.size, 0, none⟩) 1 1) 1 [.string n] := Sl.boxAt (hp0 _ _)
                        replace q0 := q0.below (grow_alloc Wa0 (.cells #[.string n] 9))
                        replace hbW := grow_trans hbW (grow_alloc Wa0 (.cells #[.string n] 9))
                        have z2 := Lib.hid (World.size_alloc Wa0 (.cells #[.string n] 9))
                        generalize Wa0.alloc (.cells #[.string n] 9) = Wa1 at *
                        generalize Wa0.heap.size = b2 at *
                        refine hK.out _ _ (mkS _ hbW) (fun hHeld => ?_)
                        clear hK K
                        refine wpAnyH_ready (rs := [4]) (by kernel_rfl) (by simp) ?_
                        refine AllReadyH.cons rfl (fun K hK => ?_) AllReadyH.nil
                        refine step_append_q _ rfl (.tmp 51) (.tmp 54) 42 rfl wr.heap.size 9 i0 (.string ⟨#[]⟩) 1 16 Tryz.underlying42 hi hz0 hz1 hz2 rfl (by decide) (.slice (some ⟨b0, 0, none⟩) 0 0) (0) ([]) (by rfl) q0 _ (j) ((nms ls).take j) (by rfl) (HA.below hbW) g1 (by unfold maxLen; omega) (by omega) hbW.size ?_
                        intro v1 w1 hq1 hg1 hd1
                        replace s2 := s2.kept hg1 (.inr (by intro e; simp [Value.ownBlock] at e; have y0 := z0.out; have y2 := z2.out; omega))
                        replace hbW := hbW.grown hg1 hbW.size (fun j hj => (q0.lt j hj).1)
                        clear hg1 hd1
                        refine hK.out _ _ (mkS _ hbW) (fun hHeld => ?_)
                        clear hK K
                        refine wpAnyH_ready (rs := [11]) (by kernel_rfl) (by simp) ?_
                        refine AllReadyH.cons rfl (fun K hK => ?_) AllReadyH.nil
                        refine step_append_q _ rfl (.tmp 55) (.tmp 61) 42 rfl wr.heap.size 9 i0 (.string ⟨#[]⟩) 1 16 Tryz.underlying42 hi hz0 hz1 hz2 rfl (by decide) v1 (0 + j) ([] ++ (nms ls).take j) (by rfl) hq1 _ (1) ([.string n]) (by rfl) s2 (by intro u hu; simp at hu; subst hu; rfl) (by unfold maxLen; omega) (by omega) hbW.size ?_
                        intro v2 w2 hq2 hg2 hd2
                        replace hbW := hbW.grown hg2 hbW.size (fun j hj => (hq1.lt j hj).1)
                        clear hg2 hd2
                        refine hK.out _ _ (mkS _ hbW) (fun hHeld => ?_)
                        clear hK K
                        refine wpAnyH_ready (rs := [15]) (by kernel_rfl) (by simp) ?_
                        refine AllReadyH.cons rfl (fun K hK => ?_) AllReadyH.nil
                        refine step_append_q _ rfl (.tmp 62) (.tmp 65) 42 rfl wr.heap.size 9 i0 (.string ⟨#[]⟩) 1 16 Tryz.underlying42 hi hz0 hz1 hz2 rfl (by decide) v2 (0 + j + 1) ([] ++ (nms ls).take j ++ [.string n]) (by rfl) hq2 _ (ls.length - j) ((nms ls).drop j) (by rfl) (HB.below hbW) g2 (by unfold maxLen; omega) (by omega) hbW.size ?_
                        intro v3 w3 hq3 hg3 hd3
                        replace hbW := hbW.grown hg3 hbW.size (fun j hj => (hq2.lt j hj).1)
                        clear hg3 hd3
                        refine hK.out _ _ (mkS _ hbW) (fun hHeld => ?_)
                        clear hK K
                        refine wpAnyH_take (i := 16) (v := ?_) rfl (by kernel_rfl) (by kernel_rfl) (by kernel_rfl) (fun _ _ _ h => h) (Or.inl ⟨by rfl, ?_⟩) (by assumption) ?_
                        rotate_left
                        · intro w hSw
                          try dsimp only at hSw
                          go_simp
                          try (with_reducible rfl)
                        try simp only [Act.put, List.setIfInBounds_toArray, List.set_cons_zero, List.set_cons_succ]
                        refine wpAnyH_done (by kernel_rfl) ?_ _
                        have hqz := Lib.hid (bf_end (n := n) hj (show w.heap.size ≤ wr.heap.size from hbz.out.size) hq3)
                        have hbf := Lib.hid (hbz.out.trans (hbW.mono hbz.out.size))
                        clear hq3 hbW g1 g2 mkS hHeld HA HB
                        go_wp2
                        go_roundw
                        case rel => exact ⟨k + 1, _, by omega, by go_num, hbf.out, hqz.out, hSS.out, hPP.out⟩
                        case measure => simp [intOf]; omega
                    · skip
                      go_simp
                      have s2 : Sl (Wd.alloc (.cells #[.string n] 9)) 1 (.slice (some ⟨Wd.heap.size, 0, none⟩) 1 1) 1 [.string n] := Sl.boxAt (hp0 _ _)
                      replace hbW := grow_trans hbW (grow_alloc Wd (.cells #[.string n] 9))
                      have z2 := Lib.hid (World.size_alloc Wd (.cells #[.string n] 9))
                      generalize Wd.alloc (.cells #[.string n] 9) = Wa0 at *
                      generalize Wd.heap.size = b2 at *
                      refine hK.out _ _ (mkS _ hbW) (fun hHeld => ?_)
                      clear hK K
                      refine wpAnyH_ready (rs := [0]) (by kernel_rfl) (by simp) ?_
                      refine AllReadyH.cons rfl (fun K hK => ?_) AllReadyH.nil
                      go_simp
                      have q0 : Qw (Wa0.alloc (.cells #[] 9)) wr.heap.size 9 1 (.slice (some ⟨Wa0.heap.size, 0, none⟩) 0 0) 0 [] := Qw.emptyAt (hp0 _ _) hbW.size
                      replace s2 := s2.below (grow_alloc Wa0 (.cells #[] 9))
                      replace hbW := grow_trans hbW (grow_alloc Wa0 (.cells #[] 9))
                      have z0 := Lib.hid (World.size_alloc Wa0 (.cells #[] 9))
                      generalize Wa0.alloc (.cells #[] 9) = Wa1 at *
                      generalize Wa0.heap.size = b0 at *
                      refine hK.out _ _ (mkS _ hbW) (fun hHeld => ?_)
                      clear hK K
                      refine wpAnyH_ready (rs := [4]) (by kernel_rfl) (by simp) ?_
                      refine AllReadyH.cons rfl (fun K hK => ?_) AllReadyH.nil
                      refine step_append_q _ rfl (.tmp 51) (.tmp 54) 42 rfl wr.heap.size 9 i0 (.string ⟨#[]⟩) 1 16 Tryz.underlying42 hi hz0 hz1 hz2 rfl (by decide) (.slice (some ⟨b0, 0, none⟩) 0 0) (0) ([]) (by rfl) q0 _ (j) ((nms ls).take j) (by rfl) (HA.below hbW) g1 (by unfold maxLen; omega) (by omega) hbW.size ?_
                      intro v1 w1 hq1 hg1 hd1
                      replace s2 := s2.kept hg1 (.inr (by intro e; simp [Value.ownBlock] at e; have y0 := z0.out; have y2 := z2.out; omega))
                      replace hbW := hbW.grown hg1 hbW.size (fun j hj => (q0.lt j hj).1)
                      clear hg1 hd1
                      refine hK.out _ _ (mkS _ hbW) (fun hHeld => ?_)
                      clear hK K
                      refine wpAnyH_ready (rs := [11]) (by kernel_rfl) (by simp) ?_
                      refine AllReadyH.cons rfl (fun K hK => ?_) AllReadyH.nil
                      refine step_append_q _ rfl (.tmp 55) (.tmp 61) 42 rfl wr.heap.size 9 i0 (.string ⟨#[]⟩) 1 16 Tryz.underlying42 hi hz0 hz1 hz2 rfl (by decide) v1 (0 + j) ([] ++ (nms ls).take j) (by rfl) hq1 _ (1) ([.string n]) (by rfl) s2 (by intro u hu; simp at hu; subst hu; rfl) (by unfold maxLen; omega) (by omega) hbW.size ?_
                      intro v2 w2 hq2 hg2 hd2
                      replace hbW := hbW.grown hg2 hbW.size (fun j hj => (hq1.lt j hj).1)
                      clear hg2 hd2
                      refine hK.out _ _ (mkS _ hbW) (fun hHeld => ?_)
                      clear hK K
                      refine wpAnyH_ready (rs := [15]) (by kernel_rfl) (by simp) ?_
                      refine AllReadyH.cons rfl (fun K hK => ?_) AllReadyH.nil
                      refine step_append_q _ rfl (.tmp 62) (.tmp 65) 42 rfl wr.heap.size 9 i0 (.string ⟨#[]⟩) 1 16 Tryz.underlying42 hi hz0 hz1 hz2 rfl (by decide) v2 (0 + j + 1) ([] ++ (nms ls).take j ++ [.string n]) (by rfl) hq2 _ (ls.length - j) ((nms ls).drop j) (by rfl) (HB.below hbW) g2 (by unfold maxLen; omega) (by omega) hbW.size ?_
                      intro v3 w3 hq3 hg3 hd3
                      replace hbW := hbW.grown hg3 hbW.size (fun j hj => (hq2.lt j hj).1)
                      clear hg3 hd3
                      refine hK.out _ _ (mkS _ hbW) (fun hHeld => ?_)
                      clear hK K
                      refine wpAnyH_take (i := 16) (v := ?_) rfl (by kernel_rfl) (by kernel_rfl) (by kernel_rfl) (fun _ _ _ h => h) (Or.inl ⟨by rfl, ?_⟩) (by assumption) ?_
                      rotate_left
                      · intro w hSw
                        try dsimp only at hSw
                        go_simp
                        try (with_reducible rfl)
                      try simp only [Act.put, List.setIfInBounds_toArray, List.set_cons_zero, List.set_cons_succ]
                      refine wpAnyH_done (by kernel_rfl) ?_ _
                      have hqz := Lib.hid (bf_end (n := n) hj (show w.heap.size ≤ wr.heap.size from hbz.out.size) hq3)
                      have hbf := Lib.hid (hbz.out.trans (hbW.mono hbz.out.size))
                      clear hq3 hbW g1 g2 mkS hHeld HA HB
                      go_wp2
                      go_roundw
                      case rel => exact ⟨k + 1, _, by omega, by go_num, hbf.out, hqz.out, hSS.out, hPP.out⟩
                      case measure => simp [intOf]; omega
theorem own_names {w1 : World} {base : Nat} {v : Value} {ls ls2 : List (List UInt8)} {n : ByteArray} (he : ls2 = ls ++ [n.data.toList]) (h : w1.ownsRow base 9 1 v (ls.length + 1) (nms ls ++ [.string n])) : w1.ownsRow base 9 1 v ls2.length (nms ls2) := by
  rw [he]
  have e : nms (ls ++ [n.data.toList]) = nms ls ++ [.string n] := by simp [nms, bs_dataF]
  rw [e, List.length_append]
  exact h
/-- Behind the sort. -/
theorem sort_end {w wr : World} {g cap : Nat} {cur : Array Value} {ls : List (List UInt8)} {a : Nat} {os : Array Obj} (hbase : w.heap.size ≤ g) (hb : wr.heap[g]? = some (.cells cur 9 (0, 0))) (h1 : ls.length ≤ cap) (h2 : cap ≤ maxLen) (h3 : cur.size = cap * 1) (hB : Below w.heap.size w wr) :
    (grow (putRow encStr (Sort.ahead wr a) g 0 (ls.mergeSort fun x y => decide (x ≤ y)).toArray) os).ownsRow w.heap.size 9 1 (.slice (some ⟨g, 0, none⟩) ls.length cap) (srtL ls).length (nms (srtL ls)) ∧
    Below w.heap.size w (grow (putRow encStr (Sort.ahead wr a) g 0 (ls.mergeSort fun x y => decide (x ≤ y)).toArray) os) := by
  have hl : (srtL ls).length = ls.length := srtL_length ls
  refine ⟨?_, hB.grown (grownBy_sorted _) hB.size (fun j hj => by cases hj; exact hbase)⟩
  rw [hl]
  exact ownsRow_sorted hl hbase hb h1 h2 h3
set_option maxHeartbeats 16000000 in
theorem BurningFuels_any (v : Value) (ps : List Fu) (m : Int) (w : World) (hs : Sl w 5 v ps.length (fus ps)) (hm : ∀ p ∈ ps, p.n.size ≤ maxLen) :
    Calls Tryz.prog 18 #[v, .int .i64 m] w (RetNm w (bfL ps m) (bfB ps m)) := by
  obtain ⟨i0, hi, hz0, hz1, hz2⟩ := info_parts info_stringB
  have HA := Lib.hid (AreFuels_any v ps _ hs hm)
  have HL := Lib.hid fun (h : bfB ps m = false) => bf_no h
  have HY := Lib.hid fun (h : bfB ps m = true) => bf_yes h
  have HV : Hid (areB ps = true → ps.length ≤ 8 ∧ ∀ (k : Nat) (i r l o : Int) (n : ByteArray), ps[k]? = some ⟨i, n, r, l, o⟩ → (1 ≤ r ∧ r ≤ 1000) ∧ (10 ≤ l ∧ l ≤ 400) ∧ 1 ≤ n.size ∧ n.size ≤ 10) := fun h => ⟨(are_facts h).1, fun k i r l o n hx => are_at h hx⟩
  obtain ⟨A, c, rfl⟩ := hs.val
  have hBd : bfB ps m = (areB ps && inB m 0 400) := rfl
  generalize hBf : bfB ps m = B at *
  clear hBf
  cases hA : areB ps with
  | false =>
    rw [hA] at HA hBd
    obtain rfl : B = false := by rw [hBd]; rfl
    rw [HL.out rfl]
    clear HL HY HV hs hm hA hBd
    go_enter Tryz.func18, Tryz.ntmps18
    go_wp2_with fail
    with_reducible refine HA.out.mono ?_
    rintro e w1 ⟨rfl, hb1⟩
    have hb2 := Lib.hid hb1
    clear hb1 HA
    go_wp2
    exact bodyPost_ret (v := .tuple #[.slice none 0 0, .bool false]) (by simp [results, Tryz.results18, go_sem]) rfl ⟨_, rfl, own_nil _ _ _ _, hb2.out⟩
  | true =>
    rw [hA] at HA hBd
    cases hM : inB m 0 400 with
    | false =>
      rw [hM] at hBd
      obtain rfl : B = false := by rw [hBd]; rfl
      rw [HL.out rfl]
      clear HL HY HV hs hm hA hBd
      go_enter Tryz.func18, Tryz.ntmps18
      go_wp2_with fail
      with_reducible refine HA.out.mono ?_
      rintro e w1 ⟨rfl, hb1⟩
      have hb2 := Lib.hid hb1
      clear hb1 HA
      go_wp2_with (go_at_call 48; refine (isMoisture_any _ _).mono ?_; rintro e w' ⟨rfl, rfl⟩; rw [hM])
      exact bodyPost_ret (v := .tuple #[.slice none 0 0, .bool false]) (by simp [results, Tryz.results18, go_sem]) rfl ⟨_, rfl, own_nil _ _ _ _, hb2.out⟩
    | true =>
      rw [hM] at hBd
      obtain rfl : B = true := by rw [hBd]; rfl
      rw [HY.out rfl]
      obtain ⟨h8, hv⟩ := HV.out hA
      have HV2 := Lib.hid hv
      obtain ⟨m1, m2⟩ := inB_iff.1 hM
      clear HL HY HV hm hA hBd hv
      have HSt := Lib.hid fun (k : Nat) (i r l o : Int) (n : ByteArray) (hx : ps[k]? = some ⟨i, n, r, l, o⟩) (h : 0 < speedN r l m 0) => bnL_yes hx h
      have HSn := Lib.hid fun (k : Nat) (i r l o : Int) (n : ByteArray) (hx : ps[k]? = some ⟨i, n, r, l, o⟩) (h : ¬ 0 < speedN r l m 0) => bnL_no hx h
      have HLe := Lib.hid (bnL_le ps m)
      generalize hN : ps.length = N at *
      have HN := Lib.hid hN
      have Hs := Lib.hid hs
      clear hN hs
      go_enter Tryz.func18, Tryz.ntmps18
      go_wp2_with fail
      with_reducible refine HA.out.mono ?_
      rintro e w1 ⟨rfl, hb1⟩
      have hb2 := Lib.hid (grow_trans hb1 (grow_alloc w1 (.cells #[] 9)))
      have ho1 : Hid ((w1.alloc (.cells #[] 9)).ownsRow w.heap.size 9 1 (.slice (some ⟨w1.heap.size, 0, none⟩) 0 0) 0 []) := by
        have := World.ownsRow_lit (base := w.heap.size) (e := 9) (size := 1) w1 #[] 0 hb1.size (by unfold maxLen; omega) rfl
        show World.ownsRow _ _ _ _ _ _ _
        simpa using this
      clear hb1 HA
      go_wp2_with (go_at_call 48; refine (isMoisture_any _ _).mono ?_; rintro e w' ⟨rfl, rfl⟩; rw [hM])
      go_loopw [6, 20] (fun q i wr => ∃ k : Nat, k ≤ N ∧ i = .int .i64 k ∧ (∃ A c, q = .slice (some A) (bnL ps m k).length c) ∧ Hid (Below w.heap.size w wr) ∧ Hid (wr.ownsRow w.heap.size 9 1 q (bnL ps m k).length (nms (bnL ps m k)))) (fun _ i _ => N - (intOf i).toNat)
      case atStart => exact ⟨0, Nat.zero_le _, rfl, ⟨_, _, rfl⟩, hb2.out, ho1.out⟩
      case round =>
        obtain ⟨k, hk, rfl, ⟨A2, c2, rfl⟩, hb, ho⟩ := hrel
        clear ho1 hb2
        have hll := HLe.out k
        have hsz := hb.out.size
        by_cases hlt : k < N
        case neg =>
          obtain rfl : k = N := by omega
          rcases ho.out.2 with ⟨h0, _⟩ | ⟨g, cap, cur, hv, hbase, hbk, h1, h2, h3, h4⟩
          · cases h0
          injection hv with e1 _ e2
          injection e1 with e1
          subst e1 e2
          have hH : Holds encStr wr g 0 (bnL ps m k).toArray := holds_of_block hbk (by rw [Nat.mul_one] at h4; exact h4)
          have HS := Lib.hid (Tryz.slices_Sort_string g 0 c2 (bnL ps m k) wr hH (Array.getElem?_eq_some_iff.1 hbk).1 (by omega))
          have HE := Lib.hid fun a os => sort_end (a := a) (os := os) hbase hbk h1 h2 h3 hb.out
          have hle2 := srtL_length (bnL ps m k)
          clear ho hH hbk h1 h2 h3 h4 hb
          generalize bnL ps m k = ls at *
          go_wp2_with fail
          refine HS.out.mono ?_
          rintro e w2 ⟨rfl, a, os, rfl⟩
          obtain ⟨hz, hy⟩ := HE.out a os
          clear HE HS
          generalize grow _ os = wz at *
          have hz := Lib.hid hz
          have hy := Lib.hid hy
          go_wp2
          exact bodyPost_ret (v := .tuple #[.slice (some ⟨g, 0, none⟩) ls.length c2, .bool true]) (by simp [results, Tryz.results18, go_sem]) rfl ⟨_, rfl, hz.out, hy.out⟩
        case pos =>
          obtain ⟨fb, off, i, n, r, l, o, rfl, hx, c0, c1, c2', c3, c4⟩ := (Hs.out.below hb.out).fu HN.out hlt
          obtain ⟨⟨r1, r2⟩, ⟨l1, l2⟩, n1, n2⟩ := HV2.out k i r l o n hx
          have h0 := speed_nonneg (m := m) r1 l1
          have HY := Lib.hid (HSt.out k i r l o n hx)
          have HZ := Lib.hid (HSn.out k i r l o n hx)
          have hbn := grow_alloc wr (.cells #[.int .i64 i, .string n, .int .i64 r, .int .i64 l, .int .i64 o] 25)
          have HC := Lib.hid (speed_any i n r l o m 0 (wr.alloc (.cells #[.int .i64 i, .string n, .int .i64 r, .int .i64 l, .int .i64 o] 25)) r1 r2 l1 l2 m1 m2 (by omega) (by omega))
          have hb3 := Lib.hid (grow_trans hb.out hbn)
          have ho3 := Lib.hid (own_below ho.out hbn)
          have hcx : Hid ((wr.alloc (.cells #[.int .i64 i, .string n, .int .i64 r, .int .i64 l, .int .i64 o] 25)).cell? ⟨wr.heap.size, 1, none⟩ = some (.string n)) := by show _ = _; simp [go_sem]
          clear hx hbn ho hb
          generalize speedN r l m 0 = sp at *
          by_cases hsp : 0 < sp
          case neg =>
            have hst := Lib.hid (HZ.out (by omega))
            have d0 : decide (0 < sp) = false := decide_eq_false hsp
            clear HY HZ
            go_wp2_with fail
            refine HC.out.mono ?_
            rintro e w2 ⟨rfl, hb1⟩
            have hb2 := Lib.hid (grow_trans hb3.out hb1)
            have ho2 := Lib.hid (own_below ho3.out hb1)
            clear hb1 HC c0 c1 c2' c3 c4 hcx hb3 ho3
            go_wp2
            go_roundw
            case rel => exact ⟨k + 1, by omega, by go_num, by rw [hst.out]; exact ⟨_, _, rfl⟩, hb2.out, by show World.ownsRow _ _ _ _ _ _ _; rw [hst.out]; exact ho2.out⟩
            case measure => simp [intOf]; omega
          case pos =>
            have hst := Lib.hid (HY.out hsp)
            have d0 : decide (0 < sp) = true := decide_eq_true hsp
            clear HY HZ
            go_wp2_with fail
            refine HC.out.mono ?_
            rintro e w2 ⟨rfl, hb1⟩
            have hb2 := Lib.hid (grow_trans hb3.out hb1)
            have ho2 := Lib.hid (own_below ho3.out hb1)
            have hc1 := cell_below0 hcx.out hb1
            have hsz2 := hb2.out.size
            have hn1 : (nms (bnL ps m k)).length = (bnL ps m k).length := by simp [nms]
            clear hb1 HC c0 c1 c2' c3 c4 hcx hb3 ho3
            obtain ⟨ls, hls⟩ : ∃ ls, bnL ps m k = ls := ⟨_, rfl⟩
            rw [hls] at ho2 hst hll hn1 ⊢
            clear hls
            go_wp2_with ((at_builtin; refine wpList_append_own _ rfl _ _ 42 rfl w.heap.size 9 i0 (.string ⟨#[]⟩) 1 16 Tryz.underlying42 hi hz0 hz1 hz2 rfl (by decide) _ _ _ rfl (ho2.out.alloc _) ⟨w2.heap.size, 0, none⟩ 1 1 [.string n] rfl rfl ?c1 ?c2 ?c3 ?c4 ?c5 ?_))
            case c1 =>
              intro j u hj
              match j, hj with
              | 0, hj => simp at hj; subst hj; simp [Addr.add]
            case c2 => intro u hu; simp at hu; subst hu; rfl
            case c3 => unfold maxLen; omega
            case c4 => omega
            case c5 => simp; omega
            intro v' wz hown' hgrow hnil
            have hb4 := Lib.hid (grow_put ho2.out hb2.out hsz2 hgrow)
            have ho4 := Lib.hid (own_names hst.out hown')
            have hsh : ∃ A c, v' = .slice (some A) (ls.length + 1) c := by
              rcases hown'.2 with ⟨h0, h1⟩ | ⟨g, cap, cur, hv, _⟩
              · omega
              · exact ⟨_, _, hv⟩
            clear hown' hgrow hnil
            have hl2 : (bnL ps m (k + 1)).length = ls.length + 1 := by rw [hst.out]; simp
            go_wp2
            go_roundw
            case rel => exact ⟨k + 1, by omega, by go_num, by rw [hl2]; exact hsh, hb4.out, ho4.out⟩
            case measure => simp [intOf]; omega
end Go.Proofs.YtnadeddkogapoaaGreatDoor
