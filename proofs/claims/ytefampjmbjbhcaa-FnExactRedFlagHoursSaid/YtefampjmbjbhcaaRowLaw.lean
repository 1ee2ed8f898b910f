/- Slices of slices of numbers, compared and marked. Conditions: as each states. -/
import Derived.Test.YtefampjmbjbhcaaRowO
import Derived.StillTailTactics
namespace Go.Proofs.Ytefampjmbjbhcaa
open Go.ChangeShapes Go.WideShapes Go.ChangeAt Go.RowKit Go.Deep
set_option linter.unusedVariables false
set_option linter.unusedSimpArgs false
set_option maxRecDepth 100000

/-- How many numbers the first rows hold. -/
def tot (xss : List (List Int)) (k : Nat) : Nat := ((xss.take k).map List.length).sum
theorem tot_succ {xss : List (List Int)} {k : Nat} {l : List Int} (h : xss[k]? = some l) : tot xss (k + 1) = tot xss k + l.length := by
  obtain ⟨hk, rfl⟩ := List.getElem?_eq_some_iff.1 h
  unfold tot
  rw [List.take_succ_eq_append_getElem hk, List.map_append, List.sum_append]; simp
theorem tot_mono (xss : List (List Int)) (k : Nat) : tot xss k ≤ tot xss xss.length := by
  unfold tot
  rw [List.take_length]
  conv => rhs; rw [← List.take_append_drop k xss]
  rw [List.map_append, List.sum_append]; omega
/-- The rows with marks from a number on. -/
def mrk (m : Int) (xss : List (List Int)) : List (List Int) := (List.range xss.length).map fun i => marks (m + tot xss i) (xss.getD i []).length
theorem mrk_length (m : Int) (xss : List (List Int)) : (mrk m xss).length = xss.length := by simp [mrk]
theorem mrk_at {m : Int} {xss : List (List Int)} {k : Nat} {l : List Int} (h : xss[k]? = some l) : (mrk m xss)[k]? = some (marks (m + tot xss k) l.length) := by
  obtain ⟨hk, rfl⟩ := List.getElem?_eq_some_iff.1 h
  simp [mrk, hk]
theorem mrk_step {m : Int} {xss : List (List Int)} {k : Nat} {l : List Int} (h : xss[k]? = some l) : ((mrk m xss).take k ++ xss.drop k).set k (marks (m + tot xss k) l.length) = (mrk m xss).take (k + 1) ++ xss.drop (k + 1) := by
  obtain ⟨hk, e⟩ := List.getElem?_eq_some_iff.1 h
  have h2 := mrk_at (m := m) h
  obtain ⟨hk2, e2⟩ := List.getElem?_eq_some_iff.1 h2
  rw [List.set_append_right _ _ (by rw [List.length_take]; omega), List.length_take, Nat.min_eq_left (by omega), Nat.sub_self, List.drop_eq_getElem_cons hk, List.set_cons_zero, List.take_succ_eq_append_getElem hk2, e2]
  simp
theorem mrk_mid {m : Int} {xss : List (List Int)} {k : Nat} {l : List Int} (h : xss[k]? = some l) : ((mrk m xss).take k ++ xss.drop k)[k]? = some l := by
  obtain ⟨hk, e⟩ := List.getElem?_eq_some_iff.1 h
  rw [List.getElem?_append_right (by rw [List.length_take]; omega), List.length_take, mrk_length, Nat.min_eq_left (by omega), Nat.sub_self, List.getElem?_drop, Nat.add_zero, h]
set_option maxHeartbeats 2000000 in
theorem eqIntSS_any (u v : Value) (us vs : List Value) (xss : List (List Int)) (w : World) (hu : SlR w u us xss) (hv : SlR w v vs xss) :
    Calls Try.prog 35 #[u, v] w fun e w' => e = .returned (.bool true) ∧ Below w.heap.size w w' := by
  have hmx := hu.outer.len
  unfold maxLen at hmx
  have HU := Lib.hid hu
  have HV := Lib.hid hv
  obtain ⟨A, c, rfl⟩ := hu.outer.val
  obtain ⟨A', c', rfl⟩ := hv.outer.val
  have hlu := hu.len
  have hlv := hv.len
  generalize hN : xss.length = N at *
  have HN := Lib.hid hN
  have HLU := Lib.hid hlu
  have HLV := Lib.hid hlv
  rw [hlu] at hmx
  clear hu hv
  rw [hlu] at HU
  rw [hlv] at HV
  rw [hlu, hlv]
  clear hN hlu hlv
  go_enter Try.func35, Try.ntmps35
  go_wp2
  go_loopw [5] (fun i wr => ∃ k : Nat, k ≤ N ∧ i = .int .i64 k ∧ Hid (Below w.heap.size w wr)) (fun i _ => N - (intOf i).toNat)
  case atStart => exact ⟨0, Nat.zero_le _, rfl, Below.refl _ _⟩
  case round =>
    obtain ⟨k, hk, rfl, hb⟩ := hrel
    by_cases hlt : k < N
    · have hul := (HU.out.below hb.out).outer
      have hvl := (HV.out.below hb.out).outer
      rw [HLU.out] at hul
      rw [HLV.out] at hvl
      obtain ⟨b, off, z, rfl, hz, hcell⟩ := hul.at1 HLU.out hlt
      obtain ⟨b', off', z', rfl, hz', hcell'⟩ := hvl.at1 HLV.out hlt
      simp only [id] at hcell hcell'
      obtain ⟨l, hl⟩ : ∃ l, xss[k]? = some l := ⟨_, List.getElem?_eq_getElem (by have := HN.out; omega)⟩
      have HC := Lib.hid (eqIntS_any z z' l wr.drew (((HU.out.row k z l hz hl).below hb.out).below (grow_drew wr)) (((HV.out.row k z' l hz' hl).below hb.out).below (grow_drew wr)))
      have hlz : (k : Int) < (N : Int) := by omega
      have hbd := Lib.hid hb.out.drew
      clear hz hz' hl hul hvl hb
      go_wp2_with fail
      go_still_tail 8, (by kernel_rfl)
      change wpList _ _ _ _ _ wr.drew
      clear hcell hcell'
      generalize wr.drew = wd at *
      go_wp2_with fail
      with_reducible refine HC.out.mono ?_
      rintro e w4 ⟨rfl, hb4⟩
      have hb4 := Lib.hid (grow_trans hbd.out hb4)
      go_wp2
      go_roundw
      case rel => exact ⟨k + 1, by omega, by go_num, hb4.out⟩
      case measure => simp [intOf]; omega
    · go_wp2
      go_ret
      exact ⟨rfl, hb.out⟩
/-- A call hands back a number and marks its argument's rows. -/
def RetMarks (w : World) (B : Nat) (v : Value) (vs : List Value) (xss : List (List Int)) (n : Int) (e : Ending) (w' : World) : Prop :=
  e = .returned (.int .i64 n) ∧ RowsV w' B v vs xss ∧ Below B w w'
set_option maxHeartbeats 2000000 in
theorem markIntSS_any (v : Value) (vs : List Value) (xss : List (List Int)) (m : Int) (B : Nat) (w : World) (h : RowsV w B v vs xss) (hB : B ≤ w.heap.size) (h1 : 0 ≤ m) (h2 : m ≤ 1048576) (hn : xss.length ≤ 1048576) (ht : tot xss xss.length ≤ 1048576) :
    Calls Try.prog 38 #[v, .int .i64 m] w (RetMarks w B v vs (mrk m xss) (m + tot xss xss.length)) := by
  have Htm := Lib.hid fun k => Nat.le_trans (tot_mono xss k) ht
  have HV0 : Hid (RowsV w B v vs ((mrk m xss).take 0 ++ xss.drop 0)) := by show RowsV _ _ _ _ _; simpa using h
  obtain ⟨A, c, rfl⟩ := h.sl.outer.val
  have hlv := h.len
  have HLV := Lib.hid hlv
  clear h
  rw [hlv] at HV0 ⊢
  clear hlv
  generalize hN : xss.length = N at *
  have HN := Lib.hid hN
  clear hN
  go_enter Try.func38, Try.ntmps38
  go_wp2
  go_loopw [1, 5] (fun q i wr => ∃ k : Nat, k ≤ N ∧ i = .int .i64 k ∧ q = .int .i64 (m + tot xss k) ∧ B ≤ wr.heap.size ∧ Hid (Below B w wr) ∧ Hid (RowsV wr B (.slice A N c) vs ((mrk m xss).take k ++ xss.drop k))) (fun _ i _ => N - (intOf i).toNat)
  case atStart => exact ⟨0, Nat.zero_le _, rfl, by simp [tot], hB, Below.refl _ _, HV0.out⟩
  case round =>
    obtain ⟨k, hk, rfl, rfl, hsz, hb, hR⟩ := hrel
    by_cases hlt : k < N
    · have hvl := hR.out.sl.outer
      rw [HLV.out] at hvl
      obtain ⟨b, off, z, rfl, hz, hcell⟩ := hvl.at1 HLV.out hlt
      simp only [id] at hcell
      obtain ⟨l, hl⟩ : ∃ l, xss[k]? = some l := ⟨_, List.getElem?_eq_getElem (by have := HN.out; omega)⟩
      have Hts := Lib.hid (tot_succ hl)
      have hmid := mrk_mid (m := m) hl
      have hstep := Lib.hid (mrk_step (m := m) hl)
      have hbk := Htm.out k
      have hbk1 := Htm.out (k + 1)
      have hll : l.length ≤ 1048576 := by have := Hts.out; omega
      have HC := Lib.hid (markIntS_any z (m + tot xss k) l.length B _ wr (hR.out.row k z l hz hmid) (by omega) (by omega) (by omega))
      have Hset := Lib.hid fun w' hn hg => hR.out.set (w' := w') (l' := marks (m + tot xss k) l.length) hz hmid hn hg
      have hrl := Lib.hid fun j hj => ((hR.out.row k z l hz hmid).lt j hj).1
      clear hvl hz hl hmid hR
      generalize hT1 : tot xss (k + 1) = t1 at *
      have HT1 := Lib.hid hT1
      clear hT1
      generalize tot xss k = t0 at *
      go_wp2_with fail
      with_reducible refine HC.out.mono ?_
      intro e w4 hm
      unfold RetMark at hm
      obtain ⟨rfl, om, hg⟩ := hm
      have hb4 := Lib.hid (hb.out.grown hg hsz (fun j hj => hrl.out j hj))
      have hs4 := hg.size
      have hR4 := Lib.hid (Hset.out w4 (by rw [marks_length]; exact om) hg)
      clear om hg Hset HC
      go_wp2
      go_roundw
      case rel => exact ⟨k + 1, by omega, by go_num, by rw [HT1.out, Hts.out]; simp; omega, by omega, hb4.out, by show RowsV _ _ _ _ _; rw [← hstep.out]; exact hR4.out⟩
      case measure => simp [intOf]; omega
    · obtain rfl : k = N := by omega
      have hfin : Hid ((mrk m xss).take k ++ xss.drop k = mrk m xss) := by
        show _ = _
        rw [List.take_of_length_le (by rw [mrk_length]; have := HN.out; omega), List.drop_eq_nil_of_le (by have := HN.out; omega), List.append_nil]
      rw [hfin.out] at hR
      clear hfin
      go_wp2
      go_ret
      exact ⟨rfl, hR.out, hb.out⟩
set_option maxHeartbeats 2000000 in
theorem heldIntSS_any (v : Value) (vs : List Value) (xss : List (List Int)) (m : Int) (w : World) (h : SlR w v vs (mrk m xss)) (h1 : 0 ≤ m) (h2 : m ≤ 1048576) (hn : xss.length ≤ 1048576) (ht : tot xss xss.length ≤ 1048576) :
    Calls Try.prog 39 #[v, .int .i64 m] w fun e w' => e = .returned (.int .i64 (m + tot xss xss.length)) ∧ w = w' := by
  have Htm := Lib.hid fun k => Nat.le_trans (tot_mono xss k) ht
  have HS := Lib.hid h
  obtain ⟨A, c, rfl⟩ := h.outer.val
  have hlv : vs.length = xss.length := by rw [h.len, mrk_length]
  have HLV := Lib.hid hlv
  clear h
  rw [hlv] at HS ⊢
  clear hlv
  generalize hN : xss.length = N at *
  have HN := Lib.hid hN
  clear hN
  go_enter Try.func39, Try.ntmps39
  go_wp2
  go_loop [1, 5] (fun q i => ∃ k : Nat, k ≤ N ∧ i = .int .i64 k ∧ q = .int .i64 (m + tot xss k)) (fun _ i => N - (intOf i).toNat)
  case atStart => exact ⟨0, Nat.zero_le _, rfl, by simp [tot]⟩
  case round =>
    obtain ⟨k, hk, rfl, rfl⟩ := hrel
    by_cases hlt : k < N
    · have hvl := HS.out.outer
      rw [HLV.out] at hvl
      obtain ⟨b, off, z, rfl, hz, hcell⟩ := hvl.at1 HLV.out hlt
      simp only [id] at hcell
      obtain ⟨l, hl⟩ : ∃ l, xss[k]? = some l := ⟨_, List.getElem?_eq_getElem (by have := HN.out; omega)⟩
      have Hts := Lib.hid (tot_succ hl)
      have hbk := Htm.out k
      have hbk1 := Htm.out (k + 1)
      have hll : l.length ≤ 1048576 := by have := Hts.out; omega
      have hrow := HS.out.row k z _ hz (mrk_at hl)
      rw [marks_length] at hrow
      have HC := Lib.hid (heldIntS_any z (m + tot xss k) l.length w hrow (by omega) (by omega) (by omega))
      clear hvl hz hl hrow
      generalize hT1 : tot xss (k + 1) = t1 at *
      have HT1 := Lib.hid hT1
      clear hT1
      generalize tot xss k = t0 at *
      go_wp2_with fail
      with_reducible refine HC.out.mono ?_
      rintro e w4 ⟨rfl, rfl⟩
      go_wp2
      go_round
      case rel => exact ⟨k + 1, by omega, by go_num, by rw [HT1.out, Hts.out]; simp; omega⟩
      case measure => simp [intOf]; omega
    · obtain rfl : k = N := by omega
      go_wp2
      go_ret
      exact ⟨rfl, rfl⟩
end Go.Proofs.Ytefampjmbjbhcaa
