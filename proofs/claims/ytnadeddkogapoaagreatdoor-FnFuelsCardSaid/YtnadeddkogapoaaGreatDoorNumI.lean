/- The numbers at some words, in the program. Conditions: as each states. -/
import Derived.Test.YtnadeddkogapoaaGreatDoorLow
import Derived.Test.YtnadeddkogapoaaGreatDoorWords
namespace Go.Proofs.YtnadeddkogapoaaGreatDoor
open Go.ChangeShapes Go.WideShapes Go.ChangeAt Go.RowKit Go.Deep
set_option linter.unusedVariables false
set_option linter.unusedSimpArgs false
set_option maxRecDepth 100000

/-- The number of a word at a place, or zero. -/
noncomputable def nmW (ws : List ByteArray) (p : Nat) : Int := rdN (ws.getD p ⟨#[]⟩)
theorem piR_nil : piR ⟨#[]⟩ = .tuple #[.int .i64 0, .bool false] := tail_long (s := ⟨#[]⟩) (T := ⟨#[]⟩) (tail_small (by decide)) (by decide)
theorem rdN_nil : rdN ⟨#[]⟩ = 0 := by
  obtain ⟨b, h⟩ := piR_rd ⟨#[]⟩
  rw [piR_nil] at h
  simp at h
  exact h.1.symm
theorem nmW_no {ws : List ByteArray} {p : Nat} (h : ws.length ≤ p) : nmW ws p = 0 := by
  unfold nmW
  rw [List.getD_eq_getElem?_getD, List.getElem?_eq_none h]; exact rdN_nil
theorem nmW_at {ws : List ByteArray} {p : Nat} {x : ByteArray} (h : ws[p]? = some x) : nmW ws p = rdN x := by
  unfold nmW
  rw [List.getD_eq_getElem?_getD, h]; rfl
/-- The numbers at the first places. -/
noncomputable def nmT (ws : List ByteArray) (ps : List Nat) (k : Nat) : List Int := (ps.take k).map (nmW ws)
theorem nm_succ {ws : List ByteArray} {ps : List Nat} {k p : Nat} (h : ps[k]? = some p) : nmT ws ps (k + 1) = nmT ws ps k ++ [nmW ws p] := by
  obtain ⟨hk, rfl⟩ := List.getElem?_eq_some_iff.1 h
  unfold nmT
  rw [List.take_succ_eq_append_getElem hk, List.map_append]; rfl
theorem nm_len (ws : List ByteArray) (ps : List Nat) (k : Nat) : (nmT ws ps k).length ≤ k := by unfold nmT; simp; omega
/-- Places, as numbers. -/
def plc (ps : List Nat) : List Int := ps.map fun p : Nat => (p : Int)
theorem plc_at {ps : List Nat} {k : Nat} {z : Int} (h : (plc ps)[k]? = some z) : ∃ p, ps[k]? = some p ∧ z = p := by
  unfold plc at h
  rw [List.getElem?_map, Option.map_eq_some_iff] at h
  obtain ⟨p, h, rfl⟩ := h
  exact ⟨p, h, rfl⟩
set_option maxHeartbeats 4000000 in
theorem numbersIn_any (u v : Value) (ws : List ByteArray) (ps : List Nat) (w : World) (hu : Sl w 1 u ws.length (strs ws)) (hv : Sl w 1 v ps.length (ints (plc ps))) (hz : ∀ p ∈ ws, p.size ≤ 1048576) (hn : ps.length ≤ 1000) (hp : ∀ p ∈ ps, p ≤ 1000)
    (ht : Lib.TabIs Tryz.prog w "internal/strconv.uint64pow10" .u64 Lib.pow10Tab) (hy : SynIs w) :
    Calls Tryz.prog 34 #[u, v] w (RetOwn w 3 1 (ps.map (nmW ws)).length (ints (ps.map (nmW ws)))) := by
  have hmx := hu.len
  unfold maxLen at hmx
  obtain ⟨A, c, rfl⟩ := hv.val
  obtain ⟨A2, c2, rfl⟩ := hu.val
  obtain ⟨i0, hi, hz0, hz1, hz2⟩ := info_parts info_int
  have Hv := Lib.hid hv
  have Hu := Lib.hid hu
  have HP := Lib.hid hp
  have HI := Lib.hid fun W (hW : Below w.heap.size w W) (s : ByteArray) (hs : s ∈ ws) => ParseInt_any s W (hz s hs) (tab_below gPow ht hW) (syn_below hy hW)
  clear hv hu ht hy hz hp
  generalize hN : ps.length = N at *
  have HN : Hid ((plc ps).length = N) := by show _ = _; unfold plc; rw [List.length_map, hN]
  have HN2 := Lib.hid hN
  clear hN
  have ho0 : Hid ((w.alloc (.cells #[] 3)).ownsRow w.heap.size 3 1 (.slice (some ⟨w.heap.size, 0, none⟩) 0 0) 0 []) := by
    show World.ownsRow _ _ _ _ _ _ _
    have := World.ownsRow_lit (base := w.heap.size) (e := 3) (size := 1) w #[] 0 (Nat.le_refl _) (by unfold maxLen; omega) rfl
    simpa using this
  go_enter Tryz.func34, Tryz.ntmps34
  go_wp2
  go_loopw [5, 12] (fun v i wr => ∃ k : Nat, k ≤ N ∧ i = .int .i64 k ∧ Hid (Below w.heap.size w wr) ∧ Hid (wr.ownsRow w.heap.size 3 1 v (nmT ws ps k).length (ints (nmT ws ps k)))) (fun _ i _ => N - (intOf i).toNat)
  case atStart => exact ⟨0, Nat.zero_le _, rfl, grow_alloc _ _, ho0⟩
  case round =>
    obtain ⟨k, hk, rfl, hb, ho⟩ := hrel
    by_cases hlt : k < N
    · obtain ⟨b, off, z, rfl, hz, hcell⟩ := (Hv.out.below hb.out).at1 HN.out hlt
      obtain ⟨p, hpk, rfl⟩ := plc_at hz
      have hp1 := HP.out p (List.mem_of_getElem? hpk)
      have hsz := hb.out.size
      have hle := nm_len ws ps k
      have Hpk := Lib.hid hpk
      clear hpk hz
      by_cases hpl : p < ws.length
      · obtain ⟨b2, off2, x, rfl, hx, hcell2⟩ := (Hu.out.below hb.out).at1 rfl hpl
        have HC := HI.out wr hb.out x (List.mem_of_getElem? hx)
        obtain ⟨bb, hbb⟩ := piR_rd x
        rw [hbb] at HC
        have HC := Lib.hid HC
        have Hnm := Lib.hid (nmW_at hx)
        clear hx hbb
        generalize rdN x = n at *
        go_wp2_with fail
        refine HC.out.mono ?_
        rintro e w1 ⟨rfl, hb1⟩
        have hsz1 := hb1.size
        go_wp2_with ((at_builtin; refine wpList_append_own _ rfl _ _ 57 rfl w.heap.size 3 i0 (.int .i64 0) 1 8 Tryz.underlying57 hi hz0 hz1 hz2 rfl (by decide) _ _ _ rfl ((own_below ho.out hb1).alloc _) ⟨w1.heap.size, 0, none⟩ 1 1 [.int .i64 n] rfl rfl ?c1 ?c2 ?c3 ?c4 ?c5 ?_))
        case c1 =>
          intro j u hj
          match j, hj with
          | 0, hj => simp at hj; subst hj; simp [Addr.add]
        case c2 => intro u hu; simp at hu; subst hu; rfl
        case c3 => unfold maxLen; omega
        case c4 => omega
        case c5 => simp; omega
        intro v' w2 hown' hgrow _
        have hb2 := Lib.hid (grow_put (own_below ho.out hb1) (grow_trans hb.out hb1) (by omega) hgrow)
        have ho2 := Lib.hid (own_add (ys := nmT ws ps (k + 1)) (by rw [nm_succ Hpk.out, Hnm.out]) hown')
        clear hown' hgrow
        go_wp2
        go_roundw
        case rel => exact ⟨k + 1, by omega, by go_num, hb2.out, ho2.out⟩
        case measure => simp [intOf]; omega
      · have Hnm := Lib.hid (nmW_no (ws := ws) (p := p) (by omega))
        go_wp2_with ((at_builtin; refine wpList_append_own _ rfl _ _ 57 rfl w.heap.size 3 i0 (.int .i64 0) 1 8 Tryz.underlying57 hi hz0 hz1 hz2 rfl (by decide) _ _ _ rfl (ho.out.alloc _) ⟨wr.heap.size, 0, none⟩ 1 1 [.int .i64 0] rfl rfl ?c1 ?c2 ?c3 ?c4 ?c5 ?_))
        case c1 =>
          intro j u hj
          match j, hj with
          | 0, hj => simp at hj; subst hj; simp [Addr.add]
        case c2 => intro u hu; simp at hu; subst hu; rfl
        case c3 => unfold maxLen; omega
        case c4 => omega
        case c5 => simp; omega
        intro v' w2 hown' hgrow _
        have hb2 := Lib.hid (grow_put ho.out hb.out (by omega) hgrow)
        have ho2 := Lib.hid (own_add (ys := nmT ws ps (k + 1)) (by rw [nm_succ Hpk.out, Hnm.out]) hown')
        clear hown' hgrow
        go_wp2
        go_roundw
        case rel => exact ⟨k + 1, by omega, by go_num, hb2.out, ho2.out⟩
        case measure => simp [intOf]; omega
    · obtain rfl : k = N := by omega
      have hall : nmT ws ps k = ps.map (nmW ws) := by unfold nmT; rw [List.take_of_length_le (by have := HN2.out; omega)]
      have Ho := ho
      rw [hall] at Ho
      clear ho hall
      go_wp2
      go_ret
      exact ⟨_, rfl, Ho.out, hb.out⟩
end Go.Proofs.YtnadeddkogapoaaGreatDoor
