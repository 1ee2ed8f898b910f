/- Lists of fuels that are drawn. Conditions: as each states. -/
import Derived.Test.YtnadeddkogapoaaGreatDoorDrF
import Derived.Test.YtnadeddkogapoaaGreatDoorAddG
import Derived.Test.YtnadeddkogapoaaGreatDoorLow
namespace Go.Proofs.YtnadeddkogapoaaGreatDoor
open Go.ChangeShapes Go.WideShapes Go.ChangeAt Go.RowKit Go.Deep
set_option linter.unusedVariables false
set_option linter.unusedSimpArgs false
set_option maxRecDepth 100000

/-- The state of a draw of fuels: the reader, the list so far. -/
structure Fl (w wr : World) (C m : Nat) (v : Value) (l : List Fu) : Prop where
  hc : Cur wr C m
  hg : w.grownBy wr (some C)
  hq : Qw wr w.heap.size 25 5 v l.length (fus l)
  hl : ∀ p ∈ l, p.n.size ≤ 20
  hC : C < w.heap.size
theorem Fl.below {w wr wr' : World} {C m : Nat} {v : Value} {l : List Fu} (h : Fl w wr C m v l) (hb : Below wr.heap.size wr wr') : Fl w wr' C m v l :=
  ⟨h.hc.below hb, grownBy_trans h.hg (grownBy_of_below hb), h.hq.below hb, h.hl, h.hC⟩
theorem Fl.curs {w wr wr' : World} {C m m' : Nat} {v : Value} {l : List Fu} (h : Fl w wr C m v l) (hc : Cur wr' C m') (hg : wr.grownBy wr' (some C)) : Fl w wr' C m' v l :=
  ⟨hc, grownBy_trans h.hg hg, h.hq.kept hg (fun j hj e => by have := (h.hq.lt j hj).1; have := h.hC; injection e with e; omega), h.hl, h.hC⟩
theorem Fl.up {w wr : World} {C m m' : Nat} {v : Value} {l : List Fu} (h : Fl w wr C m v l) (hm : m ≤ m') : Fl w wr C m' v l := ⟨h.hc.up hm, h.hg, h.hq, h.hl, h.hC⟩
theorem Fl.other {w wr wr' : World} {C m : Nat} {v v' : Value} {l l' : List Fu} (h : Fl w wr C m v l) (hb : Below wr.heap.size wr wr') (hq : Qw wr' wr.heap.size 25 5 v' l'.length (fus l')) (hl : ∀ p ∈ l', p.n.size ≤ 20) : Fl w wr' C m v' l' :=
  ⟨h.hc.below hb, grownBy_trans h.hg (grownBy_of_below hb), hq.lower h.hg.size, hl, h.hC⟩
theorem grow_ownF {w W W' : World} {row r' : Option Nat} (h : w.grownBy W row) (hg : W.grownBy W' r') (hr : ∀ j, r' = some j → w.heap.size ≤ j) : w.grownBy W' row :=
  ⟨hg.os.trans h.os, hg.tape.trans h.tape, hg.output.trans h.output, Nat.le_trans h.size hg.size, fun i hi hn => (hg.block i (Nat.lt_of_lt_of_le hi h.size) (fun e => by have := hr i e.symm; omega)).trans (h.block i hi hn)⟩
theorem Fl.push {w wr wA : World} {C m : Nat} {v vA : Value} {l : List Fu} {p : Fu} (h : Fl w wr C m v l) (hq : Qw wA w.heap.size 25 5 vA (l.length + 1) (fus l ++ encU p)) (hg : wr.grownBy wA v.ownBlock) (hp : p.n.size ≤ 20) : Fl w wA C m vA (l ++ [p]) := by
  have hr : ∀ j, v.ownBlock = some j → w.heap.size ≤ j := fun j hj => (h.hq.lt j hj).1
  refine ⟨h.hc.kept hg (fun j hj => Nat.lt_of_lt_of_le h.hC (hr j hj)), grow_ownF h.hg hg hr, ?_, ?_, h.hC⟩
  · rw [fus_snoc, List.length_append]; exact hq
  · intro q hq
    rcases List.mem_append.1 hq with h1 | h1
    · exact h.hl q h1
    · obtain rfl := List.mem_singleton.1 h1; exact hp
theorem adL_short {l : List Fu} {x : Fu} (hm : ∀ p ∈ l, p.n.size ≤ 20) (hx : x.n.size ≤ 20) : ∀ p ∈ adR l x, p.n.size ≤ 20 := by
  intro p hp
  unfold adR at hp
  split at hp
  · unfold adL at hp
    rcases List.mem_append.1 hp with h | h
    · rcases List.mem_append.1 h with h | h
      · exact hm p (List.mem_of_mem_take h)
      · obtain rfl := List.mem_singleton.1 h; exact hx
    · exact hm p (List.mem_of_mem_drop h)
  · simp at hp
theorem adR_eight (l : List Fu) (x : Fu) : (adR l x).length ≤ 8 := by
  unfold adR
  split
  · rename_i h
    unfold adB at h
    simp only [Bool.and_eq_true] at h
    exact (are_facts h.2).1
  · simp
/-- A list of fuels drawn, handed back. -/
def RetL (w : World) (C m : Nat) (e : Ending) (w' : World) : Prop :=
  ∃ v l, e = .returned v ∧ Sl w' 5 v l.length (fus l) ∧ l.length ≤ 10 ∧ (∀ p ∈ l, p.n.size ≤ 20) ∧ (∀ q, v.ownBlock = some q → w.heap.size ≤ q) ∧ Cur w' C m ∧ w.grownBy w' (some C)
theorem Fl.ret {w wr : World} {C m m' : Nat} {v : Value} {l : List Fu} (h : Fl w wr C m v l) (hl : l.length ≤ 10) (hm : m ≤ m') : RetL w C m' (.returned v) wr :=
  ⟨v, l, rfl, Sl.of_q h.hq, hl, h.hl, fun q hq => (h.hq.lt q hq).1, h.hc.up hm, h.hg⟩
/-- A slice of one byte as a text. -/
theorem conv_byte1 (c8 : Nat) (hc : c8 ≤ 255) : ∃ nm : ByteArray, nm.size ≤ 20 ∧ ∀ W : World, (convert 22 9 (.slice (some ⟨W.heap.size, 0, none⟩) 1 1)).run Tryz.prog (W.alloc (.cells #[.int .u8 (c8 : Int)] 5)) = .ok (.string nm) (W.alloc (.cells #[.int .u8 (c8 : Int)] 5)) := by
  refine ⟨bs [UInt8.ofNat c8], by rw [bs_size]; simp, fun W => ?_⟩
  have ho : (W.alloc (.cells #[.int .u8 (c8 : Int)] 5)).ownsRow 0 5 1 (.slice (some ⟨W.heap.size, 0, none⟩) 1 1) 1 [.int .u8 (c8 : Int)] := by
    have := World.ownsRow_lit (base := 0) (e := 5) (size := 1) W #[.int .u8 (c8 : Int)] 1 (Nat.zero_le _) (by unfold maxLen; omega) rfl
    simpa using this
  have e : byts [UInt8.ofNat c8] = [.int .u8 (c8 : Int)] := by
    have : (UInt8.ofNat c8).toNat = c8 := by simp; omega
    simp [this]
  have hq : Qw (W.alloc (.cells #[.int .u8 (c8 : Int)] 5)) 0 5 1 (.slice (some ⟨W.heap.size, 0, none⟩) 1 1) [UInt8.ofNat c8].length (byts [UInt8.ofNat c8]) := by rw [e]; exact Qw.of_own ho
  exact conv_bytes Tryz.underlying22 Tryz.underlying5 Tryz.underlying9 (l := [UInt8.ofNat c8]) hq
set_option maxHeartbeats 16000000 in
theorem fuels_any (C m : Nat) (w : World) (h : Cur w C m) (hm : m ≤ 1099511620000) :
    Calls Tryz.prog 40 #[.pointer (some ⟨C, 0, none⟩)] w (RetL w C (m + 300)) := by
  obtain ⟨i0, hi, hz0, hz1, hz2⟩ := info_parts info_fuel
  have hlt := h.lt
  have hb0 := grow_alloc w (.cells #[] 25)
  have hF0 : Fl w (w.alloc (.cells #[] 25)) C m (.slice (some ⟨w.heap.size, 0, none⟩) 0 0) [] :=
    ⟨h.below hb0, grownBy_of_below hb0, Qw.emptyK (hp0 _ _) (Nat.le_refl _), fun p hp => by simp at hp, hlt⟩
  have hP := Lib.hid (pick_any C m 7 _ hF0.hc (by omega) (by omega))
  replace hF0 := Lib.hid hF0
  clear h hb0
  go_enter Tryz.func40, Tryz.ntmps40
  go_wp2_with fail
  refine hP.out.mono ?_
  rintro e w1 ⟨v, rfl, ⟨x, rfl, x0, x1⟩, hc, hg⟩
  replace hF0 := Lib.hid (hF0.out.curs hc hg)
  obtain ⟨x, rfl⟩ := Int.eq_ofNat_of_zero_le x0
  have x6 : x ≤ 6 := by omega
  clear hP hc hg x0 x1
  go_wp2
  go_loopw [3, 4] (fun v iv wr => ∃ l : List Fu, ∃ k : Nat, iv = .int .i64 (k : Int) ∧ Hid (k ≤ 6 ∧ l.length ≤ 8) ∧ Hid (Fl w wr C (m + 2 + 20 * (6 - k)) v l)) (fun _ iv _ => (intOf iv).toNat)
  case atStart => exact ⟨[], x, rfl, ⟨x6, by simp⟩, hF0.out.up (by omega)⟩
  case round =>
    obtain ⟨l, k, rfl, hk, hF⟩ := hrel
    clear hF0
    have hk6 := hk.out.1
    by_cases hk0 : 0 < k
    case pos =>
      have d0 : decide (0 < (k : Int)) = true := decide_eq_true (by omega)
      obtain ⟨k1, hk1⟩ : ∃ k1 : Nat, k = k1 + 1 := ⟨k - 1, by omega⟩
      have m1 : (k : Int) - 1 = (k1 : Int) := by omega
      have m2 : IntKind.i64.wrap (k1 : Int) = (k1 : Int) := IntWalk.i64_in _ (by omega)
      have hms : Hid (k1 < k) := by show _ < _; omega
      have hmm : Hid (k1 ≤ 6 ∧ m + 2 + 20 * (6 - k) + 20 ≤ m + 2 + 20 * (6 - k1)) := ⟨by omega, by omega⟩
      have hG := Lib.hid (fuel_any C _ wr hF.out.hc (by omega))
      clear hk1
      go_wp2_with fail
      refine hG.out.mono ?_
      rintro e w2 ⟨fi, fn, fr, fl, fo, rfl, hFS, hc, hg⟩
      replace hF := Lib.hid (hF.out.curs hc hg)
      have hn20 : fn.size ≤ 20 := hFS.2.1
      have hA := sAddFuel_any _ l fi fn fr fl fo w2 (Sl.of_q hF.out.hq) (fun p hp => by have := hF.out.hl p hp; unfold maxLen; omega) (by unfold maxLen; omega)
      have hsh := Lib.hid (adL_short (l := l) (x := ⟨fi, fn, fr, fl, fo⟩) hF.out.hl hn20)
      have h8 := Lib.hid (adR_eight l ⟨fi, fn, fr, fl, fo⟩)
      unfold RetAfQ at hA
      generalize adR l ⟨fi, fn, fr, fl, fo⟩ = R at *
      generalize adB l ⟨fi, fn, fr, fl, fo⟩ = B at *
      replace hA := Lib.hid hA
      clear hc hg hFS hn20 hG
      go_wp2_with fail
      refine hA.out.mono ?_
      rintro e w3 ⟨u, rfl, hq, hb⟩
      have hFN := Lib.hid (hF.out.other hb hq hsh.out)
      replace hF := Lib.hid (hF.out.below hb)
      clear hA hb hq hsh
      cases B with
      | false =>
        clear hFN
        go_wp2
        go_roundw
        case rel => exact ⟨l, k1, rfl, ⟨hmm.out.1, hk.out.2⟩, hF.out.up hmm.out.2⟩
        case measure => have := hms.out; simp [intOf]; omega
      | true =>
        clear hF
        go_wp2
        go_roundw
        case rel => exact ⟨R, k1, rfl, ⟨hmm.out.1, h8.out⟩, hFN.out.up hmm.out.2⟩
        case measure => have := hms.out; simp [intOf]; omega
    case neg =>
      obtain rfl : k = 0 := by omega
      have hl8 := hk.out.2
      have hP := Lib.hid (pick_any C _ 30 wr hF.out.hc (by omega) (by omega))
      clear hk hk0
      go_wp2_with fail
      refine hP.out.mono ?_
      rintro e w2 ⟨v2, rfl, ⟨y, rfl, y0, y1⟩, hc, hg⟩
      replace hF := Lib.hid (hF.out.curs hc hg)
      clear hP hc hg
      by_cases e0 : y = 0
      case pos =>
        subst e0
        clear y0 y1
        have hG := Lib.hid (fuel_any C _ w2 hF.out.hc (by omega))
        go_wp2_with fail
        refine hG.out.mono ?_
        rintro e w3 ⟨fi, fn, fr, fl, fo, rfl, hFS, hc, hg⟩
        replace hF := hF.out.curs hc hg
        have hn20 : fn.size ≤ 20 := hFS.2.1
        have hbn := grow_alloc w3 (.cells #[.int .i64 fi, .string fn, .int .i64 fr, .int .i64 fl, .int .i64 fo] 25)
        replace hF := Lib.hid (hF.below hbn)
        have hlf := Lib.hid (lit_fu w3 fi fn fr fl fo)
        have hsz := hF.out.hg.size
        clear hc hg hFS hG hbn
        go_wp2_with ((at_builtin; refine wpList_append_q _ rfl _ _ 33 rfl w.heap.size 25 i0 (fuV 0 ByteArray.empty 0 0 0) 5 48 Tryz.underlying33 hi hz0 hz1 hz2 rfl (by decide) _ _ _ rfl hF.out.hq _ 1 _ rfl hlf.out (enc_one _) (by unfold maxLen; omega) (by omega) hsz ?_))
        intro vA wA hqA hgA hdA
        have hFA := Lib.hid (hF.out.push (p := ⟨fi, fn, fr, fl, fo⟩) hqA hgA hn20)
        obtain ⟨AA, ca, rfl⟩ := (Sl.of_q hqA).val
        clear hqA hgA hdA hF hlf hsz
        go_wp2
        go_ret
        exact hFA.out.ret (by simp; omega) (by omega)
      case neg =>
        have d1 : (y == 0) = false := by simpa using e0
        by_cases e1 : y = 1
        case neg =>
          have d2 : (y == 1) = false := by simpa using e1
          obtain ⟨AA, ca, rfl⟩ := (Sl.of_q hF.out.hq).val
          clear e0 e1
          go_wp2
          go_ret
          exact hF.out.ret (by omega) (by omega)
        case pos =>
          subst e1
          clear e0 y0 y1 d1
          have hb1 := grow_alloc w2 (.cells #[] 25)
          have hF1 : Hid (Fl w (w2.alloc (.cells #[] 25)) C (m + 140) (.slice (some ⟨w2.heap.size, 0, none⟩) 0 0) []) :=
            (hF.out.other hb1 (l' := []) (Qw.emptyK (hp0 _ _) (Nat.le_refl _)) (fun p hp => by simp at hp)).up (by omega)
          clear hF hb1
          go_wp2
          go_loopw [3, 7] (fun v iv wr => ∃ l : List Fu, ∃ k : Nat, iv = .int .i64 (k : Int) ∧ k ≤ 9 ∧ Hid (l.length = k) ∧ Hid (Fl w wr C (m + 140 + 2 * k) v l)) (fun _ iv _ => 9 - (intOf iv).toNat)
          case atStart => exact ⟨[], 0, rfl, by omega, rfl, hF1.out⟩
          case round =>
            obtain ⟨l, k, rfl, hk, hlk, hF⟩ := hrel
            clear hF1
            have hP := Lib.hid (pick_any C _ 2 wr hF.out.hc (by omega) (by omega))
            go_wp2_with fail
            refine hP.out.mono ?_
            rintro e w3 ⟨v3, rfl, ⟨z, rfl, z0, z1⟩, hc, hg⟩
            replace hF := Lib.hid (hF.out.curs hc hg)
            clear hP hc hg
            have z2 : z < 2 := by omega
            clear z1
            obtain ⟨zb, hzb⟩ : ∃ zb : Int, zb = 8 + z := ⟨_, rfl⟩
            have m1 : 8 + z = zb := hzb.symm
            have m2 : IntKind.i64.wrap zb = zb := IntWalk.i64_in _ (by omega)
            have hz9 : zb ≤ 9 := by omega
            clear hzb
            by_cases hlt : (k : Int) < zb
            case neg =>
              have d2 : decide ((k : Int) < zb) = false := decide_eq_false hlt
              obtain ⟨AA, ca, rfl⟩ := (Sl.of_q hF.out.hq).val
              go_wp2
              go_ret
              exact hF.out.ret (by rw [hlk.out]; omega) (by omega)
            case pos =>
              have d2 : decide ((k : Int) < zb) = true := decide_eq_true hlt
              have hk8 : k ≤ 8 := by omega
              obtain ⟨P, hP⟩ : ∃ P : Nat, P = k + 1 := ⟨_, rfl⟩
              have p1 : (k : Int) + 1 = (P : Int) := by omega
              have p2 : IntKind.i64.wrap (P : Int) = (P : Int) := IntWalk.i64_in _ (by omega)
              obtain ⟨T, hT⟩ : ∃ T : Nat, T = 10 * P := ⟨_, rfl⟩
              have t1 : 10 * (P : Int) = (T : Int) := by omega
              have t2 : IntKind.i64.wrap (T : Int) = (T : Int) := IntWalk.i64_in _ (by omega)
              obtain ⟨c8, hc8⟩ : ∃ c8 : Nat, c8 = 97 + k := ⟨_, rfl⟩
              have q1 : 97 + (k : Int) = (c8 : Int) := by omega
              have q2 : IntKind.i64.wrap (c8 : Int) = (c8 : Int) := IntWalk.i64_in _ (by omega)
              have q3 : IntKind.u8.wrap (c8 : Int) = (c8 : Int) := IntWalk.u8_in _ (by omega)
              obtain ⟨nm, hnm, hcv0⟩ := conv_byte1 c8 (by omega)
              have hcv := hcv0 w3
              have hPk : Hid (P = k + 1) := hP
              have hms : Hid (9 - P < 9 - k) := by show _ < _; omega
              have hP9 : P ≤ 9 := by omega
              have hb1 := grow_alloc w3 (.cells #[.int .u8 (c8 : Int)] 5)
              have hlf0 := lit_fu (w3.alloc (.cells #[.int .u8 (c8 : Int)] 5)) (P : Int) nm (T : Int) 100 1
              rw [World.size_alloc] at hlf0
              have hlf := Lib.hid hlf0
              have hb2 := grow_alloc (w3.alloc (.cells #[.int .u8 (c8 : Int)] 5)) (.cells #[.int .i64 (P : Int), .string nm, .int .i64 (T : Int), .int .i64 100, .int .i64 1] 25)
              replace hF := Lib.hid (hF.out.below (grow_trans hb1 hb2))
              have hsz := Lib.hid hF.out.hg.size
              have hl9 : l.length ≤ 8 := by rw [hlk.out]; exact hk8
              clear hP hT hc8 hcv0 hb1 hb2 hlf0
              go_wp2_with ((at_builtin; refine wpList_append_q _ rfl _ _ 33 rfl w.heap.size 25 i0 (fuV 0 ByteArray.empty 0 0 0) 5 48 Tryz.underlying33 hi hz0 hz1 hz2 rfl (by decide) _ _ _ rfl hF.out.hq _ 1 _ rfl hlf.out (enc_one _) (by unfold maxLen; omega) (by omega) hsz.out ?_))
              intro vA wA hqA hgA hdA
              have hFA := Lib.hid (hF.out.push (p := ⟨(P : Int), nm, (T : Int), 100, 1⟩) hqA hgA hnm)
              clear hqA hgA hdA hF hlf hsz hcv
              go_wp2
              go_roundw
              case rel => exact ⟨_, P, rfl, hP9, by show _ = _; rw [List.length_append, hlk.out, hPk.out]; rfl, hFA.out.up (by have := hPk.out; omega)⟩
              case measure => have := hms.out; simp [intOf]; omega
end Go.Proofs.YtnadeddkogapoaaGreatDoor
