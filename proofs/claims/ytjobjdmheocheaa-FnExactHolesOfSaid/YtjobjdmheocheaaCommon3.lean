/- CommonRegion and JoinRegions in the reference. Conditions: as each states. -/
import Derived.Test.YtjobjdmheocheaaCommon2
import Derived.Test.YtjobjdmheocheaaPut
import Derived.Test.YtjobjdmheocheaaRegP
namespace Go.Proofs.Ytjobjdmheocheaa
open Go.ChangeShapes Go.WideShapes Go.ChangeAt Go.RowKit Go.Deep
set_option linter.unusedVariables false
set_option linter.unusedSimpArgs false
set_option maxRecDepth 100000

theorem filt_q {B : Nat} {e : TypeId} {w1 : World} {v : Value} {zs : List Int} {p : Int → Bool} {k : Nat} {z : Int} (hz : zs[k]? = some z) (hp : p z = true) (h : Qw w1 B e 1 v (((zs.take k).filter p).length + 1) (ints ((zs.take k).filter p) ++ [.int .i64 z])) :
    Qw w1 B e 1 v ((zs.take (k + 1)).filter p).length (ints ((zs.take (k + 1)).filter p)) := by
  rw [filt_yes hz hp]; simpa using h
/-- A call hands back a list in memory of its own, and a Bool. -/
def RetSelQ (w : World) (xs : List Int) (ok : Bool) (e : Ending) (w' : World) : Prop :=
  ∃ u, e = .returned (.tuple #[u, .bool ok]) ∧ Qw w' w.heap.size 3 1 u xs.length (ints xs) ∧ Below w.heap.size w w'
theorem set_in {zs : List Int} {n : Nat} (h : setB zs 0 ((n : Int) - 1) = true) : Rise zs ∧ ∀ z ∈ zs, 0 ≤ z ∧ z ≤ (n : Int) - 1 := setB_rise h
/-- In a world with new blocks, the head ones as they stand. -/
theorem two_news (w : World) (o p : Obj) : Below w.heap.size w ((w.alloc o).alloc p) := grow_trans (grow_alloc _ _) (grow_alloc _ _)
set_option maxHeartbeats 4000000 in
theorem sCommonRegion_any (x y : Int) (u : Value) (zs : List Int) (va : Value) (xs : List Int) (vb : Value) (ys : List Int) (w : World) (h : Sl w 1 u zs.length (ints zs)) (ha : Sl w 1 va xs.length (ints xs)) (hb : Sl w 1 vb ys.length (ints ys)) (hn : xs.length ≤ 1048576) :
    Calls Try.prog 16 #[terrV x y u, va, vb] w (RetSelQ w (selR (twoB x y zs xs ys) (xs.filter (hasB ys))) (twoB x y zs xs ys)) := by
  obtain ⟨i0, hi, hz0, hz1, hz2⟩ := info_parts info_int
  have HA := Lib.hid fun W hW => l2Set_any x y u zs va xs W (h.below (w' := W) hW) (ha.below hW)
  have HB := Lib.hid fun W hW => l2Set_any x y u zs vb ys W (h.below (w' := W) hW) (hb.below hW)
  have Hs := Lib.hid fun W hW => ha.below (w' := W) hW
  have Hh := Lib.hid fun W hW z => l1Has_any vb ys z W (hb.below (w' := W) hW)
  have HT : Hid (twoB x y zs xs ys = (terrB x y zs && setB xs 0 (zs.length - 1) && (terrB x y zs && setB ys 0 (zs.length - 1)))) := by
    show _ = _; unfold twoB; cases terrB x y zs <;> simp
  obtain ⟨A, c, rfl⟩ := h.val
  obtain ⟨Aa, ca, rfl⟩ := ha.val
  obtain ⟨Ab, cb, rfl⟩ := hb.val
  clear h ha hb
  generalize (terrB x y zs && setB xs 0 (zs.length - 1)) = P at *
  generalize (terrB x y zs && setB ys 0 (zs.length - 1)) = Q at *
  generalize twoB x y zs xs ys = T at *
  generalize zs.length = M at *
  generalize ys.length = K at *
  generalize hN : xs.length = N at *
  have HN := Lib.hid hN
  clear hN
  have hq0 : Hid (Qw ((w.alloc (.cells #[.int .i64 x, .int .i64 y, .slice A M c] 28)).alloc (.cells #[] 3)) (w.heap.size + 1) 3 1 (.slice (some ⟨w.heap.size + 1, 0, none⟩) 0 0) 0 []) := Qw.emptyAt (hp2 _ _ _) (Nat.le_refl _)
  have hb0 : Hid (Below w.heap.size w ((w.alloc (.cells #[.int .i64 x, .int .i64 y, .slice A M c] 28)).alloc (.cells #[] 3))) := two_news _ _ _
  cases P with
  | false =>
    have HT := HT.out
    simp only [Bool.false_and] at HT
    subst HT
    go_enter Try.func16, Try.ntmps16
    go_wp2_with fail
    with_reducible refine (HA.out _ hb0.out).mono ?_
    rintro e w1 ⟨rfl, hb1⟩
    have hq1 := Lib.hid (hq0.out.below hb1)
    have hb1 := Lib.hid (grow_trans hb0.out hb1)
    go_wp2
    exact bodyPost_ret (v := .tuple #[.slice (some ⟨w.heap.size + 1, 0, none⟩) 0 0, .bool false]) (by simp [results, Try.results16, go_sem]) rfl ⟨_, rfl, hq1.out.lower (Nat.le_succ _), hb1.out⟩
  | true =>
    cases Q with
    | false =>
      have HT := HT.out
      simp only [Bool.and_false] at HT
      subst HT
      go_enter Try.func16, Try.ntmps16
      go_wp2_with fail
      with_reducible refine (HA.out _ hb0.out).mono ?_
      rintro e w1 ⟨rfl, hb1⟩
      have hq1 := Lib.hid (hq0.out.below hb1)
      have hc := (bcell hb1).1
      have hb1 := Lib.hid (grow_trans hb0.out hb1)
      go_wp2_with fail
      with_reducible refine (HB.out _ hb1.out).mono ?_
      rintro e w2 ⟨rfl, hb2⟩
      have hq2 := Lib.hid (hq1.out.below hb2)
      have hb2 := Lib.hid (grow_trans hb1.out hb2)
      go_wp2
      exact bodyPost_ret (v := .tuple #[.slice (some ⟨w.heap.size + 1, 0, none⟩) 0 0, .bool false]) (by simp [results, Try.results16, go_sem]) rfl ⟨_, rfl, hq2.out.lower (Nat.le_succ _), hb2.out⟩
    | true =>
      have HT := HT.out
      simp only [Bool.and_true] at HT
      subst HT
      go_enter Try.func16, Try.ntmps16
      go_wp2_with fail
      with_reducible refine (HA.out _ hb0.out).mono ?_
      rintro e w1 ⟨rfl, hb1⟩
      have hq1 := Lib.hid (hq0.out.below hb1)
      have hc := (bcell hb1).1
      have hb1 := Lib.hid (grow_trans hb0.out hb1)
      go_wp2_with fail
      with_reducible refine (HB.out _ hb1.out).mono ?_
      rintro e w2 ⟨rfl, hb2⟩
      have hq2 := Lib.hid (hq1.out.below hb2)
      have hb2 := Lib.hid (grow_trans hb1.out hb2)
      clear hc
      have hw2 := hb2.out.size
      have hw3 : w.heap.size + 1 < w2.heap.size := (hq2.out.lt _ rfl).2
      go_wp2
      go_loopw [8, 9] (fun v i wr => ∃ k : Nat, k ≤ N ∧ i = .int .i64 k ∧ Hid (Below w.heap.size w wr) ∧ Hid (Qw wr (w.heap.size + 1) 3 1 v ((xs.take k).filter (hasB ys)).length (ints ((xs.take k).filter (hasB ys))))) (fun _ i _ => N - (intOf i).toNat)
      case atStart => exact ⟨0, Nat.zero_le _, rfl, hb2.out, hq2.out⟩
      case round =>
        obtain ⟨k, hk, rfl, hb, hq⟩ := hrel
        have hsz := hb.out.size
        by_cases hlt : k < N
        · obtain ⟨b, off, z, rfl, hz, hcell⟩ := (Hs.out wr hb.out).at1 HN.out hlt
          have hle := filt_le xs (hasB ys) k
          have Hz := Lib.hid hz
          clear hz
          have Hcall := Hh.out wr hb.out z
          cases hp : hasB ys z with
          | true =>
            rw [hp] at Hcall
            have Hp := Lib.hid hp
            have Hcall := Lib.hid Hcall
            clear hp
            go_wp2_with fail
            with_reducible refine Hcall.out.mono ?_
            rintro e w3 ⟨rfl, rfl⟩
            go_wp2_with ((at_builtin; refine wpList_append_q _ rfl _ _ 22 rfl (w.heap.size + 1) 3 i0 (.int .i64 0) 1 8 Try.underlying22 hi hz0 hz1 hz2 rfl (by decide) _ _ _ rfl (Qw.below (hq.out) (grow_alloc wr _)) _ 1 [.int .i64 z] rfl (Sl.boxAt (hp0 wr _)) (by intro u hu; simp at hu; subst hu; rfl) (by unfold maxLen; omega) (by omega) (by simp; omega) ?_))
            intro vA wA hqA hgA hdA
            have hb4 := Lib.hid ((hb.out.alloc hb.out.size _).grown hgA (by simp; omega) (fun j hj => by have := (hq.out.lt j hj).1; omega))
            have hq4 := Lib.hid (filt_q Hz.out Hp.out hqA)
            clear hgA hdA hqA
            go_wp2
            go_roundw
            case rel => exact ⟨k + 1, by omega, by go_num, hb4.out, hq4.out⟩
            case measure => simp [intOf]; omega
          | false =>
            rw [hp] at Hcall
            have Hp := Lib.hid hp
            have Hcall := Lib.hid Hcall
            clear hp
            go_wp2_with fail
            with_reducible refine Hcall.out.mono ?_
            rintro e w3 ⟨rfl, rfl⟩
            go_wp2
            go_roundw
            case rel => exact ⟨k + 1, by omega, by go_num, hb.out, by show Qw _ _ _ _ _ _ _; rw [filt_no Hz.out Hp.out]; exact hq.out⟩
            case measure => simp [intOf]; omega
        · obtain rfl : k = N := by omega
          have hall : xs.take k = xs := List.take_of_length_le (by have := HN.out; omega)
          rw [hall] at hq
          clear hall
          go_wp2
          exact bodyPost_ret (v := .tuple #[_, .bool true]) (by simp [results, Try.results16, go_sem]) rfl ⟨_, rfl, hq.out.lower (Nat.le_succ _), hb.out⟩
end Go.Proofs.Ytjobjdmheocheaa
