/- ArrivalTimes in the program and in the reference; what both ask of a fire. Conditions: as each states. -/
import Derived.Test.YtnacofmjipilhaaArr3
import Derived.Test.YtnacofmjipilhaaRegP
import Derived.Test.YtnacofmjipilhaaSet3
namespace Go.Proofs.Ytnacofmjipilhaa
open Go.ChangeShapes Go.WideShapes Go.ChangeAt Go.RowKit Go.Deep
set_option linter.unusedVariables false
set_option linter.unusedSimpArgs false
set_option maxRecDepth 100000

set_option maxHeartbeats 4000000 in
theorem markPhaseS_any (v : Value) (m : Int) (n base : Nat) (cs0 : List Value) (w : World) (h : w.ownsRow base 123 2 v n cs0) (h1 : 0 ≤ m) (h2 : m ≤ 1099511627776) (hn : n ≤ 1048576) :
    Calls Try.prog 68 #[v, .int .i64 m] w fun e w' => e = .returned (.int .i64 (m + 2 * n)) ∧ w.grownBy w' v.ownBlock := by
  obtain ⟨A, c, rfl, hA⟩ := own_form h
  rcases Nat.eq_zero_or_pos n with rfl | hpos
  · clear h hA
    go_enter Try.func68, Try.ntmps68
    go_wp2
    refine wp_loop_rounds 1 ?_
    rw [rounds_succ]
    go_wp2
    go_ret
    exact ⟨by simp, World.grownBy.refl _ _⟩
  · obtain ⟨g, rfl, hbg, hg⟩ := hA hpos
    have Hh := Lib.hid h
    clear h hA
    go_enter Try.func68, Try.ntmps68
    go_wp2
    go_loopw [1, 5] (fun q i wr => ∃ k : Nat, k ≤ n ∧ i = .int .i64 k ∧ q = .int .i64 (m + 2 * k) ∧ Hid (w.grownBy wr (some g)) ∧ Hid (∃ cs, wr.ownsRow base 123 2 (.slice (some ⟨g, 0, none⟩) n c) n cs)) (fun _ i _ => n - (intOf i).toNat)
    case atStart => exact ⟨0, Nat.zero_le _, rfl, by simp, World.grownBy.refl _ _, _, Hh.out⟩
    case round =>
      obtain ⟨k, hk, rfl, rfl, hgr, hcs⟩ := hrel
      by_cases hlt : k < n
      · obtain ⟨cs, ho⟩ := hcs.out
        have hl := ho.1
        obtain ⟨u0, hu0⟩ : ∃ u, cs[k * 2]? = some u := ⟨_, List.getElem?_eq_getElem (by omega)⟩
        obtain ⟨u1, hu1⟩ : ∃ u, cs[k * 2 + 1]? = some u := ⟨_, List.getElem?_eq_getElem (by omega)⟩
        have d0 := ho.cellAt (k * 2) (by omega)
        have d1 := ho.cellAt (k * 2 + 1) (by omega)
        rw [hu0] at d0
        rw [hu1] at d1
        have f0 := ho.frozenAt (k * 2)
        have f1 := ho.frozenAt (k * 2 + 1)
        have Ho := Lib.hid ho
        clear hu0 hu1 hl hcs ho
        go_wp2
        go_roundw
        case rel =>
          have s1 := Ho.out.stored (k * 2) (.int .i64 (m + 2 * k))
          have s2 := s1.1.stored (k * 2 + 1) (.int .i64 (m + 2 * k + 1))
          exact ⟨k + 1, by omega, by go_num, by simp; omega, grownBy_trans (grownBy_trans hgr.out s1.2) s2.2, _, s2.1⟩
        case measure => simp [intOf]; omega
      · obtain rfl : k = n := by omega
        clear hcs
        go_wp2
        go_ret
        exact ⟨rfl, hgr.out⟩
/-- A terrain, phases, sources and a start are valid. -/
def fireB (x y : Int) (zs : List Int) (ps : List (Int × Int)) (srcs : List Int) (s : Int) : Bool := terrB x y zs && setB srcs 0 ((zs.length : Int) - 1) && phB ps && inB s 0 1000
theorem fire_facts {x y : Int} {zs : List Int} {ps : List (Int × Int)} {srcs : List Int} {s : Int} (h : fireB x y zs ps srcs s = true) : terrB x y zs = true ∧ phB ps = true ∧ (0 ≤ s ∧ s ≤ 1000) ∧ (∀ z ∈ srcs, 0 ≤ z ∧ z ≤ (zs.length : Int) - 1) ∧ Rise srcs := by
  unfold fireB at h
  simp only [Bool.and_eq_true] at h
  obtain ⟨⟨⟨h1, h2⟩, h3⟩, h4⟩ := h
  obtain ⟨r1, r2⟩ := setB_rise h2
  exact ⟨h1, h3, inB_iff.1 h4, r2, r1⟩
set_option maxHeartbeats 2000000 in
theorem l4Asked_any (x y : Int) (u : Value) (zs : List Int) (v : Value) (ps : List (Int × Int)) (r : Value) (srcs : List Int) (s : Int) (w : World) (h : Sl w 1 u zs.length (ints zs)) (hps : Sl w 2 v ps.length (phs ps)) (hr : Sl w 1 r srcs.length (ints srcs)) :
    Calls Try.prog 113 #[terrV x y u, v, r, .int .i64 s] w fun e w' => e = .returned (.bool (fireB x y zs ps srcs s)) ∧ Below w.heap.size w w' := by
  have HS := Lib.hid (l2Set_any x y u zs r srcs _ (h.below (grow_alloc w (.cells #[.int .i64 x, .int .i64 y, u] 79))) (hr.below (grow_alloc w (.cells #[.int .i64 x, .int .i64 y, u] 79))))
  have HP := Lib.hid fun W hW => l4Phases_any v ps W (hps.below (w' := W) hW)
  have HB : Hid (fireB x y zs ps srcs s = (terrB x y zs && setB srcs 0 ((zs.length : Int) - 1) && phB ps && inB s 0 1000)) := rfl
  clear h hps hr
  generalize fireB x y zs ps srcs s = B at *
  generalize (terrB x y zs && setB srcs 0 ((zs.length : Int) - 1)) = b1 at *
  cases b1 with
  | false =>
    have hb : B = false := by rw [HB.out]; rfl
    subst hb
    go_enter Try.func113, Try.ntmps113
    go_wp2_with fail
    with_reducible refine HS.out.mono ?_
    rintro e w1 ⟨rfl, hb1⟩
    have hb1 := Lib.hid (grow_trans (grow_alloc _ _) hb1)
    go_wp2
    go_ret
    exact ⟨rfl, hb1.out⟩
  | true =>
    cases hp : phB ps with
    | false =>
      have hb : B = false := by rw [HB.out, hp]; rfl
      subst hb
      rw [hp] at HP
      go_enter Try.func113, Try.ntmps113
      go_wp2_with fail
      with_reducible refine HS.out.mono ?_
      rintro e w1 ⟨rfl, hb1⟩
      have hb1 := Lib.hid (grow_trans (grow_alloc _ _) hb1)
      go_wp2_with fail
      with_reducible refine (HP.out _ hb1.out).mono ?_
      rintro e w2 ⟨rfl, hb2⟩
      have hb2 := Lib.hid (grow_trans hb1.out hb2)
      go_wp2
      go_ret
      exact ⟨rfl, hb2.out⟩
    | true =>
      have hb : B = inB s 0 1000 := by rw [HB.out, hp]; rfl
      subst hb
      rw [hp] at HP
      go_enter Try.func113, Try.ntmps113
      go_wp2_with fail
      with_reducible refine HS.out.mono ?_
      rintro e w1 ⟨rfl, hb1⟩
      have hb1 := Lib.hid (grow_trans (grow_alloc _ _) hb1)
      go_wp2_with fail
      with_reducible refine (HP.out _ hb1.out).mono ?_
      rintro e w2 ⟨rfl, hb2⟩
      have hb2 := Lib.hid (grow_trans hb1.out hb2)
      go_wp2_with fail
      refine (l1In_any _ _ _ _).mono ?_
      rintro e w3 ⟨rfl, rfl⟩
      go_wp2
      go_ret
      exact ⟨rfl, hb2.out⟩
set_option maxHeartbeats 2000000 in
theorem isFire_any (x y : Int) (u : Value) (zs : List Int) (v : Value) (ps : List (Int × Int)) (r : Value) (srcs : List Int) (s : Int) (w : World) (h : Sl w 1 u zs.length (ints zs)) (hps : Sl w 2 v ps.length (phs ps)) (hr : Sl w 1 r srcs.length (ints srcs)) :
    Calls Try.prog 117 #[terrV x y u, v, r, .int .i64 s] w fun e w' => e = .returned (.bool (fireB x y zs ps srcs s)) ∧ Below w.heap.size w w' := by
  have HT := Lib.hid (IsTerrain_any x y u zs _ (h.below (grow_alloc w (.cells #[.int .i64 x, .int .i64 y, u] 79))))
  have HP := Lib.hid fun W hW => ArePhases_any v ps W (hps.below (w' := W) hW)
  have HS := Lib.hid fun W hW => isSet_any x y u zs.length (ints zs) r srcs W (h.below (w' := W) hW) (hr.below hW)
  have HB : Hid (fireB x y zs ps srcs s = (terrB x y zs && regB zs.length srcs && phB ps && inB s 0 1000)) := by show _ = _; rw [reg_set]; rfl
  have hc : ∀ w1, Below (w.alloc (.cells #[.int .i64 x, .int .i64 y, u] 79)).heap.size (w.alloc (.cells #[.int .i64 x, .int .i64 y, u] 79)) w1 → TB w1 w.heap.size x y u := fun w1 hb => TB.below (by unfold TB; simp [go_sem]) hb
  have Hc := Lib.hid hc
  clear h hps hr hc
  generalize fireB x y zs ps srcs s = B at *
  generalize regB zs.length srcs = b2 at *
  cases h1 : terrB x y zs with
  | false =>
    have hb : B = false := by rw [HB.out, h1]; rfl
    subst hb
    rw [h1] at HT
    go_enter Try.func117, Try.ntmps117
    go_wp2_with fail
    with_reducible refine HT.out.mono ?_
    rintro e w1 ⟨rfl, hb1⟩
    have hb1 := Lib.hid (grow_trans (grow_alloc _ _) hb1)
    go_wp2
    go_ret
    exact ⟨rfl, hb1.out⟩
  | true =>
    rw [h1] at HT
    cases hp : phB ps with
    | false =>
      have hb : B = false := by rw [HB.out, hp]; simp
      subst hb
      rw [hp] at HP
      go_enter Try.func117, Try.ntmps117
      go_wp2_with fail
      with_reducible refine HT.out.mono ?_
      rintro e w1 ⟨rfl, hb1⟩
      have hb1 := Lib.hid (grow_trans (grow_alloc _ _) hb1)
      go_wp2_with fail
      with_reducible refine (HP.out _ hb1.out).mono ?_
      rintro e w2 ⟨rfl, hb2⟩
      have hb2 := Lib.hid (grow_trans hb1.out hb2)
      go_wp2
      go_ret
      exact ⟨rfl, hb2.out⟩
    | true =>
      rw [hp] at HP
      cases b2 with
      | false =>
        have hb : B = false := by rw [HB.out]; simp
        subst hb
        go_enter Try.func117, Try.ntmps117
        go_wp2_with fail
        with_reducible refine HT.out.mono ?_
        rintro e w1 ⟨rfl, hb1⟩
        have hT1 := Lib.hid (Hc.out _ hb1)
        have hb1 := Lib.hid (grow_trans (grow_alloc _ _) hb1)
        go_wp2_with fail
        with_reducible refine (HP.out _ hb1.out).mono ?_
        rintro e w2 ⟨rfl, hb2⟩
        obtain ⟨t0, t1, t2⟩ := hT1.out.below hb2
        have hb2 := Lib.hid (grow_trans hb1.out hb2)
        go_wp2_with fail
        with_reducible refine (HS.out _ hb2.out).mono ?_
        rintro e w3 ⟨rfl, hb3⟩
        have hb3 := Lib.hid (grow_trans hb2.out hb3)
        go_wp2
        go_ret
        exact ⟨rfl, hb3.out⟩
      | true =>
        have hb : B = inB s 0 1000 := by rw [HB.out, h1, hp]; rfl
        subst hb
        go_enter Try.func117, Try.ntmps117
        go_wp2_with fail
        with_reducible refine HT.out.mono ?_
        rintro e w1 ⟨rfl, hb1⟩
        have hT1 := Lib.hid (Hc.out _ hb1)
        have hb1 := Lib.hid (grow_trans (grow_alloc _ _) hb1)
        go_wp2_with fail
        with_reducible refine (HP.out _ hb1.out).mono ?_
        rintro e w2 ⟨rfl, hb2⟩
        obtain ⟨t0, t1, t2⟩ := hT1.out.below hb2
        have hb2 := Lib.hid (grow_trans hb1.out hb2)
        go_wp2_with fail
        with_reducible refine (HS.out _ hb2.out).mono ?_
        rintro e w3 ⟨rfl, hb3⟩
        have hb3 := Lib.hid (grow_trans hb2.out hb3)
        go_wp2_with fail
        refine (in_any _ _ _ _).mono ?_
        rintro e w4 ⟨rfl, rfl⟩
        go_wp2
        go_ret
        exact ⟨rfl, hb3.out⟩
set_option maxHeartbeats 2000000 in
theorem sArrivalTimes_any (x y : Int) (u : Value) (zs : List Int) (v : Value) (ps : List (Int × Int)) (r : Value) (srcs : List Int) (s : Int) (w : World) (h : Sl w 1 u zs.length (ints zs)) (hps : Sl w 2 v ps.length (phs ps)) (hr : Sl w 1 r srcs.length (ints srcs)) (hsl : srcs.length ≤ 1048576) :
    Calls Try.prog 65 #[terrV x y u, v, r, .int .i64 s] w (RetSel w (selR (fireB x y zs ps srcs s) (arrL x zs ps srcs s)) (fireB x y zs ps srcs s)) := by
  have hbx : Below w.heap.size w (w.alloc (.cells #[.int .i64 x, .int .i64 y, u] 79)) := grow_alloc _ _
  have HA := Lib.hid (l4Asked_any x y u zs v ps r srcs s _ (h.below hbx) (hps.below hbx) (hr.below hbx))
  have HR : Hid (fireB x y zs ps srcs s = true → ∀ W, Below w.heap.size w W → Calls Try.prog 115 #[terrV x y u, v, r, .int .i64 s] W (RetOwn W 3 1 zs.length (ints (arrL x zs ps srcs s))) ∧ True) := fun hf W hW => by
    obtain ⟨f1, f2, f3, f4, _⟩ := fire_facts hf
    exact ⟨(l4Arrivals_any x y u zs v ps r srcs s W (h.below hW) (hps.below hW) (hr.below hW) f1 f2 f3.1 f3.2).mono (fun e w1 h => h.1), trivial⟩
  have hlen : Hid (∀ W v, World.ownsRow W W.heap.size 3 1 v zs.length (ints (arrL x zs ps srcs s)) → True) := fun _ _ _ => trivial
  have hc : ∀ w1, Below (w.alloc (.cells #[.int .i64 x, .int .i64 y, u] 79)).heap.size (w.alloc (.cells #[.int .i64 x, .int .i64 y, u] 79)) w1 → TB w1 w.heap.size x y u := fun w1 hb => TB.below (by unfold TB; simp [go_sem]) hb
  have Hc := Lib.hid hc
  have hbx := Lib.hid hbx
  clear h hps hr hc
  cases hf : fireB x y zs ps srcs s with
  | false =>
    rw [hf] at HA
    clear HR hf
    generalize arrL x zs ps srcs s = R
    go_enter Try.func65, Try.ntmps65
    go_wp2_with fail
    with_reducible refine HA.out.mono ?_
    rintro e w1 ⟨rfl, hb1⟩
    have hb1 := Lib.hid (grow_trans hbx.out hb1)
    have ho := World.ownsRow_lit (base := w.heap.size) (e := 3) (size := 1) w1 #[] 0 hb1.out.size (by unfold maxLen; omega) rfl
    have ho : Hid ((w1.alloc (.cells #[] 3)).ownsRow w.heap.size 3 1 (.slice (some ⟨w1.heap.size, 0, none⟩) 0 0) 0 []) := by show World.ownsRow _ _ _ _ _ _ _; simpa using ho
    have hb2 := Lib.hid (grow_trans hb1.out (grow_alloc w1 (.cells #[] 3)))
    go_wp2
    exact bodyPost_ret (v := .tuple #[.slice (some ⟨w1.heap.size, 0, none⟩) 0 0, .bool false]) (by simp [results, Try.results65, go_sem]) rfl ⟨_, rfl, ho.out, hb2.out⟩
  | true =>
    have HR := Lib.hid fun W hW => (HR.out hf W hW).1
    rw [hf] at HA
    clear hf
    generalize arrL x zs ps srcs s = R at *
    go_enter Try.func65, Try.ntmps65
    go_wp2_with fail
    with_reducible refine HA.out.mono ?_
    rintro e w1 ⟨rfl, hb1⟩
    obtain ⟨t0, t1, t2⟩ := Hc.out _ hb1
    have hb1 := Lib.hid (grow_trans hbx.out hb1)
    go_wp2_with fail
    with_reducible refine (HR.out _ hb1.out).mono ?_
    rintro e w2 ⟨rv, rfl, ho, hb2⟩
    have hl : Hid (R.length = zs.length) := by have := ho.1; show _ = _; simp at this; omega
    have ho := Lib.hid (own_base ho hb1.out.size)
    have hb2 := Lib.hid (grow_trans hb1.out hb2)
    go_wp2
    exact bodyPost_ret (v := .tuple #[rv, .bool true]) (by simp [results, Try.results65, go_sem]) rfl ⟨_, rfl, by show World.ownsRow _ _ _ _ _ R.length _; rw [hl.out]; exact ho.out, hb2.out⟩

set_option maxHeartbeats 2000000 in
theorem ArrivalTimes_any (x y : Int) (u : Value) (zs : List Int) (v : Value) (ps : List (Int × Int)) (r : Value) (srcs : List Int) (s : Int) (w : World) (h : Sl w 1 u zs.length (ints zs)) (hps : Sl w 2 v ps.length (phs ps)) (hr : Sl w 1 r srcs.length (ints srcs)) (hsl : srcs.length ≤ 1048576) :
    Calls Try.prog 66 #[terrV x y u, v, r, .int .i64 s] w (RetSel w (selR (fireB x y zs ps srcs s) (arrL x zs ps srcs s)) (fireB x y zs ps srcs s)) := by
  have hbx : Below w.heap.size w (w.alloc (.cells #[.int .i64 x, .int .i64 y, u] 79)) := grow_alloc _ _
  have HA := Lib.hid (isFire_any x y u zs v ps r srcs s _ (h.below hbx) (hps.below hbx) (hr.below hbx))
  have HR : Hid (fireB x y zs ps srcs s = true → ∀ W, Below w.heap.size w W → Calls Try.prog 119 #[terrV x y u, v, r, .int .i64 s] W (RetOwn W 3 1 zs.length (ints (arrL x zs ps srcs s))) ∧ True) := fun hf W hW => by
    obtain ⟨f1, f2, f3, f4, _⟩ := fire_facts hf
    exact ⟨(arrivals_any x y u zs v ps r srcs s W (h.below hW) (hps.below hW) (hr.below hW) f1 f2 f3.1 f3.2 f4 hsl).mono (fun e w1 h => h.1), trivial⟩
  have hlen : Hid (∀ W v, World.ownsRow W W.heap.size 3 1 v zs.length (ints (arrL x zs ps srcs s)) → True) := fun _ _ _ => trivial
  have hc : ∀ w1, Below (w.alloc (.cells #[.int .i64 x, .int .i64 y, u] 79)).heap.size (w.alloc (.cells #[.int .i64 x, .int .i64 y, u] 79)) w1 → TB w1 w.heap.size x y u := fun w1 hb => TB.below (by unfold TB; simp [go_sem]) hb
  have Hc := Lib.hid hc
  have hbx := Lib.hid hbx
  clear h hps hr hc
  cases hf : fireB x y zs ps srcs s with
  | false =>
    rw [hf] at HA
    clear HR hf
    generalize arrL x zs ps srcs s = R
    go_enter Try.func66, Try.ntmps66
    go_wp2_with fail
    with_reducible refine HA.out.mono ?_
    rintro e w1 ⟨rfl, hb1⟩
    have hb1 := Lib.hid (grow_trans hbx.out hb1)
    go_wp2
    exact bodyPost_ret (v := .tuple #[.slice none 0 0, .bool false]) (by simp [results, Try.results66, go_sem]) rfl ⟨_, rfl, own_nil _ _ _ _, hb1.out⟩
  | true =>
    have HR := Lib.hid fun W hW => (HR.out hf W hW).1
    rw [hf] at HA
    clear hf
    generalize arrL x zs ps srcs s = R at *
    go_enter Try.func66, Try.ntmps66
    go_wp2_with fail
    with_reducible refine HA.out.mono ?_
    rintro e w1 ⟨rfl, hb1⟩
    obtain ⟨t0, t1, t2⟩ := Hc.out _ hb1
    have hb1 := Lib.hid (grow_trans hbx.out hb1)
    go_wp2_with fail
    with_reducible refine (HR.out _ hb1.out).mono ?_
    rintro e w2 ⟨rv, rfl, ho, hb2⟩
    have hl : Hid (R.length = zs.length) := by have := ho.1; show _ = _; simp at this; omega
    have ho := Lib.hid (own_base ho hb1.out.size)
    have hb2 := Lib.hid (grow_trans hb1.out hb2)
    go_wp2
    exact bodyPost_ret (v := .tuple #[rv, .bool true]) (by simp [results, Try.results66, go_sem]) rfl ⟨_, rfl, by show World.ownsRow _ _ _ _ _ R.length _; rw [hl.out]; exact ho.out, hb2.out⟩
end Go.Proofs.Ytnacofmjipilhaa
