/- Reachable in the program and in the reference. Conditions: as each states. -/
import Derived.Test.YtjobjdmheocheaaFlood2
import Derived.Test.YtjobjdmheocheaaReachS
namespace Go.Proofs.Ytjobjdmheocheaa
open Go.ChangeShapes Go.WideShapes Go.ChangeAt Go.RowKit Go.Deep
set_option linter.unusedVariables false
set_option linter.unusedSimpArgs false
set_option maxRecDepth 100000

theorem burns_anyZ (x y : Int) (u : Value) (zs : List Int) (z : Int) (w : World) (h : Sl w 1 u zs.length (ints zs)) (h1 : 0 ≤ z) (h2 : z ≤ (zs.length : Int) - 1) :
    Calls Try.prog 74 #[terrV x y u, .int .i64 z] w fun e w' => e = .returned (.bool (burnZ zs z)) ∧ Below w.heap.size w w' := by
  obtain ⟨k, rfl⟩ := Int.eq_ofNat_of_zero_le h1
  have := burns_any x y u zs k w h (by omega)
  unfold burnZ
  simpa using this
theorem callFunc_rea : ∀ args w, (callFunc 107 args).run Try.prog w = .ok (.enter 107 args) w := fun _ _ => by rfl
theorem rea1_any (x y : Int) (u : Value) (zs : List Int) (B : Nat) (a b : Int) (w : World) (hT : TB w B x y u) (h : Sl w 1 u zs.length (ints zs)) (hx1 : 1 ≤ x) (hx2 : x ≤ 5) (hn : zs.length ≤ 25) (ha1 : 0 ≤ a) (ha2 : a ≤ (zs.length : Int) - 1) (hb1 : 0 ≤ b) (hb2 : b ≤ (zs.length : Int) - 1) :
    Calls Try.prog 107 #[.int .i64 a, .int .i64 b, .pointer (some ⟨B, 0, none⟩)] w fun e w' => e = .returned (.bool ((apartN x a b == 1) && burnZ zs b)) ∧ Below w.heap.size w w' := by
  have HA := Lib.hid (apart_any x y u a b w hx1 hx2 ha1 (by omega) hb1 (by omega))
  have HB := Lib.hid fun W hW => burns_anyZ x y u zs b W (h.below (w' := W) hW) hb1 hb2
  have HT := Lib.hid hT
  obtain ⟨t0, t1, t2⟩ := hT
  obtain ⟨A, c, rfl⟩ := h.val
  clear h
  generalize burnZ zs b = q at *
  generalize apartN x a b = p at *
  generalize zs.length = N at *
  by_cases hp : p = 1
  · have e1 : (p == 1) = true := by simpa using hp
    have E1 := Lib.hid e1
    clear hp
    go_enter Try.func107, Try.ntmps107
    go_wp2_with fail
    with_reducible refine HA.out.mono ?_
    rintro e w1 ⟨rfl, hb3⟩
    obtain ⟨s0, s1, s2⟩ := HT.out.below hb3
    have hb3 := Lib.hid hb3
    clear t0 t1 t2
    go_wp2_with fail
    with_reducible refine (HB.out _ hb3.out).mono ?_
    rintro e w2 ⟨rfl, hb4⟩
    have hb4 := Lib.hid (grow_trans hb3.out hb4)
    go_wp2
    go_ret
    exact ⟨by rw [E1.out]; simp, hb4.out⟩
  · have e1 : (p == 1) = false := by simpa using hp
    have E1 := Lib.hid e1
    clear hp
    go_enter Try.func107, Try.ntmps107
    go_wp2_with fail
    with_reducible refine HA.out.mono ?_
    rintro e w1 ⟨rfl, hb3⟩
    have hb3 := Lib.hid hb3
    go_wp2
    go_ret
    exact ⟨by rw [E1.out]; simp, hb3.out⟩
set_option maxHeartbeats 4000000 in
theorem reachable_any (x y : Int) (u : Value) (zs : List Int) (va : Value) (cs : List Int) (w : World) (h : Sl w 1 u zs.length (ints zs)) (ha : Sl w 1 va cs.length (ints cs)) (h1 : 1 ≤ x) (h2 : x ≤ 5) (hm25 : zs.length ≤ 25) (hcl : cs.length ≤ 25) (hcs : ∀ z ∈ cs, 0 ≤ z ∧ z ≤ (zs.length : Int) - 1) :
    Calls Try.prog 83 #[terrV x y u, va] w (RetOwn w 3 1 (rchL (fireS zs cs) (fireT x zs) zs.length).length (ints (rchL (fireS zs cs) (fireT x zs) zs.length))) := by
  have hEq : rchL (fun c => c ∈ cs.filter (burnZ zs)) (fun a b => (0 ≤ b ∧ b ≤ (zs.length : Int) - 1) ∧ (fun a b => (apartN x a b == 1) && burnZ zs b) a b = true) zs.length = rchL (fireS zs cs) (fireT x zs) zs.length := by
    refine rchL_congr (fun c => ?_) (fun a b => ?_)
    · unfold fireS; rw [List.mem_filter]
    · unfold fireT; simp only [Bool.and_eq_true, beq_iff_eq]; rw [apartN_comm x a b]
  have HFl := Lib.hid fun W (hW : Below w.heap.size w W) => filter_any va cs 74 #[terrV x y u] #[] (burnZ zs) W (ha.below hW) (by omega) callFunc_burns
    (fun W' z hz hW' => by
      have := burns_anyZ x y u zs z W' (h.below (grow_trans hW hW')) (hcs z hz).1 (hcs z hz).2
      simpa using this)
  have HFd := Lib.hid fun W nv (hW : Below w.heap.size w W) (hT : TB W w.heap.size x y u) (hnv : Sl W 1 nv (cs.filter (burnZ zs)).length (ints (cs.filter (burnZ zs)))) =>
    flood_any x y u zs nv (cs.filter (burnZ zs)) 107 #[.pointer (some ⟨w.heap.size, 0, none⟩)] (fun a b => (apartN x a b == 1) && burnZ zs b) W (h.below hW) hnv hm25 (Nat.le_trans (List.length_filter_le _ _) hcl) (fun z hz => hcs z (List.mem_filter.1 hz).1) callFunc_rea
      (fun W' a b ha1 ha2 hb1 hb2 hW' => by
        have := rea1_any x y u zs w.heap.size a b W' (hT.below hW') (h.below (grow_trans hW hW')) h1 h2 hm25 ha1 ha2 hb1 hb2
        simpa using this)
  rw [hEq] at HFd
  obtain ⟨A, c, rfl⟩ := h.val
  obtain ⟨Aa, ca, rfl⟩ := ha.val
  have hTB0 : TB (w.alloc (.cells #[.int .i64 x, .int .i64 y, .slice A zs.length c] 28)) w.heap.size x y (.slice A zs.length c) := by unfold TB; simp [go_sem]
  have hbd : Below w.heap.size w (w.alloc (.cells #[.int .i64 x, .int .i64 y, .slice A zs.length c] 28)).drew := (grow_alloc _ _).drew
  have hTd := Lib.hid (hTB0.below (grow_drew _))
  have Hbd := Lib.hid hbd
  clear h ha hcs hEq hTB0 hbd
  generalize rchL (fireS zs cs) (fireT x zs) zs.length = L at *
  generalize cs.filter (burnZ zs) = fl at *
  generalize zs.length = N at *
  generalize cs.length = K at *
  go_enter Try.func83, Try.ntmps83
  go_wp2_with fail
  go_region_held_law (fun w' => w'.cell? ⟨w.heap.size, 0, none⟩ = some (.int .i64 x) ∧ w'.cell? ⟨w.heap.size, 1, none⟩ = some (.int .i64 y) ∧ w'.cell? ⟨w.heap.size, 2, none⟩ = some (.slice A N c))
    (first | go_keep | exact hT4 | exact hT5)
    (first | (go_at_call 54; with_reducible refine (HFl.out _ Hbd.out).mono ?_; intro e w4 hr4; unfold RetOwn at hr4; obtain ⟨nv, rfl, on, hb4⟩ := hr4; have on' := Lib.hid (Sl.of_own on); have hT4 := hTd.out.below hb4; have hT4' := Lib.hid hT4; have hb4' := Lib.hid (grow_trans Hbd.out hb4); clear on hb4) | (go_at_call 106; with_reducible refine (HFd.out _ _ hb4'.out hT4'.out on'.out).mono ?_; intro e w5 hr5; unfold RetOwn at hr5; obtain ⟨v5, rfl, o5, hb5⟩ := hr5; have o5' := Lib.hid o5; have hT5 := hT4'.out.below hb5; have hb5' := Lib.hid (grow_trans hb4'.out hb5); have hs4 := hb4'.out.size; clear o5 hb5))
  all_goals
    go_wp2
    go_ret
    exact ⟨_, rfl, own_base o5'.out hs4, hb5'.out⟩
set_option maxHeartbeats 2000000 in
theorem Reachable_any (x y : Int) (u : Value) (zs : List Int) (va : Value) (cs : List Int) (w : World) (h : Sl w 1 u zs.length (ints zs)) (ha : Sl w 1 va cs.length (ints cs)) :
    Calls Try.prog 40 #[terrV x y u, va] w (RetSel w (selR (oneB x y zs cs) (rchL (fireS zs cs) (fireT x zs) zs.length)) (oneB x y zs cs)) := by
  have HG := Lib.hid fun W hW => IsTerrain_any x y u zs W (h.below (w' := W) hW)
  have HS := Lib.hid fun W hW => isSet_any x y u zs.length (ints zs) va cs W (h.below (w' := W) hW) (ha.below hW)
  have HT : Hid (oneB x y zs cs = (terrB x y zs && regB zs.length cs)) := by show _ = _; unfold oneB; rw [reg_set]
  have HR : Hid (oneB x y zs cs = true → ∀ W, Below w.heap.size w W → Calls Try.prog 83 #[terrV x y u, va] W (RetOwn W 3 1 (rchL (fireS zs cs) (fireT x zs) zs.length).length (ints (rchL (fireS zs cs) (fireT x zs) zs.length)))) := by
    show _ → _
    intro hT W hW
    obtain ⟨⟨hx1, hx2⟩, hzl, hr1, hr2, hxl⟩ := one_facts hT
    exact reachable_any x y u zs va cs W (h.below hW) (ha.below hW) hx1 hx2 hzl (by omega) hr2
  have hTB0 : Hid (TB (w.alloc (.cells #[.int .i64 x, .int .i64 y, u] 28)) w.heap.size x y u) := by show TB _ _ _ _ _; unfold TB; simp [go_sem]
  have hb0 : Hid (Below w.heap.size w (w.alloc (.cells #[.int .i64 x, .int .i64 y, u] 28))) := grow_alloc _ _
  obtain ⟨A, c, rfl⟩ := h.val
  obtain ⟨Aa, ca, rfl⟩ := ha.val
  clear h ha
  generalize oneB x y zs cs = T at *
  generalize rchL (fireS zs cs) (fireT x zs) zs.length = L at *
  generalize terrB x y zs = P at *
  generalize regB zs.length cs = Q at *
  generalize zs.length = N at *
  generalize cs.length = K at *
  cases P with
  | false =>
    have HT := HT.out
    simp only [Bool.false_and] at HT
    subst HT
    go_enter Try.func40, Try.ntmps40
    go_wp2_with fail
    with_reducible refine (HG.out _ hb0.out).mono ?_
    rintro e w1 ⟨rfl, hb1⟩
    have hb1 := Lib.hid (grow_trans hb0.out hb1)
    go_wp2
    exact bodyPost_ret (v := .tuple #[.slice none 0 0, .bool false]) (by simp [results, Try.results40, go_sem]) rfl ⟨_, rfl, own_nil _ _ _ _, hb1.out⟩
  | true =>
    have HT := HT.out
    simp only [Bool.true_and] at HT
    subst HT
    cases T with
    | false =>
      go_enter Try.func40, Try.ntmps40
      go_wp2_with fail
      with_reducible refine (HG.out _ hb0.out).mono ?_
      rintro e w1 ⟨rfl, hb1⟩
      obtain ⟨t0, t1, t2⟩ := hTB0.out.below hb1
      have hb1 := Lib.hid (grow_trans hb0.out hb1)
      go_wp2_with fail
      with_reducible refine (HS.out _ hb1.out).mono ?_
      rintro e w2 ⟨rfl, hb2⟩
      have hb2 := Lib.hid (grow_trans hb1.out hb2)
      go_wp2
      exact bodyPost_ret (v := .tuple #[.slice none 0 0, .bool false]) (by simp [results, Try.results40, go_sem]) rfl ⟨_, rfl, own_nil _ _ _ _, hb2.out⟩
    | true =>
      have HR2 := Lib.hid (HR.out rfl)
      clear HR
      go_enter Try.func40, Try.ntmps40
      go_wp2_with fail
      with_reducible refine (HG.out _ hb0.out).mono ?_
      rintro e w1 ⟨rfl, hb1⟩
      have hT1 := Lib.hid (hTB0.out.below hb1)
      obtain ⟨t0, t1, t2⟩ := hT1.out
      have hb1 := Lib.hid (grow_trans hb0.out hb1)
      go_wp2_with fail
      with_reducible refine (HS.out _ hb1.out).mono ?_
      rintro e w2 ⟨rfl, hb2⟩
      obtain ⟨s0, s1, s2⟩ := hT1.out.below hb2
      have hb2 := Lib.hid (grow_trans hb1.out hb2)
      clear t0 t1 t2
      go_wp2_with fail
      with_reducible refine (HR2.out _ hb2.out).mono ?_
      rintro e w3 ⟨v, rfl, ho, hb3⟩
      have ho := Lib.hid (own_base ho hb2.out.size)
      have hb3 := Lib.hid (grow_trans hb2.out hb3)
      go_wp2
      exact bodyPost_ret (v := .tuple #[v, .bool true]) (by simp [results, Try.results40, go_sem]) rfl ⟨_, rfl, ho.out, hb3.out⟩
set_option maxHeartbeats 2000000 in
theorem sReachable_any (x y : Int) (u : Value) (zs : List Int) (va : Value) (cs : List Int) (w : World) (h : Sl w 1 u zs.length (ints zs)) (ha : Sl w 1 va cs.length (ints cs)) :
    Calls Try.prog 39 #[terrV x y u, va] w (RetSelQ w (selR (oneB x y zs cs) (rchL (fireS zs cs) (fireT x zs) zs.length)) (oneB x y zs cs)) := by
  have HA := Lib.hid fun W hW => l2Set_any x y u zs va cs W (h.below (w' := W) hW) (ha.below hW)
  have HT : Hid (oneB x y zs cs = (terrB x y zs && setB cs 0 (zs.length - 1))) := rfl
  have HR : Hid (oneB x y zs cs = true → ∀ W, Below w.heap.size w W → Calls Try.prog 81 #[terrV x y u, va] W (RetQ W 3 1 (rchL (fireS zs cs) (fireT x zs) zs.length).length (ints (rchL (fireS zs cs) (fireT x zs) zs.length)))) := by
    show _ → _
    intro hT W hW
    obtain ⟨⟨hx1, hx2⟩, hzl, hr1, hr2, hxl⟩ := one_facts hT
    have hbr : ∀ z ∈ zs, 0 ≤ z ∧ z ≤ 20 := by
      unfold oneB terrB at hT
      simp only [Bool.and_eq_true, List.all_eq_true] at hT
      intro z hz
      exact inB_iff.1 (hT.1.2 z hz)
    exact l2Reach_any x y u zs va cs W (h.below hW) (ha.below hW) hx1 hx2 hzl (by omega) hr2 hbr
  have hTB0 : Hid (TB (w.alloc (.cells #[.int .i64 x, .int .i64 y, u] 28)) w.heap.size x y u) := by show TB _ _ _ _ _; unfold TB; simp [go_sem]
  have hb0 : Hid (Below w.heap.size w (w.alloc (.cells #[.int .i64 x, .int .i64 y, u] 28))) := grow_alloc _ _
  obtain ⟨A, c, rfl⟩ := h.val
  obtain ⟨Aa, ca, rfl⟩ := ha.val
  clear h ha
  rw [← HT.out] at HA
  generalize oneB x y zs cs = T at *
  generalize rchL (fireS zs cs) (fireT x zs) zs.length = L at *
  generalize zs.length = N at *
  generalize cs.length = K at *
  cases T with
  | false =>
    go_enter Try.func39, Try.ntmps39
    go_wp2_with fail
    with_reducible refine (HA.out _ hb0.out).mono ?_
    rintro e w1 ⟨rfl, hb1⟩
    have hb1 := Lib.hid (grow_trans hb0.out hb1)
    go_wp2
    exact bodyPost_ret (v := .tuple #[.slice (some ⟨w1.heap.size, 0, none⟩) 0 0, .bool false]) (by simp [results, Try.results39, go_sem]) rfl ⟨_, rfl, (Qw.empty _ _).lower hb1.out.size, grow_trans hb1.out (grow_alloc _ _)⟩
  | true =>
    have HR2 := Lib.hid (HR.out rfl)
    clear HR
    go_enter Try.func39, Try.ntmps39
    go_wp2_with fail
    with_reducible refine (HA.out _ hb0.out).mono ?_
    rintro e w1 ⟨rfl, hb1⟩
    obtain ⟨t0, t1, t2⟩ := hTB0.out.below hb1
    have hb1 := Lib.hid (grow_trans hb0.out hb1)
    go_wp2_with fail
    with_reducible refine (HR2.out _ hb1.out).mono ?_
    rintro e w3 ⟨v, rfl, ho, hb3⟩
    have ho := Lib.hid (ho.lower hb1.out.size)
    have hb3 := Lib.hid (grow_trans hb1.out hb3)
    go_wp2
    exact bodyPost_ret (v := .tuple #[v, .bool true]) (by simp [results, Try.results39, go_sem]) rfl ⟨_, rfl, ho.out, hb3.out⟩
end Go.Proofs.Ytjobjdmheocheaa
