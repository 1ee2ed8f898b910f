/- JoinStrings in the program and in the reference. Conditions: as each states. -/
import Derived.Test.YtddnghfioghidaaDoorStrC
import Derived.Test.YtddnghfioghidaaDoorStand
import Derived.Test.YtddnghfioghidaaDoorShelfJ
import Derived.Test.YtddnghfioghidaaDoorShelfC
namespace Go.Proofs.YtddnghfioghidaaDoor
open Go.ChangeShapes Go.WideShapes Go.ChangeAt Go.RowKit Go.Deep
set_option linter.unusedVariables false
set_option linter.unusedSimpArgs false
set_option maxRecDepth 100000

/-- The first strings with a byte between them. -/
def jnS (c : UInt8) (ss : List ByteArray) (k : Nat) : ByteArray := bs (Lib.join ((ss.take k).map (·.data.toList)) [c])
theorem bs_data (x : ByteArray) : bs x.data.toList = x := by unfold bs; simp
theorem jn_zero (c : UInt8) (ss : List ByteArray) : jnS c ss 0 = ⟨#[]⟩ := rfl
theorem jn_one {c : UInt8} {ss : List ByteArray} {x : ByteArray} (h : ss[0]? = some x) : jnS c ss 1 = x := by
  cases ss with
  | nil => simp at h
  | cons y r =>
    simp at h
    subst h
    show bs (Lib.join [y.data.toList] [c]) = y
    rw [Lib.join_one, bs_data]
theorem jn_succ {c : UInt8} {ss : List ByteArray} {k : Nat} {x : ByteArray} (hk : 0 < k) (h : ss[k]? = some x) : jnS c ss (k + 1) = jnS c ss k ++ ⟨#[c]⟩ ++ x := by
  cases ss with
  | nil => simp at h
  | cons y r =>
    obtain ⟨j, rfl⟩ : ∃ j, k = j + 1 := ⟨k - 1, by omega⟩
    have h' : r[j]? = some x := by simpa using h
    have hm : (r.map (·.data.toList))[j]? = some x.data.toList := by simp [h']
    have e := Lib.joinTail_take_succ [c] (r.map (·.data.toList)) j _ hm
    unfold jnS
    rw [List.take_succ_cons, List.take_succ_cons, List.map_cons, List.map_cons, Lib.join_cons, Lib.join_cons, List.map_take, List.map_take, e]
    rw [← bs_data x]
    show _ = bs _ ++ bs [c] ++ bs _
    rw [bs_app, bs_app]
    simp [bs]
theorem jn_size {c : UInt8} {ss : List ByteArray} : ∀ {k : Nat}, 0 < k → k ≤ ss.length → (jnS c ss k).size = ssum (ss.take k) + (k - 1)
  | 0, h, _ => by omega
  | 1, _, hk => by
    obtain ⟨x, hx⟩ : ∃ x, ss[0]? = some x := ⟨_, List.getElem?_eq_getElem (by omega)⟩
    rw [jn_one hx, ssum_succ hx]; simp [ssum]
  | k + 2, _, hk => by
    obtain ⟨x, hx⟩ : ∃ x, ss[k + 1]? = some x := ⟨_, List.getElem?_eq_getElem (by omega)⟩
    have ih := jn_size (c := c) (ss := ss) (k := k + 1) (by omega) (by omega)
    rw [jn_succ (by omega) hx, ssum_succ hx, app_size, app_size, one_size, ih]; omega
/-- The strings may be joined. -/
def jnB (c : UInt8) (ss : List ByteArray) : Bool := decide (0 < ss.length) && ss.all (fun s => !hasC s c) && decide ((jnS c ss ss.length).size ≤ 4000)
def jnV (b : Bool) (t : ByteArray) : Value := if b then .tuple #[.string t, .bool true] else .tuple #[.string ⟨#[]⟩, .bool false]
theorem jnV_shape (b : Bool) (t : ByteArray) : ∃ m c, jnV b t = .tuple #[.string m, .bool c] := by cases b <;> exact ⟨_, _, rfl⟩
/-- The result of JoinStrings. -/
def joR (ss : List ByteArray) (sep : ByteArray) : Value := jnV (decide (sep.size = 1) && jnB (sep.data.getD 0 0) ss) (jnS (sep.data.getD 0 0) ss ss.length)
theorem one_of {sep : ByteArray} (h : sep.size = 1) : ∃ c, sep = ⟨#[c]⟩ := by
  obtain ⟨⟨l⟩⟩ := sep
  match l, h with
  | [c], _ => exact ⟨c, rfl⟩
theorem joR_one (ss : List ByteArray) (c : UInt8) : joR ss ⟨#[c]⟩ = jnV (jnB c ss) (jnS c ss ss.length) := by
  unfold joR
  rw [decide_eq_true (one_size c)]; rfl
theorem joR_no {ss : List ByteArray} {sep : ByteArray} (h : ¬ sep.size = 1) : joR ss sep = .tuple #[.string ⟨#[]⟩, .bool false] := by
  unfold joR
  rw [decide_eq_false h]; rfl
theorem jnB_zero {c : UInt8} {ss : List ByteArray} (h : ss.length = 0) : jnB c ss = false := by unfold jnB; simp [h]
theorem jnB_has {c : UInt8} {ss : List ByteArray} {k : Nat} {x : ByteArray} (hx : ss[k]? = some x) (h : hasC x c = true) : jnB c ss = false := by
  unfold jnB
  have : ss.all (fun s => !hasC s c) = false := by
    rw [List.all_eq_false]
    exact ⟨x, List.mem_of_getElem? hx, by simp [h]⟩
  rw [this]; simp
theorem jnB_long {c : UInt8} {ss : List ByteArray} {k : Nat} (hk : k ≤ ss.length) (h0 : 0 < k) (h : 4000 < ssum (ss.take k) + (ss.length - 1)) : jnB c ss = false := by
  unfold jnB
  have h1 := jn_size (c := c) (ss := ss) (k := ss.length) (by omega) (Nat.le_refl _)
  rw [List.take_length] at h1
  have h2 := ssum_take ss k
  rw [decide_eq_false (show ¬ (jnS c ss ss.length).size ≤ 4000 by omega), Bool.and_false]
theorem jnB_grow {c : UInt8} {ss : List ByteArray} {k : Nat} (hk : k ≤ ss.length) (h0 : 0 < k) (h : 4000 < (jnS c ss k).size) : jnB c ss = false := by
  refine jnB_long hk h0 ?_
  rw [jn_size h0 hk] at h
  omega
theorem jnB_yes {c : UInt8} {ss : List ByteArray} (h0 : 0 < ss.length) (h1 : ∀ (j : Nat) x, ss[j]? = some x → hasC x c = false) (h2 : (jnS c ss ss.length).size ≤ 4000) : jnB c ss = true := by
  unfold jnB
  have : ss.all (fun s => !hasC s c) = true := by
    rw [List.all_eq_true]
    intro s hs
    obtain ⟨j, hj⟩ := List.getElem?_of_mem hs
    simp [h1 j s hj]
  rw [decide_eq_true h0, this, decide_eq_true h2]; rfl
theorem nil_app (x : ByteArray) : (⟨#[]⟩ : ByteArray) ++ x = x := by
  rw [← bs_data x]
  show bs [] ++ bs _ = _
  rw [bs_app]; rfl
theorem jnS_app {c : UInt8} {ss : List ByteArray} {k : Nat} (h0 : 0 < k) (hk : k ≤ ss.length) : (jnS c ss k).size ≤ ssum ss + ss.length := by
  rw [jn_size h0 hk]
  have := ssum_take ss k
  omega
theorem Contains_any (s : ByteArray) (c : UInt8) (W : World) : Calls Tryd.prog 80 #[.string s, .string ⟨#[c]⟩] W fun e w' => e = .returned (.bool (hasC s c)) ∧ w' = W := by
  have := Tryd.strings_Contains_one s c W
  rw [← Lib.contains_iff_indexByte] at this
  exact this
set_option maxHeartbeats 4000000 in
theorem JoinStrings_any (v : Value) (ss : List ByteArray) (sep : ByteArray) (w : World) (h : Sl w 1 v ss.length (strs ss)) (hz : sszN ss ≤ 1048576) (hp : sep.size ≤ 1048576) :
    Calls Tryd.prog 29 #[v, .string sep] w fun e w' => e = .returned (joR ss sep) ∧ Below w.heap.size w w' := by
  unfold sszN at hz
  have hmx := h.len
  unfold maxLen at hmx
  obtain ⟨A, cp, rfl⟩ := h.val
  rcases Nat.eq_zero_or_pos ss.length with h0 | h0
  · have hV : joR ss sep = .tuple #[.string ⟨#[]⟩, .bool false] := by
      by_cases e : sep.size = 1
      · obtain ⟨c, rfl⟩ := one_of e
        rw [joR_one, jnB_zero h0]; rfl
      · exact joR_no e
    rw [hV]
    clear h hV
    rw [h0]
    go_enter Tryd.func29, Tryd.ntmps29
    go_wp2
    go_ret2
    exact ⟨rfl, Below.refl _ _⟩
  · have h0' : ((ss.length : Int) == 0) = false := by rw [beq_eq_false_iff_ne]; omega
    by_cases e : sep.size = 1
    · obtain ⟨c, rfl⟩ := one_of e
      clear e hp
      rw [joR_one]
      have Hs := Lib.hid h
      have HHas : Hid (∀ (k : Nat) x, ss[k]? = some x → hasC x c = true → jnB c ss = false) := fun k x h1 h2 => jnB_has h1 h2
      have HLong : Hid (∀ k : Nat, k ≤ ss.length → 0 < k → 4000 < ssum (ss.take k) + (ss.length - 1) → jnB c ss = false) := fun k h1 h2 h3 => jnB_long h1 h2 h3
      have HYes : Hid ((∀ (j : Nat) x, ss[j]? = some x → hasC x c = false) → ssum ss + (ss.length - 1) ≤ 4000 → jnB c ss = true) := fun h1 h2 => jnB_yes h0 h1 (by
        rw [jn_size h0 (Nat.le_refl _), List.take_length]; exact h2)
      have HSu : Hid (∀ (k : Nat) x, ss[k]? = some x → ssum (ss.take (k + 1)) = ssum (ss.take k) + x.size) := fun k x hx => ssum_succ hx
      have HTk : Hid (∀ k, ssum (ss.take k) ≤ ssum ss) := ssum_take ss
      have hAll : Hid (ssum (ss.take ss.length) = ssum ss) := by show _ = _; rw [List.take_length]
      have HLn : Hid (∀ (k : Nat) x, ss[k]? = some x → k < ss.length) := fun k x hx => (List.getElem?_eq_some_iff.1 hx).1
      have HJ : Hid (∀ W, Sl W 1 (.slice A ss.length cp) ss.length (strs ss) → ssum ss + (ss.length - 1) ≤ 4000 → Calls Tryd.prog 75 #[.slice A ss.length cp, .string ⟨#[c]⟩] W fun e w' => e = .returned (.string (jnS c ss ss.length)) ∧ Below W.heap.size W w') := by
        show ∀ W, _
        intro W hW hle
        obtain ⟨b, off, x0, rfl, hx0, hc0⟩ := hW.at1 rfl h0
        have hcap : ss.length ≤ cp := by
          obtain ⟨A2, c2, e2, h2, _⟩ := hW
          cases e2; exact h2
        have := Tryd.strings_Join b off cp ss ⟨#[c]⟩ W (fun j x hj => by
          obtain ⟨b1, off1, x1, e1, hx1, hc1⟩ := hW.at1 rfl (i := j) (List.getElem?_eq_some_iff.1 hj).1
          obtain ⟨rfl, rfl⟩ : b = b1 ∧ off = off1 := by simpa using e1
          obtain rfl : x = x1 := by rw [hj] at hx1; exact Option.some.inj hx1
          exact hc1) (World.block_lt_of_cell? _ _ hc0) (by omega) hcap (by
            have h1 := jn_size (c := c) (ss := ss) h0 (Nat.le_refl _)
            unfold jnS at h1
            rw [List.take_length, bs_size] at h1
            show (Lib.join _ [c]).length ≤ _
            omega)
        have e2 : jnS c ss ss.length = ⟨(Lib.join (ss.map (·.data.toList)) [c]).toArray⟩ := by unfold jnS bs; rw [List.take_length]
        rw [e2]
        exact this
      clear h
      generalize jnB c ss = B at *
      generalize jnS c ss ss.length = J at *
      generalize hN : ss.length = N at *
      have HN := Lib.hid hN
      clear hN
      go_enter Tryd.func29, Tryd.ntmps29
      go_wp2
      go_loop [6, 22] (fun q i => ∃ k : Nat, k ≤ N ∧ i = .int .i64 k ∧ q = .int .i64 ((N : Int) - 1 + (ssum (ss.take k) : Nat)) ∧ Hid (∀ (j : Nat) x, j < k → ss[j]? = some x → hasC x c = false) ∧ Hid (0 < k → ssum (ss.take k) + (N - 1) ≤ 4000)) (fun _ i => N - (intOf i).toNat)
      case atStart => exact ⟨0, Nat.zero_le _, rfl, by simp [ssum], fun j x hj => by omega, fun h => by omega⟩
      case round =>
        obtain ⟨k, hk, rfl, rfl, hno, hle⟩ := hrel
        by_cases hlt : k < N
        · have hlz : (k : Int) < (N : Int) := by omega
          obtain ⟨b, off, x, rfl, hx, hcx⟩ := Hs.out.at1 HN.out hlt
          have hsu := HSu.out k x hx
          have htk := HTk.out (k + 1)
          have Hx := Lib.hid hx
          clear hx
          have Hsu := Lib.hid hsu
          rw [hsu] at htk
          clear hsu
          generalize ssum (ss.take k) = q at *
          by_cases hlong : 4000 < q + x.size + (N - 1)
          · have hB := HLong.out (k + 1) (by omega) (by omega) (by rw [Hsu.out]; exact hlong)
            subst hB
            go_wp2
            go_ret2
            exact ⟨rfl, Below.refl _ _⟩
          · have HC := Lib.hid fun W => Contains_any x c W
            cases hh : hasC x c with
            | true =>
              have hB := HHas.out k x Hx.out hh
              subst hB
              rw [hh] at HC
              go_wp2_with fail
              refine (HC.out _).mono ?_
              rintro e w2 ⟨rfl, rfl⟩
              go_wp2
              go_ret2
              exact ⟨rfl, Below.refl _ _⟩
            | false =>
              rw [hh] at HC
              have Hh := Lib.hid hh
              clear hh
              go_wp2_with fail
              refine (HC.out _).mono ?_
              rintro e w2 ⟨rfl, rfl⟩
              go_wp2
              go_round
              case rel =>
                refine ⟨k + 1, by omega, by go_num, by rw [Hsu.out]; simp; omega, fun j y hj hy => ?_, fun _ => by rw [Hsu.out]; omega⟩
                by_cases e : j = k
                · subst e
                  rw [Hx.out] at hy
                  cases hy
                  exact Hh.out
                · exact hno.out j y (by omega) hy
              case measure => simp [intOf]; omega
        · obtain rfl : k = N := by omega
          have hle2 := hle.out h0
          rw [hAll.out] at hle2
          have hB := HYes.out (fun j x hx => hno.out j x (HLn.out j x hx) hx) hle2
          subst hB
          have HJ2 := Lib.hid (HJ.out _ Hs.out hle2)
          go_wp2_with fail
          with_reducible refine HJ2.out.mono ?_
          rintro e w2 ⟨rfl, hb2⟩
          go_wp2
          go_ret2
          exact ⟨rfl, hb2⟩
    · have e' : ((sep.size : Int) == 1) = false := by rw [beq_eq_false_iff_ne]; omega
      rw [joR_no e]
      clear h
      generalize hN : ss.length = N at *
      clear hN
      go_enter Tryd.func29, Tryd.ntmps29
      go_wp2
      go_ret2
      exact ⟨rfl, Below.refl _ _⟩
set_option maxHeartbeats 4000000 in
theorem sJoinStrings_any (v : Value) (ss : List ByteArray) (sep : ByteArray) (w : World) (h : Sl w 1 v ss.length (strs ss)) (hz : sszN ss ≤ 1048576) (hp : sep.size ≤ 1048576) :
    Calls Tryd.prog 30 #[v, .string sep] w fun e w' => e = .returned (joR ss sep) ∧ Below w.heap.size w w' := by
  unfold sszN at hz
  have hmx := h.len
  unfold maxLen at hmx
  obtain ⟨A, cp, rfl⟩ := h.val
  by_cases e : sep.size = 1
  · obtain ⟨c, rfl⟩ := one_of e
    clear e hp
    rw [joR_one]
    rcases Nat.eq_zero_or_pos ss.length with h0 | h0
    · rw [jnB_zero h0, h0]
      clear h
      go_enter Tryd.func30, Tryd.ntmps30
      go_wp2
      go_ret2
      exact ⟨rfl, Below.refl _ _⟩
    · have h0' : ((ss.length : Int) == 0) = false := by rw [beq_eq_false_iff_ne]; omega
      have Hs := Lib.hid h
      have HHas : Hid (∀ (k : Nat) x, ss[k]? = some x → hasC x c = true → jnB c ss = false) := fun k x h1 h2 => jnB_has h1 h2
      have HGrow : Hid (∀ k : Nat, k ≤ ss.length → 0 < k → 4000 < (jnS c ss k).size → jnB c ss = false) := fun k h1 h2 h3 => jnB_grow h1 h2 h3
      have HYes : Hid ((∀ (j : Nat) x, ss[j]? = some x → hasC x c = false) → (jnS c ss ss.length).size ≤ 4000 → jnB c ss = true) := fun h1 h2 => jnB_yes h0 h1 h2
      have HOne : Hid (∀ x, ss[0]? = some x → jnS c ss 1 = x) := fun x hx => jn_one hx
      have HSu : Hid (∀ (k : Nat) x, 0 < k → ss[k]? = some x → jnS c ss (k + 1) = jnS c ss k ++ ⟨#[c]⟩ ++ x) := fun k x h1 hx => jn_succ h1 hx
      have HMem : Hid (∀ (k : Nat) x, ss[k]? = some x → x.size ≤ 1048576) := fun k x hx => by
        have := ssum_mem (List.mem_of_getElem? hx)
        omega
      have HLn : Hid (∀ (k : Nat) x, ss[k]? = some x → k < ss.length) := fun k x hx => (List.getElem?_eq_some_iff.1 hx).1
      have hZ : Hid (jnS c ss 0 = ⟨#[]⟩) := jn_zero c ss
      clear h
      generalize jnB c ss = B at *
      generalize hN : ss.length = N at *
      have HN := Lib.hid hN
      clear hN
      go_enter Tryd.func30, Tryd.ntmps30
      go_wp2
      go_loopw [6, 7] (fun q i wr => ∃ (k : Nat) (t : ByteArray), k ≤ N ∧ i = .int .i64 k ∧ q = .string t ∧ t.size ≤ 4000 ∧ Hid (jnS c ss k = t) ∧ Hid (Below w.heap.size w wr) ∧ Hid (∀ (j : Nat) x, j < k → ss[j]? = some x → hasC x c = false)) (fun _ i _ => N - (intOf i).toNat)
      case atStart => exact ⟨0, ⟨#[]⟩, Nat.zero_le _, rfl, rfl, Nat.zero_le _, hZ.out, Below.refl _ _, fun j x hj => by omega⟩
      case round =>
        obtain ⟨k, t, hk, rfl, rfl, ht4, htk, hb, hno⟩ := hrel
        by_cases hlt : k < N
        · have hlz : (k : Int) < (N : Int) := by omega
          obtain ⟨b, off, x, rfl, hx, hcx⟩ := (Hs.out.below hb.out).at1 HN.out hlt
          have hxz := HMem.out k x hx
          have Hx := Lib.hid hx
          clear hx
          have HC := Lib.hid fun W => l1Stands_any x c W (by unfold maxLen; omega)
          cases hh : hasC x c with
          | true =>
            have hB := HHas.out k x Hx.out hh
            subst hB
            rw [hh] at HC
            go_wp2_with fail
            go_quiet ((go_at_call 81; exact quiet_same (HC.out _)))
            go_wp2
            go_ret2
            exact ⟨rfl, hb.out.trans ((grow_drewN _ _).mono hb.out.size)⟩
          | false =>
            rw [hh] at HC
            have Hh := Lib.hid hh
            have Hno : Hid (∀ (j : Nat) y, j < k + 1 → ss[j]? = some y → hasC y c = false) := fun j y hj hy => by
              by_cases e : j = k
              · subst e
                rw [Hx.out] at hy
                cases hy
                exact Hh.out
              · exact hno.out j y (by omega) hy
            clear hh hno
            rcases Nat.eq_zero_or_pos k with hk0 | hk0
            · subst hk0
              rw [Nat.add_zero] at hcx
              have ht0 : t = ⟨#[]⟩ := by rw [← htk.out, hZ.out]
              subst ht0
              have H1 := Lib.hid (HOne.out x Hx.out)
              by_cases hxl : 4000 < x.size
              · have hB := HGrow.out 1 (by omega) (by omega) (by rw [H1.out]; exact hxl)
                subst hB
                have hxl' : 4000 < ((⟨#[]⟩ : ByteArray) ++ x).size := by rw [nil_app]; exact hxl
                have e1 := nil_app x
                go_wp2_with fail
                go_quiet ((go_at_call 81; exact quiet_same (HC.out _)))
                go_wp2
                go_ret2
                exact ⟨rfl, hb.out.trans ((grow_drewN _ _).mono hb.out.size)⟩
              · have e1 := nil_app x
                go_wp2_with fail
                go_quiet ((go_at_call 81; exact quiet_same (HC.out _)))
                go_wp2
                go_roundw
                case rel => exact ⟨0 + 1, x, by omega, by go_num, by first | rfl | rw [e1], by omega, H1.out, hb.out.trans ((grow_drewN _ _).mono hb.out.size), Hno.out⟩
                case measure => simp [intOf]; omega
            · have hkz : (0 : Int) < (k : Int) := by omega
              have H1 := Lib.hid (HSu.out k x hk0 Hx.out)
              have z1 : (t ++ (⟨#[c]⟩ : ByteArray)).size ≤ 4001 := by rw [app_size, one_size]; omega
              by_cases hxl : 4000 < t.size + 1 + x.size
              · have hB := HGrow.out (k + 1) (by omega) (by omega) (by rw [H1.out, htk.out, app_size, app_size, one_size]; exact hxl)
                subst hB
                have hz1 := one_size c
                go_wp2_with fail
                go_quiet ((go_at_call 81; exact quiet_same (HC.out _)))
                go_wp2
                go_ret2
                exact ⟨rfl, hb.out.trans ((grow_drewN _ _).mono hb.out.size)⟩
              · have hz1 := one_size c
                go_wp2_with fail
                go_quiet ((go_at_call 81; exact quiet_same (HC.out _)))
                go_wp2
                go_roundw
                case rel => exact ⟨k + 1, t ++ ⟨#[c]⟩ ++ x, by omega, by go_num, rfl, by rw [app_size, app_size, one_size]; omega, by show _ = _; rw [H1.out, htk.out], hb.out.trans ((grow_drewN _ _).mono hb.out.size), Hno.out⟩
                case measure => simp [intOf]; omega
        · obtain rfl : k = N := by omega
          have hB := HYes.out (fun j x hx => hno.out j x (HLn.out j x hx) hx) (by rw [htk.out]; exact ht4)
          subst hB
          have HT := htk.out
          go_wp2
          go_ret2
          first | exact ⟨rfl, hb.out⟩ | exact ⟨by rw [HT]; rfl, hb.out⟩
  · have e' : ((sep.size : Int) == 1) = false := by rw [beq_eq_false_iff_ne]; omega
    rw [joR_no e]
    clear h
    generalize hN : ss.length = N at *
    clear hN
    go_enter Tryd.func30, Tryd.ntmps30
    go_wp2
    go_ret2
    exact ⟨rfl, Below.refl _ _⟩
end Go.Proofs.YtddnghfioghidaaDoor
