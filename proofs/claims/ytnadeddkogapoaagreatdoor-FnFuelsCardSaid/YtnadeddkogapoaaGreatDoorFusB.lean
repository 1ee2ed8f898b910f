/- Whether fuels' names differ, whether fuels are valid, in the program and in the reference. Conditions: as each states. -/
import Derived.Test.YtnadeddkogapoaaGreatDoorFusA
namespace Go.Proofs.YtnadeddkogapoaaGreatDoor
open Go.ChangeShapes Go.WideShapes Go.ChangeAt Go.RowKit Go.Deep
open Go.Maps (Keyed IsMap)
set_option linter.unusedVariables false
set_option linter.unusedSimpArgs false
set_option maxRecDepth 100000

/-- A look-up in a map to a Bool that the call itself has made. -/
theorem wpList_lookup_own_bool {P : Program} (w : World) {ops : Array Oper} {rest : List Oper} {o : Oper} {a : Act} {Q : Exit → Act → World → Prop}
    (hg : o.guard = none) (m x : Operand) (t : TypeId) (hop : o.op = Op.lookup t m x false)
    (k e : TypeId) (K : Keyed P k) (ht : P.underlying t = some (.map k e)) (he : P.underlying e = some .bool) (hz : (zeroValue e).run P w = .ok (.bool false) w) (b n : Nat) (D : DataW Unit)
    (hm : a.eval m = .map (some b)) (hown : w.ownsMap P k (plainElem P e) b n D) (key : Value) (kl : Lit) (hx : a.eval x = key) (hkey : keyOf P k key = some kl)
    (c : Bool) (hat : D.atKey kl (.lit (.bool false)) = .lit (.bool c)) (hK : wpList P ops Q rest (a.put o.dst (.bool c)) w) :
    wpList P ops Q (o :: rest) a w := by
  refine wpList_plain hg fun K' hK' => ?_
  obtain ⟨v, ps, hrun, hv⟩ := hown.lookup K ht hz (plainElem_bool he false) hkey
  rw [hat] at hv
  have hvc : v = .bool c := by
    unfold plainElem at hv
    rw [he] at hv
    cases v <;> simp at hv
    rw [hv.1]
  subst hvc
  unfold Oper.wp
  simp [execOp, hop, hm, hx, hrun, Result.andThen]
  exact hK' _ _ hK
/-- The names among the first fuels, as a map's datum. -/
def seenD (ps : List Fu) : Nat → DataW Unit
  | 0 => .map []
  | k + 1 => (seenD ps k).put (.string (nmF ps k).data.toList) (.lit (.bool true))
theorem seen_map (ps : List Fu) (k : Nat) : IsMap (seenD ps k) := by
  induction k with
  | zero => exact Maps.isMap_empty
  | succ k ih => exact ih.put _ _
theorem toList_inj {s t : ByteArray} (h : s.data.toList = t.data.toList) : s = t := by
  cases s; cases t; simp at h; simp [h]
theorem beqL_no {s t : ByteArray} (h : s ≠ t) : (s.toList == t.toList) = false := by
  rw [ByteArray.toList_eq, ByteArray.toList_eq, beq_eq_false_iff_ne]
  exact fun e => h (toList_inj e)
theorem seen_at (ps : List Fu) (s : ByteArray) (k : Nat) : (seenD ps k).atKey (.string s.data.toList) (.lit (.bool false)) = .lit (.bool (!((List.range k).all fun j => decide (nmF ps j ≠ s)))) := by
  induction k with
  | zero => rfl
  | succ k ih =>
    rw [List.range_succ, List.all_append]
    by_cases e : nmF ps k = s
    · have : seenD ps (k + 1) = (seenD ps k).put (.string s.data.toList) (.lit (.bool true)) := by rw [← e]; rfl
      rw [this, Maps.atKey_put_same (seen_map ps k) (by trivial)]
      simp [e]
    · have : seenD ps (k + 1) = (seenD ps k).put (.string (nmF ps k).data.toList) (.lit (.bool true)) := rfl
      rw [this, Maps.atKey_put_other (by intro h; apply e; exact (toList_inj (by simpa using h)).symm), ih]
      simp [e]
theorem seen_ok (ps : List Fu) (k : Nat) (s : ByteArray) (h : nmF ps k = s) : (seenD ps k).atKey (.string s.data.toList) (.lit (.bool false)) = .lit (.bool (!ok2 ps k)) := by
  rw [seen_at]; unfold ok2; rw [h]
theorem skeyed : Keyed Tryz.prog 9 := Maps.string_keyed Tryz.underlying9
theorem zeroB (w : World) : (zeroValue 4).run Tryz.prog w = .ok (.bool false) w := by kernel_rfl
set_option maxHeartbeats 4000000 in
theorem differ_any (v : Value) (ps : List Fu) (w : World) (hs : Sl w 5 v ps.length (fus ps)) (hm : ∀ p ∈ ps, p.n.size ≤ maxLen) :
    Calls Tryz.prog 46 #[v, .func (.func 47) #[] #[]] w fun e w' => e = .returned (.bool (difB ps)) ∧ Below w.heap.size w w' := by
  have hmx := hs.len
  unfold maxLen at hmx
  have Hm := Lib.hid hm
  have Hno := Lib.hid fun k => dif_no (ps := ps) (k := k)
  have Hall := Lib.hid (dif_all (ps := ps))
  obtain ⟨A, c, rfl⟩ := hs.val
  generalize difB ps = R at *
  generalize hN : ps.length = N at *
  have HN := Lib.hid hN
  have Hs := Lib.hid hs
  have hmm := @run_makeMap Tryz.prog
  have hD0 : Hid ((w.alloc (.map #[] 0)).ownsMap Tryz.prog 9 (plainElem Tryz.prog 4) w.heap.size 0 (seenD ps 0)) := World.ownsMap_made _ _ _ _
  have hb0 : Hid (Below w.heap.size w (w.alloc (.map #[] 0))) := grow_alloc _ _
  clear hN hs hm
  go_enter Tryz.func46, Tryz.ntmps46
  go_wp2
  go_loopw [11] (fun i wr => ∃ k : Nat, k ≤ N ∧ i = .int .i64 k ∧ Hid (Below w.heap.size w wr) ∧ Hid (wr.ownsMap Tryz.prog 9 (plainElem Tryz.prog 4) w.heap.size k (seenD ps k)) ∧ Hid (∀ j, j < k → ok2 ps j = true)) (fun i _ => N - (intOf i).toNat)
  case atStart => exact ⟨0, Nat.zero_le _, rfl, hb0.out, hD0.out, fun j hj => by omega⟩
  case round =>
    obtain ⟨k, hk, rfl, hb, hD, hok⟩ := hrel
    by_cases hlt : k < N
    · obtain ⟨b, off, i, n, r, l, o, rfl, hx, c0, c1, c2, c3, c4⟩ := (Hs.out.below hb.out).fu HN.out hlt
      have hsz := Hm.out _ (List.mem_of_getElem? hx)
      simp only at hsz
      have hkey := Lib.hid (WideMaps.keyOf_string_mk (P := Tryz.prog) Tryz.underlying9 hsz)
      have HI := Lib.hid fun W => af2_any i n r l o W
      have hnm := nmF_at hx
      have hat := Lib.hid (seen_ok ps k n hnm)
      have hst : Hid (seenD ps (k + 1) = (seenD ps k).put (.string n.data.toList) (.lit (.bool true))) := by show _ = _; rw [← hnm]; rfl
      have hbx := Lib.hid (grow_trans hb.out (grow_alloc wr (.cells #[.int .i64 i, .string n, .int .i64 r, .int .i64 l, .int .i64 o] 25)))
      have hDx := Lib.hid (hD.out.alloc (.cells #[.int .i64 i, .string n, .int .i64 r, .int .i64 l, .int .i64 o] 25))
      have Hnk := Lib.hid (Hno.out k hlt)
      have hpv := Lib.hid (plainElem_bool (H := Unit) (P := Tryz.prog) Tryz.underlying4 true)
      clear hx hnm hsz Hno
      cases hq : ok2 ps k with
      | false =>
        have hR := Hnk.out hq
        subst hR
        have hat2 := hat.out
        rw [hq] at hat2
        have hat2 := Lib.hid hat2
        clear Hall Hnk hq hat
        go_wp2_with fail
        with_reducible refine (HI.out _).mono ?_
        rintro e w2 ⟨rfl, hb2⟩
        have hD2 := Lib.hid (hDx.out.kept (grownBy_of_below (r := none) hb2) (by simp))
        have hb2 := Lib.hid (grow_trans hbx.out hb2)
        go_wp2_with (at_lookup; refine wpList_lookup_own_bool _ rfl _ _ 94 rfl 9 4 skeyed Tryz.underlying94 Tryz.underlying4 (zeroB _) w.heap.size k (seenD ps k) rfl hD2.out _ _ rfl hkey.out true hat2.out ?_)
        go_ret
        exact ⟨rfl, hb2.out⟩
      | true =>
        have hok1 : Hid (∀ m, m < k + 1 → ok2 ps m = true) := fun m hm => by
          by_cases e : m < k
          · exact hok.out m e
          · obtain rfl : m = k := by omega
            exact hq
        have hat2 := hat.out
        rw [hq] at hat2
        have hat2 := Lib.hid hat2
        clear Hall Hnk hq hat
        go_wp2_with fail
        with_reducible refine (HI.out _).mono ?_
        rintro e w2 ⟨rfl, hb2⟩
        have hc2 := (bcell hb2).1
        have hD2 := Lib.hid (hDx.out.kept (grownBy_of_below (r := none) hb2) (by simp))
        have hb3 := Lib.hid (grow_trans hbx.out hb2)
        go_wp2_with (at_lookup; refine wpList_lookup_own_bool _ rfl _ _ 94 rfl 9 4 skeyed Tryz.underlying94 Tryz.underlying4 (zeroB _) w.heap.size k (seenD ps k) rfl hD2.out _ _ rfl hkey.out false hat2.out ?_)
        with_reducible refine (HI.out _).mono ?_
        rintro e w4 ⟨rfl, hb4⟩
        have hD4 := Lib.hid (hD2.out.kept (grownBy_of_below (r := none) hb4) (by simp))
        have hb4 := Lib.hid (grow_trans hb3.out hb4)
        clear hb2
        go_wp2_with ((at_mapUpdate; refine wpList_mapUpdate_own _ rfl _ _ _ 94 rfl 9 4 skeyed Tryz.underlying94 _ w.heap.size k _ rfl hD4.out (by unfold maxLen; omega) _ _ _ rfl rfl hkey.out _ [] hpv.out ?_))
        intro w5 hD5 hg5
        have hb5 := Lib.hid (hb4.out.grown hg5 hb4.out.size (fun j hj => by cases hj; exact Nat.le_refl _))
        have hD5 := Lib.hid hD5
        clear hg5
        go_wp2
        go_roundw
        case rel => exact ⟨k + 1, by omega, by go_num, hb5.out, by show World.ownsMap _ _ _ _ _ _ _; rw [hst.out]; exact hD5.out, hok1.out⟩
        case measure => simp [intOf]; omega
    · obtain rfl : k = N := by omega
      have hR := Hall.out hok.out
      subst hR
      clear Hall Hno
      go_wp2
      go_ret
      exact ⟨rfl, hb.out⟩
theorem AreFuels_any (v : Value) (ps : List Fu) (w : World) (hs : Sl w 5 v ps.length (fus ps)) (hm : ∀ p ∈ ps, p.n.size ≤ maxLen) :
    Calls Tryz.prog 16 #[v] w fun e w' => e = .returned (.bool (areB ps)) ∧ Below w.heap.size w w' := by
  have HL := Lib.hid (areListed_any v ps w hs hm)
  have HD := Lib.hid fun W hW => differ_any v ps W (hs.below (w' := W) hW) hm
  have HA : Hid (areB ps = (lstB ps && difB ps)) := rfl
  obtain ⟨A, c, rfl⟩ := hs.val
  clear hs hm
  generalize areB ps = R at *
  generalize lstB ps = L at *
  generalize difB ps = D at *
  cases L with
  | false =>
    have hR : R = false := by rw [HA.out]; rfl
    subst hR
    go_enter Tryz.func16, Tryz.ntmps16
    go_wp2_with fail
    with_reducible refine HL.out.mono ?_
    rintro e w1 ⟨rfl, hb1⟩
    go_wp2
    go_ret
    exact ⟨rfl, hb1⟩
  | true =>
    have hR : R = D := by rw [HA.out]; simp
    subst hR
    go_enter Tryz.func16, Tryz.ntmps16
    go_wp2_with fail
    with_reducible refine HL.out.mono ?_
    rintro e w1 ⟨rfl, hb1⟩
    go_wp2_with fail
    with_reducible refine (HD.out _ hb1).mono ?_
    rintro e w2 ⟨rfl, hb2⟩
    have hb2 := grow_trans hb1 hb2
    go_wp2
    go_ret
    exact ⟨rfl, hb2⟩
end Go.Proofs.YtnadeddkogapoaaGreatDoor
