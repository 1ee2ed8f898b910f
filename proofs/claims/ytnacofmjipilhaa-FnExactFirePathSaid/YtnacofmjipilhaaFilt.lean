/- The program's has and filter over numbers. Conditions: as each states. -/
import Derived.Test.YtnacofmjipilhaaSet2
import Derived.Test.YtnacofmjipilhaaSel
namespace Go.Proofs.Ytnacofmjipilhaa
open Go.ChangeShapes Go.WideShapes Go.ChangeAt Go.RowKit Go.Deep
set_option linter.unusedVariables false
set_option linter.unusedSimpArgs false
set_option maxRecDepth 100000

set_option maxHeartbeats 1000000 in
theorem Index_int_any (v : Value) (zs : List Int) (x : Int) (w : World) (h : Sl w 1 v zs.length (ints zs)) :
    Calls Try.prog 197 #[v, .int .i64 x] w fun e w' => e = .returned (.int .i64 (idxOf (fun z => z == x) zs)) ∧ w = w' := by
  have hmx := h.len
  unfold maxLen at hmx
  obtain ⟨A, c, rfl⟩ := h.val
  generalize hN : zs.length = N at h hmx
  have HN := Lib.hid hN
  have Hs := Lib.hid h
  clear hN h
  go_enter Try.func197, Try.ntmps197
  go_wp2
  go_loop [8] (fun i => ∃ k : Nat, k ≤ N ∧ i = .int .i64 k ∧ Hid (∀ (j : Nat) (z : Int), j < k → zs[j]? = some z → (z == x) = false)) (fun i => N - (intOf i).toNat)
  case atStart => exact ⟨0, Nat.zero_le _, rfl, fun j z hj => by omega⟩
  case round =>
    obtain ⟨k, hk, rfl, hn⟩ := hrel
    by_cases hlt : k < N
    · obtain ⟨b, off, z, rfl, hz, hcell⟩ := Hs.out.at1 HN.out hlt
      have Hz := Lib.hid hz
      clear hz
      by_cases hq : z = x
      · subst hq
        have Hr := Lib.hid (idxOf_hit (p := fun y => y == z) Hz.out (by simp) hn.out)
        go_wp2
        go_ret
        exact ⟨by rw [Hr.out]; rfl, rfl⟩
      · have hq' : ¬ x = z := fun e => hq e.symm
        go_wp2
        go_round
        case rel =>
          refine ⟨k + 1, by omega, by go_num, fun j y hj hy => ?_⟩
          by_cases e : j = k
          · subst e
            rw [Hz.out] at hy
            cases hy
            simpa using hq
          · exact hn.out j y (by omega) hy
        case measure => simp [intOf]; omega
    · have Hr := Lib.hid (idxOf_miss (p := fun z => z == x) (xs := zs) (fun j z hz => hn.out j z (by have := (List.getElem?_eq_some_iff.1 hz).1; have := HN.out; omega) hz))
      go_wp2
      go_ret
      exact ⟨by rw [Hr.out]; rfl, rfl⟩
theorem has_any (v : Value) (zs : List Int) (x : Int) (w : World) (h : Sl w 1 v zs.length (ints zs)) :
    Calls Try.prog 129 #[v, .int .i64 x] w fun e w' => e = .returned (.bool (hasB zs x)) ∧ w = w' := by
  have Hr : Hid (decide (0 ≤ idxOf (fun z => z == x) zs) = hasB zs x) := idxOf_any _ _
  have Hc : Hid (Calls Try.prog 172 #[v, .int .i64 x] w fun e w' => e = .returned (.bool (hasB zs x)) ∧ w = w') := by
    have Hi := Lib.hid (Index_int_any v zs x w h)
    clear h
    show Calls _ _ _ _ _
    go_enter Try.func172, Try.ntmps172
    go_wp2_with (go_at_call 197; refine Hi.out.mono ?_; rintro e w1 ⟨rfl, rfl⟩)
    go_ret
    exact ⟨by rw [← Hr.out]; rfl, rfl⟩
  clear h
  go_enter Try.func129, Try.ntmps129
  go_wp2_with (go_at_call 172; refine Hc.out.mono ?_; rintro e w1 ⟨rfl, rfl⟩)
  go_ret
  exact ⟨rfl, rfl⟩
theorem filt_yes {zs : List Int} {p : Int → Bool} {k : Nat} {z : Int} (h : zs[k]? = some z) (hp : p z = true) : (zs.take (k + 1)).filter p = (zs.take k).filter p ++ [z] := by
  obtain ⟨hk, rfl⟩ := List.getElem?_eq_some_iff.1 h
  rw [List.take_succ_eq_append_getElem hk, List.filter_append]; simp [hp]
theorem filt_no {zs : List Int} {p : Int → Bool} {k : Nat} {z : Int} (h : zs[k]? = some z) (hp : p z = false) : (zs.take (k + 1)).filter p = (zs.take k).filter p := by
  obtain ⟨hk, rfl⟩ := List.getElem?_eq_some_iff.1 h
  rw [List.take_succ_eq_append_getElem hk, List.filter_append]; simp [hp]
theorem filt_le (zs : List Int) (p : Int → Bool) (k : Nat) : ((zs.take k).filter p).length ≤ k := Nat.le_trans (List.length_filter_le _ _) (by simp; omega)
theorem own_add {B : Nat} {e : TypeId} {w1 : World} {v : Value} {xs ys : List Int} {x : Int} (hy : ys = xs ++ [x]) (h : w1.ownsRow B e 1 v (xs.length + 1) (ints xs ++ [.int .i64 x])) : w1.ownsRow B e 1 v ys.length (ints ys) := by
  rw [hy]; simpa using h
set_option maxHeartbeats 2000000 in
theorem filter_any (v : Value) (zs : List Int) (g : Nat) (first lb : Array Value) (p : Int → Bool) (w : World) (h : Sl w 1 v zs.length (ints zs)) (hn : zs.length ≤ 1048576)
    (eg : ∀ args w, (callFunc g args).run Try.prog w = .ok (.enter g args) w)
    (hp : ∀ (W : World) (z : Int), z ∈ zs → Below w.heap.size w W → Calls Try.prog g (first.push (.int .i64 z) ++ lb) W fun e w' => e = .returned (.bool (p z)) ∧ Below W.heap.size W w') :
    Calls Try.prog 169 #[v, .func (.func g) first lb] w (RetOwn w 3 1 (zs.filter p).length (ints (zs.filter p))) := by
  obtain ⟨A, c, rfl⟩ := h.val
  obtain ⟨i0, hi, hz0, hz1, hz2⟩ := info_parts info_int
  have Hs := Lib.hid h
  clear h
  generalize hN : zs.length = N at *
  have HN := Lib.hid hN
  have Hp := Lib.hid hp
  clear hp hN
  have ho0 : Hid ((w.alloc (.cells #[] 3)).ownsRow w.heap.size 3 1 (.slice (some ⟨w.heap.size, 0, none⟩) 0 0) 0 []) := by
    show World.ownsRow _ _ _ _ _ _ _
    have := World.ownsRow_lit (base := w.heap.size) (e := 3) (size := 1) w #[] 0 (Nat.le_refl _) (by unfold maxLen; omega) rfl
    simpa using this
  go_enter Try.func169, Try.ntmps169
  go_wp2
  go_loopw [5, 11] (fun v i wr => ∃ k : Nat, k ≤ N ∧ i = .int .i64 k ∧ Hid (Below w.heap.size w wr) ∧ Hid (wr.ownsRow w.heap.size 3 1 v ((zs.take k).filter p).length (ints ((zs.take k).filter p)))) (fun _ i _ => N - (intOf i).toNat)
  case atStart => exact ⟨0, Nat.zero_le _, rfl, grow_alloc _ _, ho0⟩
  case round =>
    obtain ⟨k, hk, rfl, hb, ho⟩ := hrel
    by_cases hlt : k < N
    · obtain ⟨b, off, z, rfl, hz, hcell⟩ := (Hs.out.below hb.out).at1 HN.out hlt
      have hsz := hb.out.size
      have hle := filt_le zs p k
      have hcall := Hp.out wr z (List.mem_of_getElem? hz) hb.out
      have Hz := Lib.hid hz
      clear hz
      cases hq : p z with
      | true =>
        rw [hq] at hcall
        have Hc := Lib.hid hcall
        have Hq := Lib.hid hq
        clear hcall hq
        go_wp2_with fail
        refine Hc.out.mono ?_
        rintro e w1 ⟨rfl, hb1⟩
        have hsz1 := hb1.size
        go_wp2_with ((at_builtin; refine wpList_append_own _ rfl _ _ 67 rfl w.heap.size 3 i0 (.int .i64 0) 1 8 Try.underlying67 hi hz0 hz1 hz2 rfl (by decide) _ _ _ rfl ((own_below ho.out hb1).alloc _) ⟨w1.heap.size, 0, none⟩ 1 1 [.int .i64 z] rfl rfl ?c1 ?c2 ?c3 ?c4 ?c5 ?_))
        case c1 =>
          intro j u hj
          match j, hj with
          | 0, hj => simp at hj; subst hj; simp [Addr.add]
        case c2 => intro u hu; simp at hu; subst hu; rfl
        case c3 => unfold maxLen; omega
        case c4 => omega
        case c5 => simp; omega
        intro v' w2 hown' hgrow _
        have hb2 := Lib.hid (grow_put (own_below ho.out hb1) (grow_trans hb.out hb1) (by omega) hgrow)
        have ho2 := Lib.hid (own_add (filt_yes Hz.out Hq.out) hown')
        clear hown' hgrow
        go_wp2
        go_roundw
        case rel => exact ⟨k + 1, by omega, by go_num, hb2.out, ho2.out⟩
        case measure => simp [intOf]; omega
      | false =>
        rw [hq] at hcall
        have Hc := Lib.hid hcall
        have Hq := Lib.hid hq
        clear hcall hq
        go_wp2_with fail
        refine Hc.out.mono ?_
        rintro e w1 ⟨rfl, hb1⟩
        go_wp2
        go_roundw
        case rel => exact ⟨k + 1, by omega, by go_num, grow_trans hb.out hb1, by show _; rw [filt_no Hz.out Hq.out]; exact own_below ho.out hb1⟩
        case measure => simp [intOf]; omega
    · obtain rfl : k = N := by omega
      have hall : zs.take k = zs := List.take_of_length_le (by have := HN.out; omega)
      have Ho := ho
      rw [hall] at Ho
      clear ho hall
      go_wp2
      go_ret
      exact ⟨_, rfl, Ho.out, hb.out⟩
end Go.Proofs.Ytnacofmjipilhaa
