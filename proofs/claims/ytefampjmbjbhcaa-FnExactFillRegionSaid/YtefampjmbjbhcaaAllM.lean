/- The library's searches over a list of numbers, where the predicate need answer for its elements alone. Conditions: as each states. -/
import Derived.Test.YtefampjmbjbhcaaAllF
namespace Go.Proofs.Ytefampjmbjbhcaa
open Go.ChangeShapes Go.WideShapes Go.ChangeAt Go.RowKit Go.Deep
set_option linter.unusedVariables false
set_option linter.unusedSimpArgs false
set_option maxRecDepth 100000

set_option maxHeartbeats 1000000 in
theorem IndexFunc_intM_any (v : Value) (zs : List Int) (g : Nat) (lb : Array Value) (p : Int → Bool) (w : World) (hs : Sl w 1 v zs.length (zs.map (Value.int .i64)))
    (eg : ∀ args w, (callFunc g args).run Try.prog w = .ok (.enter g args) w)
    (hp : ∀ (W : World) (x : Int), x ∈ zs → Below w.heap.size w W → Calls Try.prog g (#[.int .i64 x] ++ lb) W fun e w' => e = .returned (.bool (p x)) ∧ Below W.heap.size W w') :
    Calls Try.prog 199 #[v, .func (.func g) #[] lb] w fun e w' => e = .returned (.int .i64 (idxOf p zs)) ∧ Below w.heap.size w w' := by
  have hmx := hs.len
  unfold maxLen at hmx
  obtain ⟨A, c, rfl⟩ := hs.val
  generalize hN : zs.length = N at hs hmx
  have HN := Lib.hid hN
  have Hp := Lib.hid hp
  have Hs := Lib.hid hs
  clear hN hp hs
  go_enter Try.func199, Try.ntmps199
  go_wp2
  go_loopw [8] (fun i wr => ∃ k : Nat, k ≤ N ∧ i = .int .i64 k ∧ Hid (Below w.heap.size w wr) ∧ Hid (∀ j y, j < k → zs[j]? = some y → p y = false)) (fun i _ => N - (intOf i).toNat)
  case atStart => exact ⟨0, Nat.zero_le _, rfl, Below.refl _ _, fun j y hj => by omega⟩
  case round =>
    obtain ⟨k, hk, rfl, hb, hn⟩ := hrel
    by_cases hlt : k < N
    · obtain ⟨b, off, x, rfl, hx, hcell⟩ := (Hs.out.below hb.out).at1 HN.out hlt
      have Hx := Lib.hid hx
      have hcall := Hp.out wr x (List.mem_of_getElem? hx) hb.out
      clear hx
      cases hq : p x with
      | true =>
        rw [hq] at hcall
        have Hc := Lib.hid hcall
        have Hq := Lib.hid hq
        clear hcall hq
        go_wp2_with fail
        refine Hc.out.mono ?_
        rintro e w1 ⟨rfl, hb1⟩
        go_wp2
        go_ret
        exact ⟨ret_int (idxOf_hit Hx.out Hq.out hn.out).symm, grow_trans hb.out hb1⟩
      | false =>
        rw [hq] at hcall
        have Hc := Lib.hid hcall
        have Hq := Lib.hid hq
        clear hcall hq
        go_wp2_with fail
        refine Hc.out.mono ?_
        rintro e w1 ⟨rfl, hb1⟩
        go_wp2
        go_roundw
        case rel =>
          refine ⟨k + 1, by omega, by go_num, grow_trans hb.out hb1, fun j y hj hy => ?_⟩
          by_cases e : j = k
          · subst e
            rw [Hx.out] at hy
            cases hy
            exact Hq.out
          · exact hn.out j y (by omega) hy
        case measure => simp [intOf]; omega
    · have hres : idxOf p zs = -1 := idxOf_miss fun j y hy => hn.out j y (by have := (List.getElem?_eq_some_iff.1 hy).1; have := HN.out; omega) hy
      have Hr := Lib.hid hres
      clear hres
      go_wp2
      go_ret
      exact ⟨by rw [Hr.out]; rfl, hb.out⟩
theorem callFunc_all_intM : ∀ args w, (callFunc 181 args).run Try.prog w = .ok (.enter 181 args) w := fun _ _ => by rfl
theorem all_intM_any (v : Value) (zs : List Int) (g : Nat) (first lb : Array Value) (p : Int → Bool) (w : World) (hs : Sl w 1 v zs.length (zs.map (Value.int .i64)))
    (eg : ∀ args w, (callFunc g args).run Try.prog w = .ok (.enter g args) w)
    (hp : ∀ (W : World) (x : Int), x ∈ zs → Below w.heap.size w W → Calls Try.prog g (first.push (.int .i64 x) ++ lb) W fun e w' => e = .returned (.bool (p x)) ∧ Below W.heap.size W w') :
    Calls Try.prog 142 #[v, .func (.func g) first lb] w fun e w' => e = .returned (.bool (zs.all p)) ∧ Below w.heap.size w w' := by
  have hpay : ∀ (W : World) (x : Int), x ∈ zs → Below (w.alloc (.cells #[.func (.func g) first lb] 101)).heap.size (w.alloc (.cells #[.func (.func g) first lb] 101)) W →
      Calls Try.prog 181 (#[.int .i64 x] ++ #[.pointer (some ⟨w.heap.size, 0, none⟩)]) W fun e w' => e = .returned (.bool (!p x)) ∧ Below W.heap.size W w' := by
    intro W x hx hW
    have hcall := hp W x hx (grow_trans (grow_alloc _ _) hW)
    have hc : W.cell? ⟨w.heap.size, 0, none⟩ = some (.func (.func g) first lb) := by rw [hW.cell (by simp)]; simp
    generalize p x = q at hcall ⊢
    have Hc := Lib.hid hcall
    clear hcall hp hW hs
    show Calls _ _ #[.int .i64 x, _] _ _
    go_enter Try.func181, Try.ntmps181
    go_wp2_with fail
    refine Hc.out.mono ?_
    rintro e w1 ⟨rfl, hb1⟩
    go_wp2
    go_ret
    exact ⟨rfl, hb1⟩
  have hr : (!(zs.any fun x => !p x)) = zs.all p := by simp [List.all_eq_not_any_not]
  have Hr := Lib.hid hr
  have Hi : Hid (decide (0 ≤ idxOf (fun x => !p x) zs) = zs.any fun x => !p x) := idxOf_any _ _
  have Hx := Lib.hid (IndexFunc_intM_any v zs 181 #[.pointer (some ⟨w.heap.size, 0, none⟩)] (fun x => !p x) (w.alloc (.cells #[.func (.func g) first lb] 101)) (hs.below (grow_alloc _ _)) callFunc_all_intM hpay)
  have Hc : Hid (Calls Try.prog 180 #[v, .func (.func 181) #[] #[.pointer (some ⟨w.heap.size, 0, none⟩)]] (w.alloc (.cells #[.func (.func g) first lb] 101)) fun e w' => e = .returned (.bool (zs.any fun x => !p x)) ∧ Below (w.alloc (.cells #[.func (.func g) first lb] 101)).heap.size (w.alloc (.cells #[.func (.func g) first lb] 101)) w') := by
    clear hpay hp hs hr eg Hr
    show Calls _ _ _ _ _
    go_enter Try.func180, Try.ntmps180
    go_wp2_with (go_at_call 199; refine Hx.out.mono ?_; rintro e w1 ⟨rfl, hb1⟩)
    go_ret
    exact ⟨by rw [← Hi.out]; rfl, hb1⟩
  clear hpay hp hs hr eg Hx Hi
  go_enter Try.func142, Try.ntmps142
  go_wp2_with (go_at_call 180; refine Hc.out.mono ?_; rintro e w1 ⟨rfl, hb1⟩)
  go_ret
  exact ⟨by rw [← Hr.out]; rfl, grow_trans (grow_alloc _ _) hb1⟩
end Go.Proofs.Ytefampjmbjbhcaa
