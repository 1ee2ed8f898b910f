/- The library's searches over weathers; a forecast's validity in the program. Conditions: as each states. -/
import Derived.Test.YtabedcpibnnnhaaWeath2
namespace Go.Proofs.Ytabedcpibnnnhaa
open Go.ChangeShapes Go.WideShapes Go.ChangeAt Go.RowKit
set_option linter.unusedVariables false
set_option linter.unusedSimpArgs false
set_option maxRecDepth 100000

def wxE (x : Wx) : Value := wxV x.f x.s x.g x.h
set_option maxHeartbeats 1000000 in
theorem IndexFunc_wx_any (v : Value) (zs : List Wx) (g : Nat) (lb : Array Value) (p : Wx → Bool) (w : World) (hs : Sl w 4 v zs.length (wxs zs))
    (eg : ∀ args w, (callFunc g args).run Try.prog w = .ok (.enter g args) w) (hp : Pays wxE g lb p w) :
    Calls Try.prog 106 #[v, .func (.func g) #[] lb] w fun e w' => e = .returned (.int .i64 (idxOf p zs)) ∧ Below w.heap.size w w' := by
  have hmx := hs.len
  unfold maxLen at hmx
  obtain ⟨A, c, rfl⟩ := hs.val
  generalize hN : zs.length = N at hs hmx
  have HN := Lib.hid hN
  have Hp := Lib.hid hp
  have Hs := Lib.hid hs
  clear hN hp hs
  go_enter Try.func106, Try.ntmps106
  go_wp2
  go_loopw [8] (fun i wr => ∃ k : Nat, k ≤ N ∧ i = .int .i64 k ∧ Hid (Below w.heap.size w wr) ∧ Hid (∀ j y, j < k → zs[j]? = some y → p y = false)) (fun i _ => N - (intOf i).toNat)
  case atStart => exact ⟨0, Nat.zero_le _, rfl, Below.refl _ _, fun j y hj => by omega⟩
  case round =>
    obtain ⟨k, hk, rfl, hb, hn⟩ := hrel
    by_cases hlt : k < N
    · obtain ⟨b, off, x1, x2, x3, x4, rfl, hx, c0, c1, c2, c3⟩ := (Hs.out.below hb.out).wx HN.out hlt
      have Hx := Lib.hid hx
      have hcall := Hp.out wr ⟨x1, x2, x3, x4⟩ hb.out
      clear hx
      cases hq : p ⟨x1, x2, x3, x4⟩ with
      | true =>
        rw [hq] at hcall
        have Hc := Lib.hid hcall
        have Hq := Lib.hid hq
        clear hcall hq
        go_wp2_with fail
        refine Hc.out.mono ?_
        rintro e w1 ⟨rfl, hb1⟩
        go_wp2
        go_ret
        exact ⟨ret_int (idxOf_hit Hx.out Hq.out hn.out).symm, grow_trans hb.out hb1⟩
      | false =>
        rw [hq] at hcall
        have Hc := Lib.hid hcall
        have Hq := Lib.hid hq
        clear hcall hq
        go_wp2_with fail
        refine Hc.out.mono ?_
        rintro e w1 ⟨rfl, hb1⟩
        go_wp2
        go_roundw
        case rel =>
          refine ⟨k + 1, by omega, by go_num, grow_trans hb.out hb1, fun j y hj hy => ?_⟩
          by_cases e : j = k
          · subst e
            rw [Hx.out] at hy
            cases hy
            exact Hq.out
          · exact hn.out j y (by omega) hy
        case measure => simp [intOf]; omega
    · have hres : idxOf p zs = -1 := idxOf_miss fun j y hy => hn.out j y (by have := (List.getElem?_eq_some_iff.1 hy).1; have := HN.out; omega) hy
      have Hr := Lib.hid hres
      clear hres
      go_wp2
      go_ret
      exact ⟨by rw [Hr.out]; rfl, hb.out⟩
theorem ContainsFunc_wx_any (v : Value) (zs : List Wx) (g : Nat) (lb : Array Value) (p : Wx → Bool) (w : World) (hs : Sl w 4 v zs.length (wxs zs))
    (eg : ∀ args w, (callFunc g args).run Try.prog w = .ok (.enter g args) w) (hp : Pays wxE g lb p w) :
    Calls Try.prog 83 #[v, .func (.func g) #[] lb] w fun e w' => e = .returned (.bool (zs.any p)) ∧ Below w.heap.size w w' := by
  have Hr := Lib.hid (idxOf_any p zs)
  have Hc := Lib.hid (IndexFunc_wx_any v zs g lb p w hs eg hp)
  clear hp hs eg
  go_enter Try.func83, Try.ntmps83
  go_wp2_with (go_at_call 106; refine Hc.out.mono ?_; rintro e w1 ⟨rfl, hb1⟩)
  go_ret
  exact ⟨by rw [← Hr.out]; rfl, hb1⟩
theorem callFunc_all_wx : ∀ args w, (callFunc 84 args).run Try.prog w = .ok (.enter 84 args) w := fun _ _ => by rfl
theorem all_wx_any (v : Value) (zs : List Wx) (g : Nat) (lb : Array Value) (p : Wx → Bool) (w : World) (hs : Sl w 4 v zs.length (wxs zs))
    (eg : ∀ args w, (callFunc g args).run Try.prog w = .ok (.enter g args) w) (hp : Pays wxE g lb p w) :
    Calls Try.prog 54 #[v, .func (.func g) #[] lb] w fun e w' => e = .returned (.bool (zs.all p)) ∧ Below w.heap.size w w' := by
  have hpay : Pays wxE 84 #[.pointer (some ⟨w.heap.size, 0, none⟩)] (fun x => !p x) (w.alloc (.cells #[.func (.func g) #[] lb] 78)) := by
    rintro W ⟨x1, x2, x3, x4⟩ hW
    have hcall := fun W' (hW' : Below W.heap.size W W') => hp W' ⟨x1, x2, x3, x4⟩ ((grow_trans (grow_alloc _ _) hW).trans (hW'.mono (Nat.le_trans (grow_trans (grow_alloc _ _) hW).size (Nat.le_refl _))))
    have hc : W.cell? ⟨w.heap.size, 0, none⟩ = some (.func (.func g) #[] lb) := by rw [hW.cell (by simp)]; simp
    have hne := hW.size
    show Calls _ _ _ W fun e w' => e = .returned (.bool (!p ⟨x1, x2, x3, x4⟩)) ∧ Below W.heap.size W w'
    generalize p ⟨x1, x2, x3, x4⟩ = q at hcall ⊢
    have Hc := Lib.hid (hcall _ (grow_alloc W (.cells #[.int .i64 x1, .int .i64 x2, .int .i64 x3, .int .i64 x4] 53)))
    have hc' : (W.alloc (.cells #[.int .i64 x1, .int .i64 x2, .int .i64 x3, .int .i64 x4] 53)).cell? ⟨w.heap.size, 0, none⟩ = some (.func (.func g) #[] lb) := by
      rw [(grow_alloc W _).cell (by show w.heap.size < W.heap.size; simp at hne; omega)]; exact hc
    clear hcall hp hW hs hc hne
    show Calls _ _ #[wxV x1 x2 x3 x4, _] _ _
    go_enter Try.func84, Try.ntmps84
    go_wp2_with fail
    refine Hc.out.mono ?_
    rintro e w1 ⟨rfl, hb1⟩
    go_wp2
    go_ret
    exact ⟨rfl, grow_trans (grow_alloc _ _) hb1⟩
  have hr : (!(zs.any fun x => !p x)) = zs.all p := by simp [List.all_eq_not_any_not]
  have Hr := Lib.hid hr
  have Hc := Lib.hid (ContainsFunc_wx_any v zs 84 #[.pointer (some ⟨w.heap.size, 0, none⟩)] (fun x => !p x) (w.alloc (.cells #[.func (.func g) #[] lb] 78)) (hs.below (grow_alloc _ _)) callFunc_all_wx hpay)
  clear hpay hp hs hr eg
  go_enter Try.func54, Try.ntmps54
  go_wp2_with (go_at_call 83; refine Hc.out.mono ?_; rintro e w1 ⟨rfl, hb1⟩)
  go_ret
  exact ⟨by rw [← Hr.out]; rfl, grow_trans (grow_alloc _ _) hb1⟩
theorem callFunc_wx : ∀ args w, (callFunc 55 args).run Try.prog w = .ok (.enter 55 args) w := fun _ _ => by rfl
theorem IsForecast_any (v : Value) (ps : List Wx) (w : World) (hs : Sl w 4 v ps.length (wxs ps)) :
    Calls Try.prog 24 #[v] w fun e w' => e = .returned (.bool (foreB ps)) ∧ Below w.heap.size w w' := by
  have hmx := hs.len
  unfold maxLen at hmx
  have Ha := Lib.hid (all_wx_any v ps 55 #[] wxB w hs callFunc_wx (fun W x _ => isWeather_any x.f x.s x.g x.h W))
  obtain ⟨A, c, rfl⟩ := hs.val
  clear hs
  have Hr : Hid (foreB ps = (inB ps.length 1 24 && ps.all wxB)) := rfl
  generalize foreB ps = R at Hr ⊢
  generalize ps.all wxB = Z at Ha Hr
  generalize ps.length = N at *
  cases h1 : inB N 1 24
  · go_enter Try.func24, Try.ntmps24
    go_wp2_with (go_at_call 53; refine (in_any _ _ _ _).mono ?_; rintro e w' ⟨rfl, rfl⟩; rw [h1])
    go_ret
    exact ⟨by rw [Hr.out, h1]; rfl, Below.refl _ _⟩
  · go_enter Try.func24, Try.ntmps24
    go_wp2_with (first | (go_at_call 53; refine (in_any _ _ _ _).mono ?_; rintro e w' ⟨rfl, rfl⟩; rw [h1]) | (go_at_call 54; refine Ha.out.mono ?_; rintro e w1 ⟨rfl, hb1⟩))
    go_ret
    exact ⟨by rw [Hr.out, h1]; simp, hb1⟩
end Go.Proofs.Ytabedcpibnnnhaa
