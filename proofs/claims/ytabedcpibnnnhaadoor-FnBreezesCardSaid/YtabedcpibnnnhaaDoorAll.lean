/- Contracts of slices.IndexFunc, slices.ContainsFunc and the program's all at ints, at whatever function value that answers by a plain predicate and leaves what was there. Conditions: as each states. -/
import Derived.Test.YtabedcpibnnnhaaDoorSlice
import Derived.Shelf.Abstract
namespace Go.Proofs.YtabedcpibnnnhaaDoor
open Go.ChangeShapes Go.WideShapes Go.ChangeAt Go.RowKit
set_option linter.unusedVariables false
set_option linter.unusedSimpArgs false
set_option maxRecDepth 100000

/-- What is asked of a predicate's function value: at every later world and every element it answers by p and leaves what was there. -/
def Pays {α : Type} (enc : α → Value) (g : Nat) (lb : Array Value) (p : α → Bool) (w : World) : Prop :=
  ∀ (W : World) (x : α), Below w.heap.size w W → Calls Tryd.prog g (#[enc x] ++ lb) W fun e w' => e = .returned (.bool (p x)) ∧ Below W.heap.size W w'
theorem Pays.later {α : Type} {enc : α → Value} {g : Nat} {lb : Array Value} {p : α → Bool} {w w1 : World} (h : Pays enc g lb p w) (hb : Below w.heap.size w w1) : Pays enc g lb p w1 :=
  fun W x hW => h W x (grow_trans hb hW)
/-- The first index at which a predicate holds, or -1. -/
def idxOf {α : Type} (p : α → Bool) (xs : List α) : Int := match xs.findIdx? p with | some i => i | none => -1
theorem idxOf_any {α : Type} (p : α → Bool) (xs : List α) : decide (0 ≤ idxOf p xs) = xs.any p := by
  unfold idxOf
  cases h : xs.findIdx? p with
  | none =>
    rw [List.findIdx?_eq_none_iff] at h
    have : xs.any p = false := by rw [List.any_eq_false]; intro x hx; simp [h x hx]
    rw [this]; decide
  | some i =>
    obtain ⟨hi, hp, _⟩ := List.findIdx?_eq_some_iff_getElem.1 h
    have : xs.any p = true := by rw [List.any_eq_true]; exact ⟨_, List.getElem_mem hi, hp⟩
    rw [this]; simp
theorem idxOf_hit {α : Type} {p : α → Bool} {xs : List α} {k : Nat} {x : α} (hx : xs[k]? = some x) (hp : p x = true) (hn : ∀ (j : Nat) (y : α), j < k → xs[j]? = some y → p y = false) : idxOf p xs = k := by
  have : xs.findIdx? p = some k := by
    obtain ⟨hk, rfl⟩ := List.getElem?_eq_some_iff.1 hx
    exact List.findIdx?_eq_some_iff_getElem.2 ⟨hk, hp, fun j hj => by simp [hn j _ hj (List.getElem?_eq_getElem (by omega))]⟩
  simp [idxOf, this]
theorem idxOf_miss {α : Type} {p : α → Bool} {xs : List α} (hn : ∀ (j : Nat) (y : α), xs[j]? = some y → p y = false) : idxOf p xs = -1 := by
  have : xs.findIdx? p = none := by
    rw [List.findIdx?_eq_none_iff]
    intro x hx
    obtain ⟨j, hj, rfl⟩ := List.mem_iff_getElem.1 hx
    exact hn j _ (List.getElem?_eq_getElem hj)
  simp [idxOf, this]

set_option maxHeartbeats 1000000 in
theorem IndexFunc_int_any (v : Value) (zs : List Int) (g : Nat) (lb : Array Value) (p : Int → Bool) (w : World) (hs : Sl w 1 v zs.length (zs.map (Value.int .i64)))
    (eg : ∀ args w, (callFunc g args).run Tryd.prog w = .ok (.enter g args) w) (hp : Pays (Value.int .i64) g lb p w) :
    Calls Tryd.prog 129 #[v, .func (.func g) #[] lb] w fun e w' => e = .returned (.int .i64 (idxOf p zs)) ∧ Below w.heap.size w w' := by
  have hmx := hs.len
  unfold maxLen at hmx
  obtain ⟨A, c, rfl⟩ := hs.val
  generalize hN : zs.length = N at hs hmx
  have HN := Lib.hid hN
  have Hp := Lib.hid hp
  have Hs := Lib.hid hs
  clear hN hp hs
  go_enter Tryd.func129, Tryd.ntmps129
  go_wp2
  go_loopw [8] (fun i wr => ∃ k : Nat, k ≤ N ∧ i = .int .i64 k ∧ Hid (Below w.heap.size w wr) ∧ Hid (∀ j y, j < k → zs[j]? = some y → p y = false)) (fun i _ => N - (intOf i).toNat)
  case atStart => exact ⟨0, Nat.zero_le _, rfl, Below.refl _ _, fun j y hj => by omega⟩
  case round =>
    obtain ⟨k, hk, rfl, hb, hn⟩ := hrel
    by_cases hlt : k < N
    · obtain ⟨b, off, x, rfl, hx, hcell⟩ := (Hs.out.below hb.out).at1 HN.out hlt
      have Hx := Lib.hid hx
      have hcall := Hp.out wr x hb.out
      clear hx
      cases hq : p x with
      | true =>
        rw [hq] at hcall
        have Hc := Lib.hid hcall
        have Hq := Lib.hid hq
        clear hcall hq
        go_wp2_with (go_at_fn g; refine Hc.out.mono ?_; rintro e w1 ⟨rfl, hb1⟩)
        go_ret
        exact ⟨ret_int (idxOf_hit Hx.out Hq.out hn.out).symm, grow_trans hb.out hb1⟩
      | false =>
        rw [hq] at hcall
        have Hc := Lib.hid hcall
        have Hq := Lib.hid hq
        clear hcall hq
        go_wp2_with (go_at_fn g; refine Hc.out.mono ?_; rintro e w1 ⟨rfl, hb1⟩)
        go_roundw
        case rel =>
          refine ⟨k + 1, by omega, by go_num, grow_trans hb.out hb1, fun j y hj hy => ?_⟩
          by_cases e : j = k
          · subst e
            rw [Hx.out] at hy
            cases hy
            exact Hq.out
          · exact hn.out j y (by omega) hy
        case measure => simp [intOf]; omega
    · have hres : idxOf p zs = -1 := idxOf_miss fun j y hy => hn.out j y (by have := (List.getElem?_eq_some_iff.1 hy).1; have := HN.out; omega) hy
      have Hr := Lib.hid hres
      clear hres
      go_wp2
      go_ret
      exact ⟨by rw [Hr.out]; rfl, hb.out⟩
theorem ContainsFunc_int_any (v : Value) (zs : List Int) (g : Nat) (lb : Array Value) (p : Int → Bool) (w : World) (hs : Sl w 1 v zs.length (zs.map (Value.int .i64)))
    (eg : ∀ args w, (callFunc g args).run Tryd.prog w = .ok (.enter g args) w) (hp : Pays (Value.int .i64) g lb p w) :
    Calls Tryd.prog 117 #[v, .func (.func g) #[] lb] w fun e w' => e = .returned (.bool (zs.any p)) ∧ Below w.heap.size w w' := by
  have Hr := Lib.hid (idxOf_any p zs)
  have Hc := Lib.hid (IndexFunc_int_any v zs g lb p w hs eg hp)
  clear hp hs eg
  go_enter Tryd.func117, Tryd.ntmps117
  go_wp2_with (go_at_call 129; refine Hc.out.mono ?_; rintro e w1 ⟨rfl, hb1⟩)
  go_ret
  exact ⟨by rw [← Hr.out]; rfl, hb1⟩
theorem callFunc_all_int : ∀ args w, (callFunc 118 args).run Tryd.prog w = .ok (.enter 118 args) w := fun _ _ => by rfl
theorem all_int_any (v : Value) (zs : List Int) (g : Nat) (lb : Array Value) (p : Int → Bool) (w : World) (hs : Sl w 1 v zs.length (zs.map (Value.int .i64)))
    (eg : ∀ args w, (callFunc g args).run Tryd.prog w = .ok (.enter g args) w) (hp : Pays (Value.int .i64) g lb p w) :
    Calls Tryd.prog 100 #[v, .func (.func g) #[] lb] w fun e w' => e = .returned (.bool (zs.all p)) ∧ Below w.heap.size w w' := by
  have hpay : Pays (Value.int .i64) 118 #[.pointer (some ⟨w.heap.size, 0, none⟩)] (fun x => !p x) (w.alloc (.cells #[.func (.func g) #[] lb] 61)) := by
    intro W x hW
    have hcall := hp W x (grow_trans (grow_alloc _ _) hW)
    have hc : W.cell? ⟨w.heap.size, 0, none⟩ = some (.func (.func g) #[] lb) := by rw [hW.cell (by simp)]; simp
    show Calls _ _ _ W fun e w' => e = .returned (.bool (!p x)) ∧ Below W.heap.size W w'
    generalize p x = q at hcall ⊢
    have Hc := Lib.hid hcall
    clear hcall hp hW hs
    go_enter Tryd.func118, Tryd.ntmps118
    go_wp2_with (go_at_fn g; refine Hc.out.mono ?_; rintro e w1 ⟨rfl, hb1⟩)
    go_ret
    exact ⟨rfl, hb1⟩
  have hr : (!(zs.any fun x => !p x)) = zs.all p := by simp [List.all_eq_not_any_not]
  have Hr := Lib.hid hr
  have Hc := Lib.hid (ContainsFunc_int_any v zs 118 #[.pointer (some ⟨w.heap.size, 0, none⟩)] (fun x => !p x) (w.alloc (.cells #[.func (.func g) #[] lb] 61)) (hs.below (grow_alloc _ _)) callFunc_all_int hpay)
  clear hpay hp hs hr eg
  go_enter Tryd.func100, Tryd.ntmps100
  go_wp2_with (go_at_call 117; refine Hc.out.mono ?_; rintro e w1 ⟨rfl, hb1⟩)
  go_ret
  exact ⟨by rw [← Hr.out]; rfl, grow_trans (grow_alloc _ _) hb1⟩
end Go.Proofs.YtabedcpibnnnhaaDoor
