/- impl.all over numbers at any function value (a bound method too); sets of cells in the program. Conditions: as each states. -/
import Derived.Test.YtnacofmjipilhaaFilt
import Derived.Test.YtnacofmjipilhaaAll
namespace Go.Proofs.Ytnacofmjipilhaa
open Go.ChangeShapes Go.WideShapes Go.ChangeAt Go.RowKit Go.Deep
set_option linter.unusedVariables false
set_option linter.unusedSimpArgs false
set_option maxRecDepth 100000

theorem all_intF_any (v : Value) (zs : List Int) (g : Nat) (first lb : Array Value) (p : Int → Bool) (w : World) (hs : Sl w 1 v zs.length (zs.map (Value.int .i64)))
    (eg : ∀ args w, (callFunc g args).run Try.prog w = .ok (.enter g args) w)
    (hp : ∀ (W : World) (x : Int), Below w.heap.size w W → Calls Try.prog g (first.push (.int .i64 x) ++ lb) W fun e w' => e = .returned (.bool (p x)) ∧ Below W.heap.size W w') :
    Calls Try.prog 168 #[v, .func (.func g) first lb] w fun e w' => e = .returned (.bool (zs.all p)) ∧ Below w.heap.size w w' := by
  have hpay : Pays (Value.int .i64) 196 #[.pointer (some ⟨w.heap.size, 0, none⟩)] (fun x => !p x) (w.alloc (.cells #[.func (.func g) first lb] 96)) := by
    intro W x hW
    have hcall := hp W x (grow_trans (grow_alloc _ _) hW)
    have hc : W.cell? ⟨w.heap.size, 0, none⟩ = some (.func (.func g) first lb) := by rw [hW.cell (by simp)]; simp
    show Calls _ _ _ W fun e w' => e = .returned (.bool (!p x)) ∧ Below W.heap.size W w'
    generalize p x = q at hcall ⊢
    have Hc := Lib.hid hcall
    clear hcall hp hW hs
    go_enter Try.func196, Try.ntmps196
    go_wp2_with fail
    refine Hc.out.mono ?_
    rintro e w1 ⟨rfl, hb1⟩
    go_wp2
    go_ret
    exact ⟨rfl, hb1⟩
  have hr : (!(zs.any fun x => !p x)) = zs.all p := by simp [List.all_eq_not_any_not]
  have Hr := Lib.hid hr
  have Hc := Lib.hid (ContainsFunc_int_any v zs 196 #[.pointer (some ⟨w.heap.size, 0, none⟩)] (fun x => !p x) (w.alloc (.cells #[.func (.func g) first lb] 96)) (hs.below (grow_alloc _ _)) callFunc_all_int hpay)
  clear hpay hp hs hr eg
  go_enter Try.func168, Try.ntmps168
  go_wp2_with (go_at_call 195; refine Hc.out.mono ?_; rintro e w1 ⟨rfl, hb1⟩)
  go_ret
  exact ⟨by rw [← Hr.out]; rfl, grow_trans (grow_alloc _ _) hb1⟩
/-- A list is a set of cells, as the program asks it. -/
def regB (n : Nat) (cs : List Int) : Bool := risB cs && cs.all fun z => inB z 0 (n - 1)
theorem callFunc_isCell : ∀ args w, (callFunc 128 args).run Try.prog w = .ok (.enter 128 args) w := fun _ _ => by rfl
theorem isSet_any (x y : Int) (u : Value) (n : Nat) (zc : List Value) (v : Value) (cs : List Int) (w : World) (h : Sl w 1 u n zc) (hc : Sl w 1 v cs.length (ints cs)) :
    Calls Try.prog 118 #[terrV x y u, v] w fun e w' => e = .returned (.bool (regB n cs)) ∧ Below w.heap.size w w' := by
  have Hr := Lib.hid fun W hW => isRising_any v cs W (hc.below (w' := W) hW)
  have Ha := Lib.hid fun W hW => all_intF_any v cs 128 #[terrV x y u] #[] (fun z => inB z 0 (n - 1)) W (hc.below (w' := W) hW) callFunc_isCell
    (fun W' z hW' => by have := isCell_any x y u n zc z W' (h.below (hW.trans (hW'.mono hW.size))); simpa using this)
  have Hq : Hid (regB n cs = (risB cs && cs.all fun z => inB z 0 (n - 1))) := rfl
  obtain ⟨A, k, rfl⟩ := h.val
  obtain ⟨A', k', rfl⟩ := hc.val
  clear h hc
  generalize regB n cs = Q at *
  generalize (cs.all fun z => inB z 0 (n - 1)) = Z at *
  generalize cs.length = M at *
  cases hR : risB cs
  · rw [hR] at Hr Hq
    go_enter Try.func118, Try.ntmps118
    go_wp2_with fail
    refine (Hr.out _ (grow_alloc _ _)).mono ?_
    rintro e w1 ⟨rfl, hb1⟩
    go_wp2
    go_ret
    exact ⟨by rw [Hq.out]; rfl, grow_trans (grow_alloc _ _) hb1⟩
  · rw [hR] at Hr Hq
    go_enter Try.func118, Try.ntmps118
    go_wp2_with fail
    refine (Hr.out _ (grow_alloc _ _)).mono ?_
    rintro e w1 ⟨rfl, hb1⟩
    have hcc := (bcell hb1).1
    have hb2 := Lib.hid (grow_trans (grow_alloc _ _) hb1)
    go_wp2_with fail
    refine (Ha.out _ hb2.out).mono ?_
    rintro e w2 ⟨rfl, hb3⟩
    have hb3 := Lib.hid (grow_trans hb2.out hb3)
    go_wp2
    go_ret
    exact ⟨by rw [Hq.out]; simp, hb3.out⟩
/-- The two forms of 'a set of cells' agree. -/
theorem reg_set (n : Nat) (cs : List Int) : regB n cs = setB cs 0 (n - 1) := by
  rw [Bool.eq_iff_iff]
  unfold regB setB risB
  simp only [Bool.and_eq_true, List.all_eq_true, List.mem_range]
  constructor
  · rintro ⟨h1, h2⟩ i hi
    refine ⟨h2 _ ?_, h1 i hi⟩
    rw [List.getD_eq_getElem?_getD, List.getElem?_eq_getElem hi]
    exact List.getElem_mem hi
  · intro h
    refine ⟨fun i hi => (h i hi).2, fun z hz => ?_⟩
    obtain ⟨i, hi, rfl⟩ := List.mem_iff_getElem.1 hz
    have := (h i hi).1
    rwa [List.getD_eq_getElem?_getD, List.getElem?_eq_getElem hi] at this
end Go.Proofs.Ytnacofmjipilhaa
