/- Whether a terrain and regions are valid, in the program. Conditions: as each states. -/
import Derived.Test.YtefampjmbjbhcaaReg
namespace Go.Proofs.Ytefampjmbjbhcaa
open Go.ChangeShapes Go.WideShapes Go.ChangeAt Go.RowKit Go.Deep
set_option linter.unusedVariables false
set_option linter.unusedSimpArgs false
set_option maxRecDepth 100000

theorem callFunc_isSet : ∀ args w, (callFunc 136 args).run Try.prog w = .ok (.enter 136 args) w := fun _ _ => by rfl
theorem isRegion_any (x y : Int) (u : Value) (zs : List Int) (v : Value) (vs : List Value) (q : Value → Bool) (w : World) (h : Sl w 1 u zs.length (ints zs)) (hv : Sl w 1 v vs.length (vs.map id))
    (hq : ∀ r, r ∈ vs → ∃ cs : List Int, Sl w 1 r cs.length (ints cs) ∧ q r = regB zs.length cs) :
    Calls Try.prog 78 #[terrV x y u, v] w fun e w' => e = .returned (.bool (terrB x y zs && vs.all q)) ∧ Below w.heap.size w w' := by
  have Hg := Lib.hid fun W hW => IsTerrain_any x y u zs W (h.below (w' := W) hW)
  have Ha := Lib.hid fun W hW => all_vs_any v vs 136 #[terrV x y u] #[] q W (hv.below (w' := W) hW) callFunc_isSet
    (fun W' r hr hW' => by
      obtain ⟨cs, hs, e⟩ := hq r hr
      have hb := hW.trans (hW'.mono hW.size)
      have := isSet_any x y u zs.length (ints zs) r cs W' (h.below hb) (hs.below hb)
      rw [e]; simpa using this)
  obtain ⟨A, k, rfl⟩ := h.val
  obtain ⟨A', k', rfl⟩ := hv.val
  clear h hv hq
  generalize terrB x y zs = R at *
  generalize vs.all q = Q at *
  generalize zs.length = N at *
  generalize vs.length = M at *
  cases R
  · go_enter Try.func78, Try.ntmps78
    go_wp2_with fail
    refine (Hg.out _ (grow_alloc _ _)).mono ?_
    rintro e w1 ⟨rfl, hb1⟩
    go_wp2
    go_ret
    exact ⟨by simp, grow_trans (grow_alloc _ _) hb1⟩
  · go_enter Try.func78, Try.ntmps78
    go_wp2_with fail
    refine (Hg.out _ (grow_alloc _ _)).mono ?_
    rintro e w1 ⟨rfl, hb1⟩
    have hcc := (bcell hb1).1
    have hb2 := Lib.hid (grow_trans (grow_alloc _ _) hb1)
    go_wp2_with fail
    refine (Ha.out _ hb2.out).mono ?_
    rintro e w2 ⟨rfl, hb3⟩
    have hb3 := Lib.hid (grow_trans hb2.out hb3)
    go_wp2
    go_ret
    exact ⟨by simp, hb3.out⟩
end Go.Proofs.Ytefampjmbjbhcaa
