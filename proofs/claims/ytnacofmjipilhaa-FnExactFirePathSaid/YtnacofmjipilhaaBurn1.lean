/- Whether a cell burns, in the program. Conditions: as each states. -/
import Derived.Test.YtnacofmjipilhaaSel
namespace Go.Proofs.Ytnacofmjipilhaa
open Go.ChangeShapes Go.WideShapes Go.ChangeAt Go.RowKit Go.Deep
set_option linter.unusedVariables false
set_option linter.unusedSimpArgs false
set_option maxRecDepth 100000

theorem burns_any (x y : Int) (u : Value) (zs : List Int) (k : Nat) (w : World) (h : Sl w 1 u zs.length (ints zs)) (hk : k < zs.length) :
    Calls Try.prog 131 #[terrV x y u, .int .i64 k] w fun e w' => e = .returned (.bool (burnP zs k)) ∧ Below w.heap.size w w' := by
  have hmx := h.len
  unfold maxLen at hmx
  obtain ⟨A, c, rfl⟩ := h.val
  obtain ⟨b, off, z, rfl, hz, hcell⟩ := (h.below (grow_alloc w (.cells #[.int .i64 x, .int .i64 y, .slice A zs.length c] 79))).at1 rfl hk
  have Hz : Hid (zs.getD k 0 = z) := by show _ = _; rw [List.getD_eq_getElem?_getD, hz]; rfl
  clear hz h
  generalize hN : zs.length = N at *
  clear hN
  go_enter Try.func131, Try.ntmps131
  go_wp2
  go_ret
  exact ⟨by unfold burnP; rw [Hz.out]; rfl, grow_alloc _ _⟩
theorem callFunc_burns : ∀ args w, (callFunc 131 args).run Try.prog w = .ok (.enter 131 args) w := fun _ _ => by rfl
end Go.Proofs.Ytnacofmjipilhaa
