/- The cells that two regions have in common, in the reference. Conditions: as each states. -/
import Derived.Test.YtefampjmbjbhcaaUniq
import Derived.Test.YtefampjmbjbhcaaSet3
namespace Go.Proofs.Ytefampjmbjbhcaa
open Go.ChangeShapes Go.WideShapes Go.ChangeAt Go.RowKit Go.Deep
set_option linter.unusedVariables false
set_option linter.unusedSimpArgs false
set_option maxRecDepth 100000

/-- A terrain and two sets of its cells. -/
def twoB (x y : Int) (zs xs ys : List Int) : Bool := terrB x y zs && setB xs 0 (zs.length - 1) && setB ys 0 (zs.length - 1)
/-- isRegion at two regions. -/
theorem isRegion_two (x y : Int) (u : Value) (zs : List Int) (v va vb : Value) (xs ys : List Int) (w : World) (h : Sl w 1 u zs.length (ints zs)) (hv : Sl w 1 v 2 [va, vb]) (ha : Sl w 1 va xs.length (ints xs)) (hb : Sl w 1 vb ys.length (ints ys)) :
    Calls Try.prog 78 #[terrV x y u, v] w fun e w' => e = .returned (.bool (twoB x y zs xs ys)) ∧ Below w.heap.size w w' := by
  classical
  have := isRegion_any x y u zs v [va, vb] (fun r => if r = va then regB zs.length xs else regB zs.length ys) w h (by simpa using hv) (by
    intro r hr
    by_cases e : r = va
    · subst e; exact ⟨xs, ha, by simp⟩
    · have : r = vb := by simpa [e] using hr
      subst this; exact ⟨ys, hb, by simp [e]⟩)
  have hq : ([va, vb].all fun r => decide ((if r = va then regB zs.length xs else regB zs.length ys) = true)) = (regB zs.length xs && regB zs.length ys) := by
    by_cases e : vb = va
    · subst e
      rw [ha.uniq hb]; simp
    · simp [e]
  simp only [List.all_cons, List.all_nil, Bool.and_true, if_true] at this
  have hq2 : (regB zs.length xs && (if vb = va then regB zs.length xs else regB zs.length ys)) = (regB zs.length xs && regB zs.length ys) := by
    by_cases e : vb = va
    · subst e
      rw [ha.uniq hb]; simp
    · simp [e]
  rw [hq2, reg_set, reg_set, ← Bool.and_assoc] at this
  exact this
end Go.Proofs.Ytefampjmbjbhcaa
