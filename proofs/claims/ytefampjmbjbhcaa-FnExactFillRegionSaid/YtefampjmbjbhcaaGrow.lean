/- GrowRegion in the program and in the reference. Conditions: as each states. -/
import Derived.Test.YtefampjmbjbhcaaJoin
import Derived.Test.YtefampjmbjbhcaaAllM
import Derived.StillTailTactics
namespace Go.Proofs.Ytefampjmbjbhcaa
open Go.ChangeShapes Go.WideShapes Go.ChangeAt Go.RowKit Go.Deep
set_option linter.unusedVariables false
set_option linter.unusedSimpArgs false
set_option maxRecDepth 100000

/-- A terrain and a set of its cells. -/
def oneB (x y : Int) (zs xs : List Int) : Bool := terrB x y zs && setB xs 0 (zs.length - 1)
/-- isRegion at one region. -/
theorem isRegion_one (x y : Int) (u : Value) (zs : List Int) (v va : Value) (xs : List Int) (w : World) (h : Sl w 1 u zs.length (ints zs)) (hv : Sl w 1 v 1 [va]) (ha : Sl w 1 va xs.length (ints xs)) :
    Calls Try.prog 78 #[terrV x y u, v] w fun e w' => e = .returned (.bool (oneB x y zs xs)) ∧ Below w.heap.size w w' := by
  have := isRegion_any x y u zs v [va] (fun r => regB zs.length xs) w h (by simpa using hv) (by
    intro r hr
    obtain rfl : r = va := by simpa using hr
    exact ⟨xs, ha, rfl⟩)
  simp only [List.all_cons, List.all_nil, Bool.and_true] at this
  rw [reg_set] at this
  exact this
/-- What a valid region tells. -/
theorem one_facts {x y : Int} {zs xs : List Int} (h : oneB x y zs xs = true) : (1 ≤ x ∧ x ≤ 5) ∧ zs.length ≤ 25 ∧ Rise xs ∧ (∀ z ∈ xs, 0 ≤ z ∧ z ≤ (zs.length : Int) - 1) ∧ xs.length ≤ zs.length := by
  unfold oneB at h
  simp only [Bool.and_eq_true] at h
  obtain ⟨r1, s1⟩ := setB_rise h.2
  obtain ⟨hx, _, _, hn25⟩ := terr_dims h.1
  have l1 := r1.len (a := 0) (b := zs.length) (by omega) (fun z hz => by have := s1 z hz; omega)
  exact ⟨hx, by omega, r1, s1, by omega⟩
/-- A terrain's box. -/
def TB (w : World) (B : Nat) (x y : Int) (u : Value) : Prop := w.cell? ⟨B, 0, none⟩ = some (.int .i64 x) ∧ w.cell? ⟨B, 1, none⟩ = some (.int .i64 y) ∧ w.cell? ⟨B, 2, none⟩ = some u
theorem cell_below {w w' : World} {B o : Nat} {v : Value} (h : w.cell? ⟨B, o, none⟩ = some v) (hb : Below w.heap.size w w') : w'.cell? ⟨B, o, none⟩ = some v := by
  rw [hb.cell (World.block_lt_of_cell? w _ h)]; exact h
theorem TB.below {w w' : World} {B : Nat} {x y : Int} {u : Value} (h : TB w B x y u) (hb : Below w.heap.size w w') : TB w' B x y u :=
  ⟨cell_below h.1 hb, cell_below h.2.1 hb, cell_below h.2.2 hb⟩
theorem cell_lt {w : World} {B o : Nat} {v : Value} (h : w.cell? ⟨B, o, none⟩ = some v) : B < w.heap.size := World.block_lt_of_cell? w _ h
end Go.Proofs.Ytefampjmbjbhcaa
