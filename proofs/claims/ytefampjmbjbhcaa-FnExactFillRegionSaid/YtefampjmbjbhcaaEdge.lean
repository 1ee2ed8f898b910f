/- Sides of cells; EdgeLength in the program. Conditions: as each states. -/
import Derived.Test.YtefampjmbjbhcaaGrow2
namespace Go.Proofs.Ytefampjmbjbhcaa
open Go.ChangeShapes Go.WideShapes Go.ChangeAt Go.RowKit Go.Deep
set_option linter.unusedVariables false
set_option linter.unusedSimpArgs false
set_option maxRecDepth 100000

/-- Two cells share a column or a row. -/
def alongB (x a b : Int) : Bool := (a % x == b % x) || (a / x == b / x)
/-- Two cells are neighbors in one column or row. -/
def besB (x a b : Int) : Bool := (apartN x a b == 1) && alongB x a b
/-- The free sides of the first cells of a region. -/
def edgeS (x : Int) (xs : List Int) (k : Nat) : Int := ((xs.take k).map fun c => 4 - ((xs.filter (besB x c)).length : Int)).sum
theorem edgeS_succ {x : Int} {xs : List Int} {k : Nat} {z : Int} (h : xs[k]? = some z) : edgeS x xs (k + 1) = edgeS x xs k + (4 - ((xs.filter (besB x z)).length : Int)) := by
  obtain ⟨hk, rfl⟩ := List.getElem?_eq_some_iff.1 h
  unfold edgeS
  rw [List.take_succ_eq_append_getElem hk, List.map_append, List.sum_append]; simp
theorem edgeS_bd {x : Int} {xs : List Int} (hn : xs.length ≤ 25) : ∀ k : Nat, -25 * (k : Int) ≤ edgeS x xs k ∧ edgeS x xs k ≤ 4 * k
  | 0 => by simp [edgeS]
  | k + 1 => by
    have ih := edgeS_bd (x := x) hn k
    cases h : xs[k]? with
    | none =>
      rw [List.getElem?_eq_none_iff] at h
      have : edgeS x xs (k + 1) = edgeS x xs k := by unfold edgeS; rw [List.take_of_length_le (by omega), List.take_of_length_le h]
      rw [this]; omega
    | some z =>
      rw [edgeS_succ h]
      have : (xs.filter (besB x z)).length ≤ xs.length := List.length_filter_le _ _
      omega
set_option maxHeartbeats 2000000 in
theorem beside_any (x y : Int) (u : Value) (a b : Int) (w : World) (h1 : 1 ≤ x) (h2 : x ≤ 5) (h3 : 0 ≤ a) (h4 : a ≤ 25) (h5 : 0 ≤ b) (h6 : b ≤ 25) :
    Calls Try.prog 140 #[terrV x y u, .int .i64 a, .int .i64 b] w fun e w' => e = .returned (.bool (besB x a b)) ∧ Below w.heap.size w w' := by
  have hq := fun n : Later (w.alloc (.cells #[.int .i64 x, .int .i64 y, u] 28)) => n.cell
  have HA := Lib.hid fun W => apart_any x y u a b W h1 h2 h3 h4 h5 h6
  have HC1 := Lib.hid fun W => column_any x y u a W h1 h2 h3 h4
  have HC2 := Lib.hid fun W => column_any x y u b W h1 h2 h5 h6
  have HR1 := Lib.hid fun W => row_any x y u a W h1 h2 h3 h4
  have HR2 := Lib.hid fun W => row_any x y u b W h1 h2 h5 h6
  have HB : Hid (besB x a b = ((apartN x a b == 1) && ((a % x == b % x) || (a / x == b / x)))) := rfl
  clear h1 h2 h3 h4 h5 h6
  generalize besB x a b = R at *
  generalize apartN x a b = p at *
  generalize a % x = ca at *
  generalize b % x = cb at *
  generalize a / x = ra at *
  generalize b / x = rb at *
  by_cases hp : p = 1
  · by_cases hc : ca = cb
    · have e1 : (p == 1) = true := by simpa using hp
      have e2 : (ca == cb) = true := by simpa using hc
      have hR : R = true := by rw [HB.out, e1, e2]; rfl
      subst hR
      clear HB hp hc
      go_enter Try.func140, Try.ntmps140
      go_wp2_with fail
      refine wp_region_later (by kernel_rfl) (by kernel_rfl) ?_
      repeat (go_big_quiet_step ((first | (go_at_call 177; exact later_of (HA.out _)) | (go_at_call 178; first | exact later_of (HC1.out _) | exact later_of (HC2.out _)) | (go_at_call 179; first | exact later_of (HR1.out _) | exact later_of (HR2.out _)))))
      refine wpQuiet_nil ?_
      rintro _ ⟨wq, rfl⟩
      go_wp2
      go_ret
      exact ⟨rfl, grow_trans (grow_alloc _ _) wq.h⟩
    · have e1 : (p == 1) = true := by simpa using hp
      have e2 : (ca == cb) = false := by simpa using hc
      have hR : R = (ra == rb) := by rw [HB.out, e1, e2]; rfl
      subst hR
      clear HB hp hc
      go_enter Try.func140, Try.ntmps140
      go_wp2_with fail
      refine wp_region_later (by kernel_rfl) (by kernel_rfl) ?_
      repeat (go_big_quiet_step ((first | (go_at_call 177; exact later_of (HA.out _)) | (go_at_call 178; first | exact later_of (HC1.out _) | exact later_of (HC2.out _)) | (go_at_call 179; first | exact later_of (HR1.out _) | exact later_of (HR2.out _)))))
      refine wpQuiet_nil ?_
      rintro _ ⟨wq, rfl⟩
      go_wp2
      go_ret
      exact ⟨rfl, grow_trans (grow_alloc _ _) wq.h⟩
  · have e1 : (p == 1) = false := by simpa using hp
    have hR : R = false := by rw [HB.out, e1]; rfl
    subst hR
    clear HB hp
    go_enter Try.func140, Try.ntmps140
    go_wp2_with fail
    refine wp_region_later (by kernel_rfl) (by kernel_rfl) ?_
    repeat (go_big_quiet_step ((first | (go_at_call 177; exact later_of (HA.out _)) | (go_at_call 178; first | exact later_of (HC1.out _) | exact later_of (HC2.out _)) | (go_at_call 179; first | exact later_of (HR1.out _) | exact later_of (HR2.out _)))))
    refine wpQuiet_nil ?_
    rintro _ ⟨wq, rfl⟩
    go_wp2
    go_ret
    exact ⟨rfl, grow_trans (grow_alloc _ _) wq.h⟩
end Go.Proofs.Ytefampjmbjbhcaa
