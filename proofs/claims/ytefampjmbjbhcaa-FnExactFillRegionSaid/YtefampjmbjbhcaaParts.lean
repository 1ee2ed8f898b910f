/- PartsOf in the program and in the reference. Conditions: as each states. -/
import Derived.Test.YtefampjmbjbhcaaPieces
import Derived.Test.YtefampjmbjbhcaaRowLaw
import Derived.Test.YtefampjmbjbhcaaSpread
namespace Go.Proofs.Ytefampjmbjbhcaa
open Go.ChangeShapes Go.WideShapes Go.ChangeAt Go.RowKit Go.Deep
set_option linter.unusedVariables false
set_option linter.unusedSimpArgs false
set_option maxRecDepth 100000

/-- Rows, if there are. -/
def selRR (b : Bool) (xss : List (List Int)) : List (List Int) := if b then xss else []
/-- A call hands back rows of its own, and a Bool. -/
def RetRR (w : World) (xss : List (List Int)) (ok : Bool) (e : Ending) (w' : World) : Prop :=
  ∃ u vs, e = .returned (.tuple #[u, .bool ok]) ∧ RowsV w' w.heap.size u vs xss ∧ Below w.heap.size w w'
/-- The same of rows that are read alone. -/
def RetRW (w : World) (xss : List (List Int)) (ok : Bool) (e : Ending) (w' : World) : Prop :=
  ∃ u vs, e = .returned (.tuple #[u, .bool ok]) ∧ RowsW w' w.heap.size w'.heap.size u vs xss ∧ Below w.heap.size w w'
/-- The part of a region that holds a cell. -/
noncomputable def partL (x : Int) (N : Nat) (rg : List Int) (c : Int) : List Int := rchL (fun d => d = c) (fun a b => (0 ≤ b ∧ b ≤ (N : Int) - 1) ∧ (hasB rg b && (apartN x a b == 1)) = true) N
theorem part_cls {x : Int} {N : Nat} {rg : List Int} (hN : ∀ c ∈ rg, 0 ≤ c ∧ c ≤ (N : Int) - 1) : Cls (partL x N rg) rg := by
  refine Cls.of_rch (fun a b ha h => ?_) (fun a b h => ?_) hN
  · simp only [Bool.and_eq_true, beq_iff_eq] at h ⊢
    exact ⟨hN a ha, hasB_iff.2 ha, by rw [apartN_comm]; exact h.2.2⟩
  · simp only [Bool.and_eq_true] at h
    exact hasB_iff.1 h.2.1
theorem part_spr {x : Int} {N : Nat} {rg : List Int} {c : Int} (hc : c ∈ rg) : rchL (sprS rg true c) (sprT x N rg true) N = partL x N rg c := by
  refine rchL_congr (fun d => ?_) (fun a b => ?_)
  · unfold sprS
    exact ⟨fun h => h.1, fun h => ⟨h, by rw [h]; exact hasB_iff.2 hc⟩⟩
  · unfold sprT nbL
    simp only [if_true, selN_mem, near_iff, Bool.and_eq_true, beq_iff_eq]
    constructor
    · rintro ⟨⟨k, hk, h1, rfl⟩, h2⟩
      exact ⟨by omega, h2, by rw [apartN_comm]; exact h1⟩
    · rintro ⟨⟨h0, h1⟩, h2, h3⟩
      exact ⟨⟨b.toNat, by omega, by rw [show ((b.toNat : Nat) : Int) = b by omega, apartN_comm]; exact h3, by omega⟩, h2⟩
end Go.Proofs.Ytefampjmbjbhcaa
