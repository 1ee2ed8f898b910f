/- Slices of fuels: sizes asked, copies, comparison. Conditions: as each states. -/
import Derived.Test.YtnadeddkogapoaaGreatDoorFuel
import Derived.Test.YtnadeddkogapoaaGreatDoorLow
import Derived.StillTailTactics
namespace Go.Proofs.YtnadeddkogapoaaGreatDoor
open Go.ChangeShapes Go.WideShapes Go.ChangeAt Go.RowKit
set_option linter.unusedVariables false
set_option linter.unusedSimpArgs false
set_option maxRecDepth 100000

/-- A fuel. -/
structure Fu where
  i : Int
  n : ByteArray
  r : Int
  l : Int
  o : Int
def encU (p : Fu) : List Value := [.int .i64 p.i, .string p.n, .int .i64 p.r, .int .i64 p.l, .int .i64 p.o]
theorem encU_length (p : Fu) : (encU p).length = 5 := rfl
abbrev fus (ps : List Fu) : List Value := ps.flatMap encU
abbrev fuV (i : Int) (n : ByteArray) (r l o : Int) : Value := .agg #[.int .i64 i, .string n, .int .i64 r, .int .i64 l, .int .i64 o]
/-- The bytes of the names. -/
def nsum (ps : List Fu) : Nat := (ps.map fun p => p.n.size).sum
def fszN (ps : List Fu) : Nat := ps.length + nsum ps
theorem fszN_len (ps : List Fu) : ps.length ≤ fszN ps := by unfold fszN; omega
theorem nsum_succ {ps : List Fu} {k : Nat} {p : Fu} (h : ps[k]? = some p) : nsum (ps.take (k + 1)) = nsum (ps.take k) + p.n.size := by
  obtain ⟨hk, rfl⟩ := List.getElem?_eq_some_iff.1 h
  unfold nsum
  rw [List.take_succ_eq_append_getElem hk, List.map_append, List.sum_append]; simp
theorem nsum_take (ps : List Fu) (k : Nat) : nsum (ps.take k) ≤ nsum ps := by
  unfold nsum
  conv => rhs; rw [← List.take_append_drop k ps]
  rw [List.map_append, List.sum_append]; omega
theorem nsum_mem {ps : List Fu} {p : Fu} (h : p ∈ ps) : p.n.size ≤ nsum ps := by
  obtain ⟨k, hk, rfl⟩ := List.mem_iff_getElem.1 h
  have h1 := nsum_succ (List.getElem?_eq_getElem hk)
  have h2 := nsum_take ps (k + 1)
  omega
theorem info_fuel : (Tryz.prog.info? 25).map (fun i => (i.zero, i.size, i.bytes)) = some (some (fuV 0 ByteArray.empty 0 0 0), 5, 48) := by kernel_rfl
theorem Sl.fu {w : World} {A : Option Addr} {c n : Nat} {ps : List Fu} (h : Sl w 5 (.slice A n c) n (fus ps)) (hn : ps.length = n) {k : Nat} (hk : k < n) :
    ∃ b off i s r l o, A = some ⟨b, off, none⟩ ∧ ps[k]? = some ⟨i, s, r, l, o⟩ ∧ w.cell? ⟨b, off + k * 5, none⟩ = some (.int .i64 i) ∧ w.cell? ⟨b, off + k * 5 + 1, none⟩ = some (.string s) ∧ w.cell? ⟨b, off + k * 5 + 2, none⟩ = some (.int .i64 r) ∧ w.cell? ⟨b, off + k * 5 + 3, none⟩ = some (.int .i64 l) ∧ w.cell? ⟨b, off + k * 5 + 4, none⟩ = some (.int .i64 o) := by
  obtain ⟨b, off, ⟨i, s, r, l, o⟩, rfl, hx, hc⟩ := h.at_ encU_length hn (by omega) hk
  exact ⟨b, off, i, s, r, l, o, rfl, hx, hc 0 _ rfl, hc 1 _ rfl, hc 2 _ rfl, hc 3 _ rfl, hc 4 _ rfl⟩
end Go.Proofs.YtnadeddkogapoaaGreatDoor
