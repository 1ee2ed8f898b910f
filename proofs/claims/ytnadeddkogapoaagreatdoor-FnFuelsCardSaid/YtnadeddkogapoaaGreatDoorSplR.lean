/- SplitString in the program and in the reference. Conditions: as each states. -/
import Derived.Test.YtnadeddkogapoaaGreatDoorLow
import Derived.Test.YtnadeddkogapoaaGreatDoorSplitP
namespace Go.Proofs.YtnadeddkogapoaaGreatDoor
open Go.ChangeShapes Go.WideShapes Go.ChangeAt Go.RowKit Go.Deep
set_option linter.unusedVariables false
set_option linter.unusedSimpArgs false
set_option maxRecDepth 100000

/-- A call hands back a list of strings of its own and a word on it. -/
def RetStrs (w : World) (ss : List ByteArray) (ok : Bool) (e : Ending) (w' : World) : Prop := ∃ v, e = .returned (.tuple #[v, .bool ok]) ∧ w'.ownsRow w.heap.size 9 1 v ss.length (strs ss) ∧ Below w.heap.size w w'
/-- The same, at whatever offset. -/
def RetStrsQ (w : World) (ss : List ByteArray) (ok : Bool) (e : Ending) (w' : World) : Prop := ∃ v, e = .returned (.tuple #[v, .bool ok]) ∧ Qw w' w.heap.size 9 1 v ss.length (strs ss) ∧ Below w.heap.size w w'
/-- Whether a text is split, and its parts. -/
def splB (s sep : ByteArray) : Bool := decide (s.size ≤ 4000) && decide (sep.size = 1)
def splL (s sep : ByteArray) : List ByteArray := if splB s sep then splitS s (sep.data.getD 0 0) else []
theorem sep_of {sep : ByteArray} (h : sep.size = 1) : ∃ c, sep = ⟨#[c]⟩ := by
  obtain ⟨⟨l⟩⟩ := sep
  match l, h with
  | [c], _ => exact ⟨c, rfl⟩
theorem spl_yes {s : ByteArray} {c : UInt8} (h : s.size ≤ 4000) : splB s ⟨#[c]⟩ = true ∧ splL s ⟨#[c]⟩ = splitS s c := by
  have h1 : splB s ⟨#[c]⟩ = true := by unfold splB; rw [decide_eq_true h, decide_eq_true (show (⟨#[c]⟩ : ByteArray).size = 1 from rfl)]; rfl
  exact ⟨h1, by unfold splL; rw [if_pos h1]; rfl⟩
theorem spl_no {s sep : ByteArray} (h : ¬ s.size ≤ 4000 ∨ ¬ sep.size = 1) : splB s sep = false ∧ splL s sep = [] := by
  have h1 : splB s sep = false := by unfold splB; rcases h with h | h <;> simp [h]
  exact ⟨h1, by unfold splL; rw [h1]; rfl⟩
theorem splitS_le (s : ByteArray) (c : UInt8) : (splitS s c).length ≤ s.size + 1 := by
  unfold splitS
  have := spO_le s c s.size
  rw [List.length_append, List.length_singleton]; omega
theorem splL_le (s sep : ByteArray) : (splL s sep).length ≤ 4001 := by
  unfold splL
  split
  · rename_i h
    unfold splB at h
    rw [Bool.and_eq_true, decide_eq_true_eq] at h
    have := splitS_le s (sep.data.getD 0 0)
    omega
  · simp
/-- The library's split at one byte. -/
theorem Split_any (s : ByteArray) (c : UInt8) (w : World) (hs : s.size ≤ 1048576) (hm : LenIs w) :
    Calls Tryz.prog 33 #[.string s, .string ⟨#[c]⟩] w (RetOwn w 9 1 (splitS s c).length (strs (splitS s c))) := by
  obtain ⟨m, hm⟩ := hm
  have h := Tryz.strings_Split s ⟨#[c]⟩ m w (by omega) hm (Nat.le_refl 1)
  rw [split_lib] at h
  have hl := splitS_length s c
  have hle := splitS_le s c
  refine h.mono ?_
  rintro e w1 ⟨rfl, rfl⟩
  refine ⟨_, rfl, ?_, grow_alloc _ _⟩
  rw [← hl]
  have := World.ownsRow_lit (base := w.heap.size) (e := 9) (size := 1) w ((splitS s c).map Value.string).toArray (splitS s c).length (Nat.le_refl _) (by unfold maxLen; omega) (by simp)
  simpa using this
end Go.Proofs.YtnadeddkogapoaaGreatDoor
