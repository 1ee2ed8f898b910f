/- SplitString in the program and in the reference. Conditions: as each states. -/
import Derived.Test.YtddnghfioghidaaDoorBaseD
import Derived.Test.YtddnghfioghidaaDoorSplitP
import Derived.Test.YtddnghfioghidaaDoorStrC
import Derived.Test.YtddnghfioghidaaDoorShelfS
namespace Go.Proofs.YtddnghfioghidaaDoor
open Go.ChangeShapes Go.WideShapes Go.ChangeAt Go.RowKit Go.Deep
set_option linter.unusedVariables false
set_option linter.unusedSimpArgs false
set_option maxRecDepth 100000

/-- A call hands back a list of strings of its own and a word on it. -/
def RetStrs (w : World) (ss : List ByteArray) (ok : Bool) (e : Ending) (w' : World) : Prop := ∃ v, e = .returned (.tuple #[v, .bool ok]) ∧ w'.ownsRow w.heap.size 9 1 v ss.length (strs ss) ∧ Below w.heap.size w w'
/-- The same, at whatever offset. -/
def RetStrsQ (w : World) (ss : List ByteArray) (ok : Bool) (e : Ending) (w' : World) : Prop := ∃ v, e = .returned (.tuple #[v, .bool ok]) ∧ Qw w' w.heap.size 9 1 v ss.length (strs ss) ∧ Below w.heap.size w w'
/-- Whether a text is split, and its parts. -/
def splB (s sep : ByteArray) : Bool := decide (s.size ≤ 4000) && decide (sep.size = 1)
def splL (s sep : ByteArray) : List ByteArray := if splB s sep then splitS s (sep.data.getD 0 0) else []
theorem sep_of {sep : ByteArray} (h : sep.size = 1) : ∃ c, sep = ⟨#[c]⟩ := by
  obtain ⟨⟨l⟩⟩ := sep
  match l, h with
  | [c], _ => exact ⟨c, rfl⟩
theorem spl_yes {s : ByteArray} {c : UInt8} (h : s.size ≤ 4000) : splB s ⟨#[c]⟩ = true ∧ splL s ⟨#[c]⟩ = splitS s c := by
  have h1 : splB s ⟨#[c]⟩ = true := by unfold splB; rw [decide_eq_true h, decide_eq_true (show (⟨#[c]⟩ : ByteArray).size = 1 from rfl)]; rfl
  exact ⟨h1, by unfold splL; rw [if_pos h1]; rfl⟩
theorem spl_no {s sep : ByteArray} (h : ¬ s.size ≤ 4000 ∨ ¬ sep.size = 1) : splB s sep = false ∧ splL s sep = [] := by
  have h1 : splB s sep = false := by unfold splB; rcases h with h | h <;> simp [h]
  exact ⟨h1, by unfold splL; rw [h1]; rfl⟩
theorem splitS_le (s : ByteArray) (c : UInt8) : (splitS s c).length ≤ s.size + 1 := by
  unfold splitS
  have := spO_le s c s.size
  rw [List.length_append, List.length_singleton]; omega
theorem splL_le (s sep : ByteArray) : (splL s sep).length ≤ 4001 := by
  unfold splL
  split
  · rename_i h
    unfold splB at h
    rw [Bool.and_eq_true, decide_eq_true_eq] at h
    have := splitS_le s (sep.data.getD 0 0)
    omega
  · simp
/-- The library's split at one byte. -/
theorem Split_any (s : ByteArray) (c : UInt8) (w : World) (hs : s.size ≤ 1048576) (hm : LenIs w) :
    Calls Tryd.prog 63 #[.string s, .string ⟨#[c]⟩] w (RetOwn w 9 1 (splitS s c).length (strs (splitS s c))) := by
  obtain ⟨m, hm⟩ := hm
  have h := Tryd.strings_Split s ⟨#[c]⟩ m w (by omega) hm (Nat.le_refl 1)
  rw [split_lib] at h
  have hl := splitS_length s c
  have hle := splitS_le s c
  refine h.mono ?_
  rintro e w1 ⟨rfl, rfl⟩
  refine ⟨_, rfl, ?_, grow_alloc _ _⟩
  rw [← hl]
  have := World.ownsRow_lit (base := w.heap.size) (e := 9) (size := 1) w ((splitS s c).map Value.string).toArray (splitS s c).length (Nat.le_refl _) (by unfold maxLen; omega) (by simp)
  simpa using this
set_option maxHeartbeats 1000000 in
theorem SplitString_any (s sep : ByteArray) (w : World) (hs : s.size ≤ 1048576) (hp : sep.size ≤ 1048576) (hm : LenIs w) :
    Calls Tryd.prog 12 #[.string s, .string sep] w (RetStrs w (splL s sep) (splB s sep)) := by
  by_cases h1 : s.size ≤ 4000
  · by_cases h2 : sep.size = 1
    · obtain ⟨c, rfl⟩ := sep_of h2
      obtain ⟨e1, e2⟩ := spl_yes (s := s) (c := c) h1
      have HS := Lib.hid (Split_any s c w hs hm)
      rw [e1, e2]
      clear e1 e2 hm
      generalize splitS s c = S at *
      go_enter Tryd.func12, Tryd.ntmps12
      go_wp2_with fail
      refine HS.out.mono ?_
      rintro e w1 ⟨v, rfl, ho, hb⟩
      have ho := Lib.hid ho
      have hb := Lib.hid hb
      go_wp2
      exact bodyPost_ret (v := .tuple #[v, .bool true]) (by simp [results, Tryd.results12, go_sem]) rfl ⟨_, rfl, ho.out, hb.out⟩
    · obtain ⟨e1, e2⟩ := spl_no (s := s) (sep := sep) (Or.inr h2)
      have h2' : ((sep.size : Int) == 1) = false := by rw [beq_eq_false_iff_ne]; omega
      have h3' : ((sep.size : Int) != 1) = true := by rw [bne, h2']; rfl
      rw [e1, e2]
      clear e1 e2 hm
      go_enter Tryd.func12, Tryd.ntmps12
      go_wp2
      exact bodyPost_ret (v := .tuple #[.slice none 0 0, .bool false]) (by simp [results, Tryd.results12, go_sem]) rfl ⟨_, rfl, own_nil _ _ _ _, Below.refl _ _⟩
  · obtain ⟨e1, e2⟩ := spl_no (s := s) (sep := sep) (Or.inl h1)
    rw [e1, e2]
    clear e1 e2 hm
    go_enter Tryd.func12, Tryd.ntmps12
    go_wp2
    exact bodyPost_ret (v := .tuple #[.slice none 0 0, .bool false]) (by simp [results, Tryd.results12, go_sem]) rfl ⟨_, rfl, own_nil _ _ _ _, Below.refl _ _⟩
set_option maxHeartbeats 1000000 in
theorem sSplitString_any (s sep : ByteArray) (w : World) (hs : s.size ≤ 1048576) (hp : sep.size ≤ 1048576) :
    Calls Tryd.prog 11 #[.string s, .string sep] w (RetStrsQ w (splL s sep) (splB s sep)) := by
  have hq0 : Hid (Qw (w.alloc (.cells #[] 9)) w.heap.size 9 1 (.slice (some ⟨w.heap.size, 0, none⟩) 0 0) 0 []) := Qw.empty w _
  by_cases h2 : sep.size = 1
  · obtain ⟨c, rfl⟩ := sep_of h2
    by_cases h1 : s.size ≤ 4000
    · obtain ⟨e1, e2⟩ := spl_yes (s := s) (c := c) h1
      have HS := Lib.hid (l1Split_any s c w hs)
      rw [e1, e2]
      clear e1 e2
      generalize splitS s c = S at *
      go_enter Tryd.func11, Tryd.ntmps11
      go_wp2_with fail
      refine HS.out.mono ?_
      rintro e w1 ⟨v, rfl, ho, hb⟩
      have ho := Lib.hid ho
      have hb := Lib.hid hb
      go_wp2
      exact bodyPost_ret (v := .tuple #[v, .bool true]) (by simp [results, Tryd.results11, go_sem]) rfl ⟨_, rfl, ho.out, hb.out⟩
    · obtain ⟨e1, e2⟩ := spl_no (s := s) (sep := ⟨#[c]⟩) (Or.inl h1)
      rw [e1, e2]
      clear e1 e2
      go_enter Tryd.func11, Tryd.ntmps11
      go_wp2
      exact bodyPost_ret (v := .tuple #[.slice (some ⟨w.heap.size, 0, none⟩) 0 0, .bool false]) (by simp [results, Tryd.results11, go_sem]) rfl ⟨_, rfl, hq0.out, grow_alloc _ _⟩
  · obtain ⟨e1, e2⟩ := spl_no (s := s) (sep := sep) (Or.inr h2)
    have h2' : ((sep.size : Int) == 1) = false := by rw [beq_eq_false_iff_ne]; omega
    have h3' : ((sep.size : Int) != 1) = true := by rw [bne, h2']; rfl
    rw [e1, e2]
    clear e1 e2
    go_enter Tryd.func11, Tryd.ntmps11
    go_wp2
    exact bodyPost_ret (v := .tuple #[.slice (some ⟨w.heap.size, 0, none⟩) 0 0, .bool false]) (by simp [results, Tryd.results11, go_sem]) rfl ⟨_, rfl, hq0.out, grow_alloc _ _⟩
end Go.Proofs.YtddnghfioghidaaDoor
