/- Contracts of the functions that copy, compare, mark and ask slices of ints. Conditions: lengths up to 1048576 where a counter runs. -/
import Derived.Test.YtabedcpibnnnhaaSlice
namespace Go.Proofs.Ytabedcpibnnnhaa
open Go.ChangeShapes Go.WideShapes Go.ChangeAt Go.RowKit
set_option linter.unusedVariables false
set_option linter.unusedSimpArgs false
set_option maxRecDepth 100000

/-- A call hands back a row of its own with these cells; nothing that was there has turned. -/
def RetOwn (w : World) (t : TypeId) (k n : Nat) (cs : List Value) (e : Ending) (w' : World) : Prop :=
  ∃ u, e = .returned u ∧ w'.ownsRow w.heap.size t k u n cs ∧ Below w.heap.size w w'
abbrev ints (zs : List Int) : List Value := zs.map (Value.int .i64)

theorem info_int : (Try.prog.info? 3).map (fun i => (i.zero, i.size, i.bytes)) = some (some (.int .i64 0), 1, 8) := by kernel_rfl

set_option maxHeartbeats 1000000 in
theorem rInts_any (u v : Value) (zs : List Int) (w : World) (hu : Sl w 1 u zs.length (ints zs)) (hv : Sl w 1 v zs.length (ints zs)) :
    Calls Try.prog 35 #[u, v] w fun e w' => e = .returned (.bool true) ∧ Below w.heap.size w w' := by
  have hmx := hu.len
  unfold maxLen at hmx
  obtain ⟨A, c, rfl⟩ := hu.val
  obtain ⟨A', c', rfl⟩ := hv.val
  generalize hN : zs.length = N at hu hv hmx ⊢
  have HN := Lib.hid hN
  clear hN
  go_enter Try.func35, Try.ntmps35
  go_wp2
  go_loopw [5] (fun i wr => ∃ k : Nat, k ≤ N ∧ i = .int .i64 k ∧ Hid (Below w.heap.size w wr)) (fun i _ => N - (intOf i).toNat)
  case atStart => exact ⟨0, Nat.zero_le _, rfl, Below.refl _ _⟩
  case round =>
    obtain ⟨k, hk, rfl, hb⟩ := hrel
    by_cases hlt : k < N
    · obtain ⟨b, off, x, rfl, hx, hcell⟩ := (hu.below hb.out).at1 HN.out hlt
      obtain ⟨b', off', x', rfl, hx', hcell'⟩ := (hv.below hb.out).at1 HN.out hlt
      obtain rfl : x = x' := by rw [hx] at hx'; exact Option.some.inj hx'
      clear hx hx'
      have hlz : (k : Int) < (N : Int) := by omega
      go_wp2_with fail
      go_quiet (fail)
      go_wp2
      go_roundw
      case rel => exact ⟨k + 1, by omega, by go_num, hb.out.trans ⟨rfl, rfl, rfl, Nat.le_refl _, fun _ _ => rfl⟩⟩
      case measure => simp [intOf]; omega
    · go_wp2
      go_ret
      exact ⟨rfl, hb.out⟩
/-- The marks from a number on. -/
def marks (k : Int) (n : Nat) : List Int := (List.range n).map fun (i : Nat) => k + (i : Int)
theorem marks_length (k : Int) (n : Nat) : (marks k n).length = n := by simp [marks]
theorem marks_at (k : Int) (n i : Nat) (h : i < n) : (marks k n)[i]? = some (k + i) := by simp [marks, h]
/-- A call hands back a value and fills a row of its caller's with marks. -/
def RetMark (w : World) (r : Value) (base : Nat) (v : Value) (k : Int) (n : Nat) (e : Ending) (w' : World) : Prop :=
  e = .returned r ∧ w'.ownsRow base 3 1 v n (ints (marks k n)) ∧ w.grownBy w' v.ownBlock
end Go.Proofs.Ytabedcpibnnnhaa
