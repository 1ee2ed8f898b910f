/- Contracts of the functions that copy, compare, mark and ask slices of ints. Conditions: lengths up to 1048576 where a counter runs. -/
import Derived.Test.YtabedcpibnnnhaaDoorSlice
namespace Go.Proofs.YtabedcpibnnnhaaDoor
open Go.ChangeShapes Go.WideShapes Go.ChangeAt Go.RowKit
set_option linter.unusedVariables false
set_option linter.unusedSimpArgs false
set_option maxRecDepth 100000

/-- A call hands back a row of its own with these cells; nothing that was there has turned. -/
def RetOwn (w : World) (t : TypeId) (k n : Nat) (cs : List Value) (e : Ending) (w' : World) : Prop :=
  ∃ u, e = .returned u ∧ w'.ownsRow w.heap.size t k u n cs ∧ Below w.heap.size w w'
abbrev ints (zs : List Int) : List Value := zs.map (Value.int .i64)

theorem info_int : (Tryd.prog.info? 3).map (fun i => (i.zero, i.size, i.bytes)) = some (some (.int .i64 0), 1, 8) := by kernel_rfl

set_option maxHeartbeats 1000000 in
theorem eqIntS_any (u v : Value) (zs : List Int) (w : World) (hu : Sl w 1 u zs.length (ints zs)) (hv : Sl w 1 v zs.length (ints zs)) :
    Calls Tryd.prog 58 #[u, v] w fun e w' => e = .returned (.bool true) ∧ Below w.heap.size w w' := by
  have hmx := hu.len
  unfold maxLen at hmx
  obtain ⟨A, c, rfl⟩ := hu.val
  obtain ⟨A', c', rfl⟩ := hv.val
  generalize hN : zs.length = N at hu hv hmx ⊢
  have HN := Lib.hid hN
  clear hN
  go_enter Tryd.func58, Tryd.ntmps58
  go_wp2
  go_loopw [5] (fun i wr => ∃ k : Nat, k ≤ N ∧ i = .int .i64 k ∧ Hid (Below w.heap.size w wr)) (fun i _ => N - (intOf i).toNat)
  case atStart => exact ⟨0, Nat.zero_le _, rfl, Below.refl _ _⟩
  case round =>
    obtain ⟨k, hk, rfl, hb⟩ := hrel
    by_cases hlt : k < N
    · obtain ⟨b, off, x, rfl, hx, hcell⟩ := (hu.below hb.out).at1 HN.out hlt
      obtain ⟨b', off', x', rfl, hx', hcell'⟩ := (hv.below hb.out).at1 HN.out hlt
      obtain rfl : x = x' := by rw [hx] at hx'; exact Option.some.inj hx'
      clear hx hx'
      have hlz : (k : Int) < (N : Int) := by omega
      go_wp2_with fail
      go_quiet (fail)
      go_wp2
      go_roundw
      case rel => exact ⟨k + 1, by omega, by go_num, hb.out.trans ⟨rfl, rfl, rfl, Nat.le_refl _, fun _ _ => rfl⟩⟩
      case measure => simp [intOf]; omega
    · go_wp2
      go_ret
      exact ⟨rfl, hb.out⟩
/-- The marks from a number on. -/
def marks (k : Int) (n : Nat) : List Int := (List.range n).map fun (i : Nat) => k + (i : Int)
theorem marks_length (k : Int) (n : Nat) : (marks k n).length = n := by simp [marks]
theorem marks_at (k : Int) (n i : Nat) (h : i < n) : (marks k n)[i]? = some (k + i) := by simp [marks, h]
/-- A call hands back a value and fills a row of its caller's with marks. -/
def RetMark (w : World) (r : Value) (base : Nat) (v : Value) (k : Int) (n : Nat) (e : Ending) (w' : World) : Prop :=
  e = .returned r ∧ w'.ownsRow base 3 1 v n (ints (marks k n)) ∧ w.grownBy w' v.ownBlock
set_option maxHeartbeats 1000000 in
theorem markIntS_any (v : Value) (m : Int) (n base : Nat) (cs0 : List Value) (w : World) (h : w.ownsRow base 3 1 v n cs0) (h1 : 0 ≤ m) (h2 : m ≤ 1099511627776) (hn : n ≤ 1048576) :
    Calls Tryd.prog 59 #[v, .int .i64 m] w (RetMark w (.int .i64 (m + n)) base v m n) := by
  obtain ⟨A, c, rfl, hA⟩ := own_form h
  rcases Nat.eq_zero_or_pos n with rfl | hpos
  · have hcs0 : cs0 = [] := List.eq_nil_of_length_eq_zero (by have := h.1; omega)
    subst hcs0
    have Hh := Lib.hid h
    clear h hA
    go_enter Tryd.func59, Tryd.ntmps59
    go_wp2
    refine wp_loop_rounds 1 ?_
    rw [rounds_succ]
    go_wp2
    go_ret
    exact ⟨by simp, Hh.out, World.grownBy.refl _ _⟩
  · obtain ⟨g, rfl, hbg, hg⟩ := hA hpos
    have Hh := Lib.hid h
    clear h hA
    go_enter Tryd.func59, Tryd.ntmps59
    go_wp2
    go_loopw [1, 5] (fun q i wr => ∃ k : Nat, k ≤ n ∧ i = .int .i64 k ∧ q = .int .i64 (m + k) ∧ Hid (w.grownBy wr (some g)) ∧ Hid (∃ cs, wr.ownsRow base 3 1 (.slice (some ⟨g, 0, none⟩) n c) n cs ∧ ∀ j, j < k → cs[j]? = (ints (marks m n))[j]?)) (fun _ i _ => n - (intOf i).toNat)
    case atStart => exact ⟨0, Nat.zero_le _, rfl, by simp, World.grownBy.refl _ _, _, Hh.out, fun j hj => by omega⟩
    case round =>
      obtain ⟨k, hk, rfl, rfl, hgr, hcs⟩ := hrel
      by_cases hlt : k < n
      · obtain ⟨cs, ho, hp⟩ := hcs.out
        have hl := ho.1
        obtain ⟨u, hu⟩ : ∃ u, cs[k]? = some u := ⟨_, List.getElem?_eq_getElem (by omega)⟩
        have c1 := ho.cellAt k (by omega)
        rw [hu] at c1
        have c2 := ho.frozenAt k
        have Hp := Lib.hid hp
        clear hp hu hl hcs
        go_wp2
        go_roundw
        case rel =>
          refine ⟨k + 1, by omega, by go_num, by simp; omega, grownBy_trans hgr.out (ho.stored k _).2, cs.set k (.int .i64 (m + k)), (ho.stored k _).1, ?_⟩
          exact prefix_set Hp.out (by have := ho.1; omega) (by simp [marks_at m n k hlt])
        case measure => simp [intOf]; omega
      · obtain ⟨cs, ho, hp⟩ := hcs.out
        obtain rfl : k = n := by omega
        have hcs' : cs = ints (marks m k) := prefix_all (n := k) (fun j hj => hp j hj) (by have := ho.1; omega) (by simp [marks_length])
        subst hcs'
        have Ho := Lib.hid ho
        clear ho hp hcs hlt
        go_wp2
        go_ret
        exact ⟨rfl, Ho.out, hgr.out⟩
set_option maxHeartbeats 1000000 in
theorem heldIntS_any (v : Value) (m : Int) (n : Nat) (w : World) (h : Sl w 1 v n (ints (marks m n))) (h1 : 0 ≤ m) (h2 : m ≤ 1099511627776) (hn : n ≤ 1048576) :
    Calls Tryd.prog 60 #[v, .int .i64 m] w fun e w' => e = .returned (.int .i64 (m + n)) ∧ w = w' := by
  obtain ⟨A, c, rfl⟩ := h.val
  have Hh := Lib.hid h
  clear h
  go_enter Tryd.func60, Tryd.ntmps60
  go_wp2
  go_loop [1, 5] (fun q i => ∃ k : Nat, k ≤ n ∧ i = .int .i64 k ∧ q = .int .i64 (m + k)) (fun _ i => n - (intOf i).toNat)
  case atStart => exact ⟨0, Nat.zero_le _, rfl, by simp⟩
  case round =>
    obtain ⟨k, hk, rfl, rfl⟩ := hrel
    by_cases hlt : k < n
    · obtain ⟨b, off, x, rfl, hx, hcell⟩ := Hh.out.at1 (marks_length m n) hlt
      obtain rfl : m + k = x := by rw [marks_at m n k hlt] at hx; exact Option.some.inj hx
      clear hx
      go_wp2
      go_round
      case rel => exact ⟨k + 1, by omega, by go_num, by simp; omega⟩
      case measure => simp [intOf]; omega
    · obtain rfl : k = n := by omega
      clear hlt
      go_wp2
      go_ret
      exact ⟨rfl, rfl⟩
end Go.Proofs.YtabedcpibnnnhaaDoor
