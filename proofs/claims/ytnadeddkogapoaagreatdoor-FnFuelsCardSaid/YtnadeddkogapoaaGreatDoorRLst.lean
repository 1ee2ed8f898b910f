/- Lists of fuels and of texts compared, a text looked for. Conditions: as each states. -/
import Derived.Test.YtnadeddkogapoaaGreatDoorFus
import Derived.Test.YtnadeddkogapoaaGreatDoorLow
import Derived.Test.YtnadeddkogapoaaGreatDoorBurnF
namespace Go.Proofs.YtnadeddkogapoaaGreatDoor
open Go.ChangeShapes Go.WideShapes Go.ChangeAt Go.RowKit Go.Deep
set_option linter.unusedVariables false
set_option linter.unusedSimpArgs false
set_option maxRecDepth 100000

/-- Whether a text is among some. -/
def hasT (ss : List ByteArray) (n : ByteArray) : Bool := ss.any fun x => x.toList == n.toList
theorem hasT_names (ls : List (List UInt8)) (n : ByteArray) : hasT (ls.map bs) n = decide (n.data.toList ∈ ls) := by
  unfold hasT
  rw [List.any_map]
  have e : ((fun x : ByteArray => x.toList == n.toList) ∘ bs) = fun l => l == n.data.toList := by
    funext l
    simp only [Function.comp]
    rw [bs_listF, ByteArray.toList_eq]
  rw [e, Bool.eq_iff_iff]
  simp
set_option maxHeartbeats 2000000 in
theorem rFuels_any (u v : Value) (ps : List Fu) (w : World) (hu : Sl w 5 u ps.length (fus ps)) (hv : Sl w 5 v ps.length (fus ps)) :
    Calls Tryz.prog 15 #[u, v] w fun e w' => e = .returned (.bool true) ∧ Below w.heap.size w w' := by
  have hmx := hu.len
  unfold maxLen at hmx
  obtain ⟨A, c, rfl⟩ := hu.val
  obtain ⟨A', c', rfl⟩ := hv.val
  generalize hN : ps.length = N at hu hv hmx ⊢
  have HN := Lib.hid hN
  clear hN
  go_enter Tryz.func15, Tryz.ntmps15
  go_wp2
  go_loopw [5] (fun i wr => ∃ k : Nat, k ≤ N ∧ i = .int .i64 k ∧ Hid (Below w.heap.size w wr)) (fun i _ => N - (intOf i).toNat)
  case atStart => exact ⟨0, Nat.zero_le _, rfl, Below.refl _ _⟩
  case round =>
    obtain ⟨k, hk, rfl, hb⟩ := hrel
    by_cases hlt : k < N
    · obtain ⟨b, off, i, s, r, l, o, rfl, hx, c0, c1, c2, c3, c4⟩ := (hu.below hb.out).fu HN.out hlt
      obtain ⟨b', off', i', s', r', l', o', rfl, hx', d0, d1, d2, d3, d4⟩ := (hv.below hb.out).fu HN.out hlt
      obtain ⟨rfl, rfl, rfl, rfl, rfl⟩ : i = i' ∧ s = s' ∧ r = r' ∧ l = l' ∧ o = o' := by rw [hx] at hx'; simpa using hx'
      clear hx hx'
      have hlz : (k : Int) < (N : Int) := by omega
      go_wp2_with fail
      go_quiet (fail)
      go_wp2
      go_roundw
      case rel => exact ⟨k + 1, by omega, by go_num, hb.out.trans ⟨rfl, rfl, rfl, Nat.le_refl _, fun _ _ => rfl⟩⟩
      case measure => simp [intOf]; omega
    · go_wp2
      go_ret
      exact ⟨rfl, hb.out⟩
set_option maxHeartbeats 2000000 in
theorem rTexts_any (u v : Value) (ss : List ByteArray) (w : World) (hu : Sl w 1 u ss.length (strs ss)) (hv : Sl w 1 v ss.length (strs ss)) :
    Calls Tryz.prog 20 #[u, v] w fun e w' => e = .returned (.bool true) ∧ Below w.heap.size w w' := by
  have hmx := hu.len
  unfold maxLen at hmx
  obtain ⟨A, c, rfl⟩ := hu.val
  obtain ⟨A', c', rfl⟩ := hv.val
  generalize hN : ss.length = N at hu hv hmx ⊢
  have HN := Lib.hid hN
  clear hN
  go_enter Tryz.func20, Tryz.ntmps20
  go_wp2
  go_loopw [5] (fun i wr => ∃ k : Nat, k ≤ N ∧ i = .int .i64 k ∧ Hid (Below w.heap.size w wr)) (fun i _ => N - (intOf i).toNat)
  case atStart => exact ⟨0, Nat.zero_le _, rfl, Below.refl _ _⟩
  case round =>
    obtain ⟨k, hk, rfl, hb⟩ := hrel
    by_cases hlt : k < N
    · obtain ⟨b, off, x, rfl, hx, hcell⟩ := (hu.below hb.out).at1 HN.out hlt
      obtain ⟨b', off', x', rfl, hx', hcell'⟩ := (hv.below hb.out).at1 HN.out hlt
      obtain rfl : x = x' := by rw [hx] at hx'; exact Option.some.inj hx'
      clear hx hx'
      have hlz : (k : Int) < (N : Int) := by omega
      go_wp2_with fail
      go_quiet (fail)
      go_wp2
      go_roundw
      case rel => exact ⟨k + 1, by omega, by go_num, hb.out.trans ⟨rfl, rfl, rfl, Nat.le_refl _, fun _ _ => rfl⟩⟩
      case measure => simp [intOf]; omega
    · go_wp2
      go_ret
      exact ⟨rfl, hb.out⟩
set_option maxHeartbeats 2000000 in
theorem rHasText_any (u : Value) (ss : List ByteArray) (n : ByteArray) (w : World) (hu : Sl w 1 u ss.length (strs ss)) :
    Calls Tryz.prog 22 #[u, .string n] w fun e w' => e = .returned (.bool (hasT ss n)) ∧ w = w' := by
  have hmx := hu.len
  unfold maxLen at hmx
  have HT : Hid (∀ (k : Nat) (x : ByteArray), ss[k]? = some x → (x.toList == n.toList) = true → hasT ss n = true) := fun k x hx hb => by
    unfold hasT; rw [List.any_eq_true]; exact ⟨x, List.mem_of_getElem? hx, hb⟩
  have HF : Hid ((∀ (k : Nat) (x : ByteArray), k < ss.length → ss[k]? = some x → (x.toList == n.toList) = false) → hasT ss n = false) := fun h => by
    unfold hasT; rw [List.any_eq_false]
    intro x hx
    obtain ⟨k, hk, rfl⟩ := List.mem_iff_getElem.1 hx
    simpa using h k _ hk (List.getElem?_eq_getElem hk)
  obtain ⟨A, c, rfl⟩ := hu.val
  generalize hasT ss n = R at *
  generalize hN : ss.length = N at *
  have HN := Lib.hid hN
  clear hN
  go_enter Tryz.func22, Tryz.ntmps22
  go_wp2
  go_loopw [5] (fun i wr => ∃ k : Nat, k ≤ N ∧ i = .int .i64 k ∧ w = wr ∧ Hid (∀ (j : Nat) (x : ByteArray), j < k → ss[j]? = some x → (x.toList == n.toList) = false)) (fun i _ => N - (intOf i).toNat)
  case atStart => exact ⟨0, Nat.zero_le _, rfl, rfl, fun j x h => by omega⟩
  case round =>
    obtain ⟨k, hk, rfl, rfl, hno⟩ := hrel
    by_cases hlt : k < N
    · obtain ⟨b, off, x, rfl, hx, hcell⟩ := hu.at1 HN.out hlt
      have hlz : (k : Int) < (N : Int) := by omega
      cases hbx : (x.toList == n.toList) with
      | true =>
        obtain rfl : R = true := HT.out k x hx hbx
        clear HT HF hx hno
        go_wp2
        go_ret
        exact ⟨rfl, rfl⟩
      | false =>
        have hno2 : Hid (∀ (j : Nat) (x : ByteArray), j < k + 1 → ss[j]? = some x → (x.toList == n.toList) = false) := fun j y hj hy => by
          by_cases e : j = k
          · subst e; rw [hx] at hy; cases hy; exact hbx
          · exact hno.out j y (by omega) hy
        clear HT HF hx hno
        go_wp2
        go_roundw
        case rel => exact ⟨k + 1, by omega, by go_num, by trivial, hno2.out⟩
        case measure => simp [intOf]; omega
    · obtain rfl : k = N := by omega
      obtain rfl : R = false := HF.out (fun j x hj hx => hno.out j x hj hx)
      clear HT HF hno
      go_wp2
      go_ret
      exact ⟨rfl, rfl⟩
end Go.Proofs.YtnadeddkogapoaaGreatDoor
