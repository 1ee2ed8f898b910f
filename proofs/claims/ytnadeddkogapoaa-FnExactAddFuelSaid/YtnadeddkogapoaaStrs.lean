/- Contracts of the functions that compare, mark and ask slices of strings. Conditions: lengths up to 1048576 where a counter runs. -/
import Derived.Test.YtnadeddkogapoaaQueue
import Derived.Test.YtnadeddkogapoaaSel
import Derived.Test.YtnadeddkogapoaaBs
namespace Go.Proofs.Ytnadeddkogapoaa
open Go.ChangeShapes Go.WideShapes Go.ChangeAt Go.RowKit Go.Deep
set_option linter.unusedVariables false
set_option linter.unusedSimpArgs false
set_option maxRecDepth 100000

abbrev strs (ss : List ByteArray) : List Value := ss.map Value.string
/-- The digits of a mark. -/
def mdg (n : Nat) (acc : ByteArray) : ByteArray := if n = 0 then acc else mdg (n / 10) (bs [UInt8.ofNat (48 + n % 10)] ++ acc)
termination_by n
decreasing_by omega
/-- A mark's text. -/
def mtext (n : Nat) : ByteArray := if n = 0 then bs [109, 48] else bs [109] ++ mdg n (bs [])
theorem mdg_zero (acc : ByteArray) : mdg 0 acc = acc := by rw [mdg]; rfl
theorem mdg_pos {n : Nat} (h : 0 < n) (acc : ByteArray) : mdg n acc = mdg (n / 10) (bs [UInt8.ofNat (48 + n % 10)] ++ acc) := by rw [mdg, if_neg (by omega)]
def mtexts (k : Nat) (n : Nat) : List ByteArray := (List.range n).map fun i => mtext (k + i)
theorem mtexts_length (k n : Nat) : (mtexts k n).length = n := by simp [mtexts]
theorem mtexts_at (k n i : Nat) (h : i < n) : (mtexts k n)[i]? = some (mtext (k + i)) := by simp [mtexts, h]
theorem conv_one {P : Program} {t e d : TypeId} (hs : P.underlying t = some (.slice e)) (he : P.underlying e = some (.int .u8)) (hd : P.underlying d = some .string) (W : World) (k : Nat) :
    (convert t d (.slice (some ⟨W.heap.size, 0, none⟩) 1 1)).run P (W.alloc (.cells #[.int .u8 (48 + (k : Int) % 10)] e)) = .ok (.string (bs [UInt8.ofNat (48 + k % 10)])) (W.alloc (.cells #[.int .u8 (48 + (k : Int) % 10)] e)) := by
  refine conv_bytes (base := 0) (l := [UInt8.ofNat (48 + k % 10)]) hs he hd ?_
  have e1 : byts [UInt8.ofNat (48 + k % 10)] = [.int .u8 (48 + (k : Int) % 10)] := by
    unfold byts
    simp only [List.map_cons, List.map_nil, UInt8.toNat_ofNat']
    congr 2
    omega
  rw [e1]
  exact ⟨rfl, .inr ⟨_, 0, 1, #[.int .u8 (48 + (k : Int) % 10)], rfl, Nat.zero_le _, hp0 _ _, Nat.le_refl _, by unfold maxLen; omega, by simp, by simp⟩⟩
theorem cell_keeps {w w' : World} (hb : Below w.heap.size w w') {b o : Nat} {v : Value} (h : w.cell? ⟨b, o, none⟩ = some v) : w'.cell? ⟨b, o, none⟩ = some v := by
  have hlt : b < w.heap.size := by
    rcases Nat.lt_or_ge b w.heap.size with h1 | h1
    · exact h1
    · exfalso
      unfold World.cell? at h
      simp [Array.getElem?_eq_none h1] at h
  rw [hb.cell (p := ⟨b, o, none⟩) hlt]; exact h
set_option maxHeartbeats 1000000 in
theorem markText_any (n : Nat) (w : World) (hn : n ≤ 1099511627776) : Calls Try.prog 18 #[.int .i64 n] w fun e w' => e = .returned (.string (mtext n)) ∧ Below w.heap.size w w' := by
  rcases Nat.eq_zero_or_pos n with rfl | hpos
  · go_enter Try.func18, Try.ntmps18
    go_wp2
    go_ret
    exact ⟨rfl, Below.refl _ _⟩
  · have hR : Hid (mtext n = bs [109] ++ mdg n (bs [])) := by show mtext n = _; unfold mtext; rw [if_neg (by omega)]
    generalize mtext n = R at *
    go_enter Try.func18, Try.ntmps18
    go_wp2
    go_loopw [0, 3] (fun q s wr => ∃ (k : Nat) (t : ByteArray) , k ≤ n ∧ q = .int .i64 k ∧ s = .string t ∧ t.size + k ≤ n ∧ Hid (R = bs [109] ++ mdg k t) ∧ Hid (Below w.heap.size w wr)) (fun q _ _ => (intOf q).toNat)
    case atStart => exact ⟨n, bs [], Nat.le_refl _, rfl, rfl, by rw [bs_size]; simp, hR.out, Below.refl _ _⟩
    case round =>
      obtain ⟨k, t, hk, rfl, rfl, hz, hr, hb⟩ := hrel
      rcases Nat.eq_zero_or_pos k with rfl | hkp
      · have hr2 : Hid (R = bs [109] ++ t) := by have := hr.out; rw [mdg_zero] at this; exact this
        go_wp2
        go_ret
        exact ⟨by rw [hr2.out]; rfl, hb.out⟩
      · have hr2 : Hid (R = bs [109] ++ mdg (k / 10) (bs [UInt8.ofNat (48 + k % 10)] ++ t)) := by have := hr.out; rw [mdg_pos hkp] at this; exact this
        have m1 : (k : Int).tdiv 10 = (k : Int) / 10 := by rw [Int.tdiv_eq_ediv_of_nonneg (by omega)]
        have m2 : (k : Int).tmod 10 = (k : Int) % 10 := by rw [Int.tmod_eq_emod_of_nonneg (by omega)]
        have m3 : IntKind.i64.wrap ((k : Int) / 10) = (k : Int) / 10 := IntWalk.i64_in _ (by omega)
        have m4 : IntKind.i64.wrap (48 + (k : Int) % 10) = 48 + (k : Int) % 10 := IntWalk.i64_in _ (by omega)
        have m5 : IntKind.i64.wrap ((k : Int) % 10) = (k : Int) % 10 := IntWalk.i64_in _ (by omega)
        have hcv := conv_one Try.underlying49 Try.underlying5 Try.underlying9 wr k
        have hD : (bs [UInt8.ofNat (48 + k % 10)]).size = 1 := bs_size _
        generalize bs [UInt8.ofNat (48 + k % 10)] = D at *
        have hb1 := Lib.hid (hb.out.alloc hb.out.size (.cells #[.int .u8 (48 + (k : Int) % 10)] 5))
        go_wp2
        go_roundw
        case rel => exact ⟨k / 10, D ++ t, by omega, by go_num, rfl, by rw [ByteArray.size_append, hD]; omega, hr2.out, hb1.out⟩
        case measure => simp [intOf]; omega
end Go.Proofs.Ytnadeddkogapoaa
