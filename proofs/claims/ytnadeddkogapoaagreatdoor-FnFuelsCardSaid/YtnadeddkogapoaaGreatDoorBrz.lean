/- A breeze's text, in the program and in the reference. Conditions: as each states. -/
import Derived.Test.YtnadeddkogapoaaGreatDoorFmt
import Derived.Test.YtnadeddkogapoaaGreatDoorLow
namespace Go.Proofs.YtnadeddkogapoaaGreatDoor
open Go.ChangeShapes Go.WideShapes Go.ChangeAt Go.RowKit Go.Deep
set_option linter.unusedVariables false
set_option linter.unusedSimpArgs false
set_option maxRecDepth 100000

/-- The letters of all directions. -/
def dirS : List (List UInt8) := [[78], [78, 69], [69], [83, 69], [83], [83, 87], [87], [78, 87]]
/-- A valid breeze's text. -/
def brzL (f s : Int) : List UInt8 := if s = 0 then [99, 97, 108, 109] else dirS.getD f.toNat [] ++ [32] ++ Lib.itoa s ++ [32, 107, 109, 47, 104]
theorem dir_len {j : Nat} {l : List UInt8} (h : dirS[j]? = some l) : l.length ≤ 2 := by
  have : ∀ p ∈ dirS, p.length ≤ 2 := by decide
  exact this l (List.mem_of_getElem? h)
theorem dir_at (f : Int) (h1 : 0 ≤ f) (h2 : f ≤ 7) : ∃ l, dirS[f.toNat]? = some l := by
  have : f.toNat < dirS.length := by show f.toNat < 8; omega
  exact ⟨_, List.getElem?_eq_getElem this⟩
theorem bs_km (l : List UInt8) : bs l ++ { data := #[32, 107, 109, 47, 104] } = bs (l ++ [32, 107, 109, 47, 104]) := ByteArray.mk_append_mk l _
theorem itoa_len (s : Int) (h1 : 0 ≤ s) (h2 : s ≤ 1000) : (Lib.itoa s).length ≤ 1001 := by
  obtain ⟨u, rfl⟩ := Int.eq_ofNat_of_zero_le h1
  have := numS_size u
  rw [show numS (u : Int) = bs (Lib.itoa u) from rfl, bs_size] at this
  omega
theorem itoa_any (n : Int) (h1 : -9223372036854775808 ≤ n) (h2 : n ≤ 9223372036854775807) (w : World) (ht : Lib.TabIs Tryz.prog w "internal/strconv.uint64pow10" .u64 Lib.pow10Tab) : Calls Tryz.prog 27 #[.int .i64 n] w fun e w' => e = .returned (.string (numS n)) ∧ Below w.heap.size w w' := by
  have HI := Lib.hid (Itoa_any n h1 h2 w ht)
  clear ht
  go_enter Tryz.func27, Tryz.ntmps27
  go_wp2_with fail
  with_reducible refine HI.out.mono ?_
  rintro e w1 ⟨rfl, hb1⟩
  go_wp2
  go_ret
  exact ⟨rfl, hb1⟩
end Go.Proofs.YtnadeddkogapoaaGreatDoor
