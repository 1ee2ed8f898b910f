/- Texts of bytes. Conditions: as each states. -/
import Derived.Test.YtnadeddkogapoaaQueue
import Derived.Laws.BytesArg
namespace Go.Proofs.Ytnadeddkogapoaa
open Go.ChangeShapes Go.WideShapes Go.ChangeAt Go.RowKit Go.Deep
set_option linter.unusedVariables false
set_option linter.unusedSimpArgs false
set_option maxRecDepth 100000

/-- A text of bytes. -/
def bs (l : List UInt8) : ByteArray := ⟨l.toArray⟩
theorem bs_size (l : List UInt8) : (bs l).size = l.length := by show l.toArray.size = _; simp
theorem bs_add (l : List UInt8) (c : UInt8) : bs l ++ { data := #[c] } = bs (l ++ [c]) := by
  show (ByteArray.mk l.toArray ++ ByteArray.mk [c].toArray) = _
  rw [ByteArray.mk_append_mk]; rfl
theorem bs_app (l m : List UInt8) : bs l ++ bs m = bs (l ++ m) := ByteArray.mk_append_mk l m
theorem cell_grow {w w' : World} {B o : Nat} {v : Value} (h : w.cell? ⟨B, o, none⟩ = some v) (hb : Below w.heap.size w w') : w'.cell? ⟨B, o, none⟩ = some v := by
  rw [hb.cell (World.block_lt_of_cell? w _ h)]; exact h
/-- Bytes as cells. -/
abbrev byts (l : List UInt8) : List Value := l.map fun c => Value.int .u8 (c.toNat : Int)
theorem byts_one (l : List UInt8) : ∀ u ∈ byts l, u.oneCell' = true := by
  intro u hu; obtain ⟨z, _, rfl⟩ := List.mem_map.1 hu; rfl
theorem strOf_byts (l : List UInt8) : strOfNums (l.map fun c => (c.toNat : Int)) = bs l := by
  unfold strOfNums bs
  congr 2
  rw [List.map_map]
  conv => rhs; rw [← List.map_id l]
  apply List.map_congr_left
  intro c _
  simp
/-- A slice of bytes as a text. -/
theorem conv_bytes {P : Program} {w : World} {base : Nat} {e t d : TypeId} {v : Value} {l : List UInt8} (hs : P.underlying t = some (.slice e)) (he : P.underlying e = some (.int .u8)) (hd : P.underlying d = some .string)
    (h : Qw w base e 1 v l.length (byts l)) : (convert t d v).run P w = .ok (.string (bs l)) w := by
  rcases h.2 with ⟨rfl, h0⟩ | ⟨g, off, cap, cur, rfl, _⟩
  · obtain rfl : l = [] := List.eq_nil_of_length_eq_zero h0
    exact run_convert_bytes_nil w t e hs he 0 0 d hd
  · have := run_convert_bytes_arg (P := P) w t e hs he g off l.length cap (l.map fun c => (c.toNat : Int)) (by simp) (fun i hi => by
      refine h.cells (spot := none) rfl i _ ?_
      simp [List.getD_eq_getElem?_getD, hi]) d hd
    rw [strOf_byts] at this
    exact this
end Go.Proofs.Ytnadeddkogapoaa
