/- The reader of choices: its box and what keeps it; a code as an argument, opened. Conditions: as each states. -/
import Derived.Test.YtabedcpibnnnhaaOpen
import Derived.Test.YtabedcpibnnnhaaStrs
import Derived.Test.YtabedcpibnnnhaaLater
import Derived.Laws.Bits64b
namespace Go.Proofs.Ytabedcpibnnnhaa
open Go.ChangeShapes Go.WideShapes Go.ChangeAt Go.RowKit Go.Deep
set_option linter.unusedVariables false
set_option linter.unusedSimpArgs false
set_option maxRecDepth 100000

theorem and255 {E : Int} (h0 : 0 ≤ E) (h1 : E ≤ 18446744073709551615) : 0 ≤ bits .and .u64 E 255 ∧ bits .and .u64 E 255 ≤ 255 := by
  have h := bits_and_u64_nat E.toNat 255 (by omega) (by omega)
  have e : ((E.toNat : Nat) : Int) = E := Int.toNat_of_nonneg h0
  rw [e] at h
  have h2 : E.toNat &&& 255 ≤ 255 := Nat.and_le_right
  have h3 : bits .and .u64 E 255 = ((E.toNat &&& 255 : Nat) : Int) := h
  omega
theorem wrap64_bd (n : Int) : 0 ≤ IntKind.u64.wrap n ∧ IntKind.u64.wrap n ≤ 18446744073709551615 := by
  rw [IntKind.wrap_u64]; omega
/-- Bytes as cells. -/
abbrev octs (zs : List Int) : List Value := zs.map (Value.int .u8)
section
variable {H : Type} {enc : TypeId × Value → H} {W : World} {base b0 : Nat} {v : Value} {d : DataW H} {ps : List MemPlace}
theorem U8_of_wf {n : Int} (h : (Lit.int .u8 n).wf = true) : 0 ≤ n ∧ n ≤ 255 := by
  simpa [Lit.wf, IntKind.min, IntKind.max, IntKind.bits, IntKind.signed] using h
theorem open_bs (hv : Value.okWide Try.prog W .any b0 42 v) (h : DataW.Trod enc Try.prog W base (fun _ => true) true 42 v d ps) :
    ∃ zs : List Int, Sl W 1 v zs.length (octs zs) ∧ ∀ z ∈ zs, 0 ≤ z ∧ z ≤ 255 := by
  obtain ⟨n, C, hs, hC⟩ := open_slk Try.underlying42 (show Try.prog.cellsOf 5 = 1 by kernel_rfl) hv h
  obtain ⟨zs, h1, h2, h3⟩ := list_of (enc := fun z => [Value.int .u8 z]) (p := fun z => 0 ≤ z ∧ z ≤ 255) (C := C) n (fun i hi => by
    obtain ⟨_, y, m, ht⟩ := hC i hi
    obtain ⟨z, e, _, hw⟩ := DataW.trod_int Try.underlying5 ht
    exact ⟨z, e, U8_of_wf hw⟩)
  subst h1
  rw [h2, flatMap_one] at hs
  exact ⟨zs, hs, h3⟩
end
/-- What is read lies in memory, in a block below the reader's own. -/
def Code (w : World) (C : Nat) (V : Value) (zs : List Int) : Prop := Sl w 1 V zs.length (octs zs) ∧ (∀ z ∈ zs, 0 ≤ z ∧ z ≤ 255) ∧ (zs ≠ [] → ∀ j, V.ownBlock = some j → j < C)
/-- What holds nothing lies in whatever memory. -/
theorem Sl.none_in {w w' : World} {k n : Nat} {v : Value} (h : Sl w k v n []) : Sl w' k v n [] := by
  obtain ⟨A, c, rfl, h1, h2, h3, _⟩ := h
  exact ⟨A, c, rfl, h1, h2, h3, fun hp => absurd hp (by simp)⟩
/-- The reader at C, its place at most m. -/
def Cur (w : World) (C m : Nat) : Prop :=
  ∃ V zs, ∃ k : Nat, ∃ s : Int, k ≤ m ∧ (0 ≤ s ∧ s ≤ 18446744073709551615) ∧ Code w C V zs ∧ w.ownsRow C 84 3 (.slice (some ⟨C, 0, none⟩) 1 1) 1 [V, .int .i64 k, .int .u64 s]
theorem Cur.lt {w : World} {C m : Nat} (h : Cur w C m) : C < w.heap.size := by
  obtain ⟨V, zs, k, s, _, _, _, hO⟩ := h
  exact (hO.lt C rfl).2
theorem Cur.kept {w w' : World} {C m : Nat} {row : Option Nat} (h : Cur w C m) (hg : w.grownBy w' row) (hr : ∀ j, row = some j → C < j) : Cur w' C m := by
  obtain ⟨V, zs, k, s, hk, hs, ⟨c1, c2, c3⟩, hO⟩ := h
  refine ⟨V, zs, k, s, hk, hs, ⟨?_, c2, c3⟩, own_kept hO hg fun j hj e => ?_⟩
  · by_cases hz : zs = []
    · subst hz; exact c1.none_in
    · refine c1.kept hg ?_
      cases hV : V.ownBlock with
      | none => exact .inl rfl
      | some j => exact .inr fun e => by have a := c3 hz j hV; have b := hr j e.symm; omega
  · simp [Value.ownBlock] at hj
    have b := hr j e.symm
    omega
theorem Cur.below {w w' : World} {C m : Nat} (h : Cur w C m) (hb : Below w.heap.size w w') : Cur w' C m := h.kept (grownBy_of_below (r := none) hb) (by intro j hj; cases hj)
theorem Cur.up {w : World} {C m m' : Nat} (h : Cur w C m) (hm : m ≤ m') : Cur w C m' := by
  obtain ⟨V, zs, k, s, hk, r⟩ := h
  exact ⟨V, zs, k, s, by omega, r⟩
/-- A new reader. -/
theorem Cur.new {w : World} {V : Value} {zs : List Int} (h1 : Sl w 1 V zs.length (octs zs)) (h2 : ∀ z ∈ zs, 0 ≤ z ∧ z ≤ 255) : Cur (w.alloc (.cells #[V, .int .i64 0, .int .u64 0] 84)) w.heap.size 0 := by
  refine ⟨V, zs, 0, 0, Nat.le_refl _, by omega, ⟨h1.below (grow_alloc _ _), h2, ?_⟩, ?_⟩
  · intro hz j hj
    obtain ⟨A, c, rfl, _, _, h3, h4⟩ := h1
    have hpos : 0 < (octs zs).length := by
      have := List.length_pos_iff.2 hz
      simpa using this
    obtain ⟨b, off, rfl, hc⟩ := h4 hpos
    have hj2 : b = j := by simpa [Value.ownBlock] using hj
    subst hj2
    exact World.block_lt_of_cell? w _ (hc 0 _ (List.getElem?_eq_getElem hpos))
  · have := World.ownsRow_lit (base := w.heap.size) (e := 84) (size := 3) w #[V, .int .i64 0, .int .u64 0] 1 (Nat.le_refl _) (by unfold maxLen; omega) (by rfl)
    simpa using this
/-- A call hands back a value, moves the reader at C and touches no other block. -/
def RetC (w : World) (C m : Nat) (R : Value → Prop) (e : Ending) (w' : World) : Prop := ∃ v, e = .returned v ∧ R v ∧ Cur w' C m ∧ w.grownBy w' (some C)
/-- A number from 0 up to a bound. -/
def IsN (n : Int) (v : Value) : Prop := ∃ x : Int, v = .int .i64 x ∧ 0 ≤ x ∧ x < n
/-- One of some numbers. -/
def IsI (zs : List Int) (v : Value) : Prop := ∃ x ∈ zs, v = .int .i64 x
/-- One of some texts. -/
def IsS (zs : List ByteArray) (v : Value) : Prop := ∃ x ∈ zs, v = .string x
end Go.Proofs.Ytabedcpibnnnhaa
