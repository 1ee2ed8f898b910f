/- A text as bytes of one's own, one of them changed, and back. Conditions: as each states. -/
import Derived.Test.YtabedcpibnnnhaaDoorBs
import Derived.Laws.IdiomStrings
import Derived.Laws.BitsAllLaws
namespace Go.Proofs.YtabedcpibnnnhaaDoor
open Go.ChangeShapes Go.WideShapes Go.ChangeAt Go.RowKit Go.Deep
set_option linter.unusedVariables false
set_option linter.unusedSimpArgs false
set_option maxRecDepth 100000

/-- Bytes lie in a block, and may be written. -/
def ByB (w : World) (B : Nat) (l : List UInt8) : Prop := ∀ (j : Nat) (c : UInt8), l[j]? = some c → w.cell? ⟨B, j, none⟩ = some (.int .u8 (c.toNat : Int)) ∧ w.frozen? ⟨B, j, none⟩ = false
theorem ByB.below {w w' : World} {B : Nat} {l : List UInt8} (h : ByB w B l) (hl : 0 < l.length) (hb : Below w.heap.size w w') : ByB w' B l := by
  have hB : B < w.heap.size := World.block_lt_of_cell? w _ (h 0 _ (List.getElem?_eq_getElem hl)).1
  intro j c hc
  obtain ⟨h1, h2⟩ := h j c hc
  exact ⟨by rw [hb.cell (p := ⟨B, j, none⟩) hB]; exact h1, by rw [hb.frozen (p := ⟨B, j, none⟩) hB]; exact h2⟩
theorem byt_conv {P : Program} {tS tB e : TypeId} (hs : P.underlying tS = some .string) (hd : P.underlying tB = some (.slice e)) (he : P.underlying e = some (.int .u8)) (y : ByteArray) (W : World) (hy : y.size ≤ 100000) :
    ∃ cap W2, (convert tS tB (.string y)).run P W = .ok (.slice (some ⟨W.heap.size, 0, none⟩) y.size cap) W2 ∧ y.size ≤ cap ∧ cap ≤ maxLen ∧ Below W.heap.size W W2 ∧ ByB W2 W.heap.size y.data.toList := by
  have hr := run_bytes_of_string (P := P) W tS tB e y hs hd he
  have hge := grownCap_ge W y.size 0 e
  refine ⟨_, _, hr, hge, grownCap_le_maxLen W y.size 0 e (by unfold maxLen; omega), (Below.refl _ _).drew.alloc (Nat.le_refl _) _, ?_⟩
  generalize grownCap W y.size 0 e = cap at *
  intro j c hc
  have hj : j < y.data.size := by have := (List.getElem?_eq_some_iff.1 hc).1; simpa using this
  have hcv : y.data[j] = c := by
    have := (List.getElem?_eq_some_iff.1 hc).2
    simpa using this
  have hrow := bytesRow_at y cap j hj
  rw [hcv] at hrow
  have hheap : (W.drew.alloc (.cells (bytesRow y cap) e ((bytesRow y cap).size, (bytesRow y cap).size + 1))).heap[W.heap.size]? = some (.cells (bytesRow y cap) e ((bytesRow y cap).size, (bytesRow y cap).size + 1)) := heap_alloc_new W.drew _
  have hsz : j < (bytesRow y cap).size := (Array.getElem?_eq_some_iff.1 hrow).1
  refine ⟨?_, ?_⟩
  · rw [cell_of_row _ _ j _ e _ hheap, hrow]
  · unfold World.frozen?
    simp only [hheap]
    rw [Bool.and_eq_false_iff]
    left
    simp only [decide_eq_false_iff_not]
    omega
theorem ByB.set {w : World} {B k : Nat} {l : List UInt8} (h : ByB w B l) (hk : k < l.length) (d : UInt8) : ByB (w.setCell ⟨B, k, none⟩ (.int .u8 (d.toNat : Int))) B (l.set k d) := by
  intro j c hc
  rw [List.getElem?_set] at hc
  have hj : j < l.length := by
    split at hc
    · rename_i e; subst e; exact hk
    · exact (List.getElem?_eq_some_iff.1 hc).1
  obtain ⟨h1, h2⟩ := h j _ (List.getElem?_eq_getElem hj)
  refine ⟨?_, ?_⟩
  · split at hc
    · rename_i e
      subst e
      obtain rfl : d = c := by
        first
          | (rw [if_pos hk] at hc; exact Option.some.inj hc)
          | exact Option.some.inj hc
      exact World.cell?_setCell_same w ⟨B, k, none⟩ _ h1
    · rename_i e
      rw [World.cell?_setCell_other _ _ _ _ (fun e2 => by cases e2; exact e rfl)]
      exact (h j c hc).1
  · rw [World.frozen?_setCell]; exact h2
theorem ByB.back {P : Program} {tS tB e : TypeId} (hs : P.underlying tS = some .string) (hd : P.underlying tB = some (.slice e)) (he : P.underlying e = some (.int .u8)) {w : World} {B cap n : Nat} {l : List UInt8} (h : ByB w B l) (hn : l.length = n) :
    (convert tB tS (.slice (some ⟨B, 0, none⟩) n cap)).run P w = .ok (.string (bs l)) w := by
  subst hn
  exact run_convert_bytes_back w tB tS e ⟨B, 0, none⟩ cap l hd he hs (fun j hj => by
    have := (h j _ (List.getElem?_eq_getElem hj)).1
    have e : (⟨B, 0, none⟩ : Addr).add j = ⟨B, j, none⟩ := by unfold Addr.add; split <;> simp_all
    rw [e]; exact this)
/-- A byte with some of its bits turned is another byte. -/
theorem xor_other (c : UInt8) (x : Int) (h0 : 0 ≤ x) (h1 : x < 255) : ∃ d : UInt8, bits .xor .u8 (c.toNat : Int) (1 + x) = (d.toNat : Int) ∧ c ≠ d := by
  obtain ⟨u, rfl⟩ := Int.eq_ofNat_of_zero_le h0
  have hc : c.toNat < 256 := c.toNat_lt
  have e := u8_xor_nat c.toNat (1 + u) hc (by omega)
  have hlt : c.toNat ^^^ (1 + u) < 256 := Nat.xor_lt_two_pow (n := 8) hc (by omega)
  generalize hX : c.toNat ^^^ (1 + u) = X at *
  have ht : (UInt8.ofNat X).toNat = X := by rw [UInt8.toNat_ofNat']; exact Nat.mod_eq_of_lt hlt
  refine ⟨UInt8.ofNat X, ?_, ?_⟩
  · rw [show (1 : Int) + (u : Int) = ((1 + u : Nat) : Int) by omega, e, ht]
  · intro h
    have h2 := congrArg UInt8.toNat h
    rw [ht, ← hX] at h2
    have h3 : c.toNat ^^^ (c.toNat ^^^ (1 + u)) = c.toNat ^^^ c.toNat := by rw [← h2]
    rw [← Nat.xor_assoc, Nat.xor_self, Nat.zero_xor] at h3
    omega
end Go.Proofs.YtabedcpibnnnhaaDoor
