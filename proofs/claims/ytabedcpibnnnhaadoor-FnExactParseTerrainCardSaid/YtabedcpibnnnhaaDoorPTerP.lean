/- The picture of a terrain, its length; the cells of a text. Plain law. Conditions: as each states. -/
import Derived.Test.YtabedcpibnnnhaaDoorPicT
import Derived.Test.YtabedcpibnnnhaaDoorWords
import Derived.Test.YtabedcpibnnnhaaDoorSplR
namespace Go.Proofs.YtabedcpibnnnhaaDoor
open Go.ChangeShapes Go.WideShapes Go.ChangeAt Go.RowKit Go.Deep
set_option linter.unusedVariables false
set_option linter.unusedSimpArgs false
set_option maxRecDepth 100000

theorem pic_len {x : Int} (h1 : 1 ≤ x) (h2 : x ≤ 5) (f : Nat → UInt8) : ∀ k : Nat, ((pic x f k).length : Int) = k + (k : Int) / x
  | 0 => by simp [pic]
  | k + 1 => by
    have ih := pic_len h1 h2 f k
    by_cases h : (k : Int) % x = x - 1
    · rw [pic_yes h]
      rcases (show x = 1 ∨ x = 2 ∨ x = 3 ∨ x = 4 ∨ x = 5 by omega) with rfl | rfl | rfl | rfl | rfl <;> simp <;> omega
    · rw [pic_no h]
      rcases (show x = 1 ∨ x = 2 ∨ x = 3 ∨ x = 4 ∨ x = 5 by omega) with rfl | rfl | rfl | rfl | rfl <;> simp <;> omega
theorem pic_small {x y : Int} (h1 : 1 ≤ x) (h2 : x ≤ 5) (h3 : 1 ≤ y) (h4 : y ≤ 5) (f : Nat → UInt8) (k : Nat) (hk : (k : Int) = x * y) : (pic x f k).length ≤ 30 := by
  have h := pic_len h1 h2 f k
  rw [hk] at h
  rcases (show x = 1 ∨ x = 2 ∨ x = 3 ∨ x = 4 ∨ x = 5 by omega) with rfl | rfl | rfl | rfl | rfl <;> omega
/-- The cell of a letter. -/
def cvB (c : UInt8) : List Int := if c = 10 then [] else if c = 46 then [0] else [(c.toNat : Int) - 97 + 1]
def celL (l : List UInt8) : List Int := l.flatMap cvB
theorem celL_le (l : List UInt8) : (celL l).length ≤ l.length := by
  unfold celL
  induction l with
  | nil => simp
  | cons c l ih =>
    rw [List.flatMap_cons, List.length_append, List.length_cons]
    have : (cvB c).length ≤ 1 := by unfold cvB; split <;> (try split) <;> simp
    omega
theorem celL_bd (l : List UInt8) : ∀ z ∈ celL l, -96 ≤ z ∧ z ≤ 255 := by
  intro z hz
  unfold celL at hz
  rw [List.mem_flatMap] at hz
  obtain ⟨c, _, hc⟩ := hz
  have := c.toNat_lt
  unfold cvB at hc
  split at hc
  · simp at hc
  · split at hc <;> simp at hc <;> omega
theorem celL_step {l : List UInt8} {k : Nat} {c : UInt8} (h : l[k]? = some c) : celL (l.take (k + 1)) = celL (l.take k) ++ cvB c := by
  unfold celL
  rw [List.take_add_one, h]
  simp [List.flatMap_append]

theorem list_le (s : ByteArray) : s.data.toList.length = s.size := by simp
/-- What ParseTerrain reads out of a text. -/
def ptX (s : ByteArray) : Int := ((splitS s 10).getD 0 ⟨#[]⟩).size
def ptY (s : ByteArray) : Int := ((splitS s 10).length : Int) - 1
def ptZ (s : ByteArray) : List Int := celL s.data.toList
def ptB (s : ByteArray) : Bool := decide (s.size ≤ 40) && (terrB (ptX s) (ptY s) (ptZ s) && decide (bs (pic (ptX s) (terF (ptZ s)) (ptZ s).length) = s))
theorem ptB_long {s : ByteArray} (h : ¬ s.size ≤ 30) : ptB s = false := by
  cases hp : ptB s with
  | false => rfl
  | true =>
    exfalso
    unfold ptB at hp
    simp only [Bool.and_eq_true, decide_eq_true_eq] at hp
    obtain ⟨_, hT, he⟩ := hp
    obtain ⟨⟨hx1, hx2⟩, ⟨hy1, hy2⟩, hl, _⟩ := terr_dims hT
    have h1 := pic_small hx1 hx2 hy1 hy2 (terF (ptZ s)) (ptZ s).length hl
    have h2 := congrArg ByteArray.size he
    rw [bs_size] at h2
    omega
theorem ptX_bd (s : ByteArray) : 0 ≤ ptX s ∧ ptX s ≤ s.size := by
  unfold ptX
  refine ⟨by omega, ?_⟩
  rw [List.getD_eq_getElem?_getD]
  cases h : (splitS s 10)[0]? with
  | none =>
    show ((⟨#[]⟩ : ByteArray).size : Int) ≤ _
    have : (⟨#[]⟩ : ByteArray).size = 0 := rfl
    omega
  | some p => have := split_piece (List.mem_of_getElem? h); simp; omega
theorem ptY_bd (s : ByteArray) : 0 ≤ ptY s ∧ ptY s ≤ s.size := by
  unfold ptY
  have h1 := split_ne s 10
  have h2 := splitS_le s 10
  omega
end Go.Proofs.YtabedcpibnnnhaaDoor
