/- The cells that fire reaches, in the reference. Conditions: as each states. -/
import Derived.Test.YtefampjmbjbhcaaGrow2
import Derived.Test.YtefampjmbjbhcaaBfs
import Derived.Test.YtefampjmbjbhcaaBurn1
import Derived.Deep.LoopGhost
namespace Go.Proofs.Ytefampjmbjbhcaa
open Go.ChangeShapes Go.WideShapes Go.ChangeAt Go.RowKit Go.Deep
set_option linter.unusedVariables false
set_option linter.unusedSimpArgs false
set_option maxRecDepth 100000

/-- A number is that of a cell that burns. -/
def burnZ (zs : List Int) (z : Int) : Bool := burnP zs z.toNat
/-- The steps of fire. -/
def fireT (x : Int) (zs : List Int) (a b : Int) : Prop := (0 ≤ b ∧ b ≤ (zs.length : Int) - 1) ∧ apartN x b a = 1 ∧ burnZ zs b = true
/-- Where fire begins. -/
def fireS (zs cs : List Int) (c : Int) : Prop := c ∈ cs ∧ burnZ zs c = true
/-- What is known of a search's two lists in memory. -/
structure Two (w : World) (B : Nat) (v q : Value) (out next : List Int) : Prop where
  ho : Qw w B 3 1 v out.length (ints out)
  hn : Qw w B 3 1 q next.length (ints next)
  ap : ∀ j, v.ownBlock = some j → q.ownBlock ≠ some j
theorem Two.below {w w' : World} {B : Nat} {v q : Value} {out next : List Int} (h : Two w B v q out next) (hb : Below w.heap.size w w') : Two w' B v q out next := ⟨h.ho.below hb, h.hn.below hb, h.ap⟩
/-- The first list replaced by a put. -/
theorem Two.put {w w' : World} {B : Nat} {v q u : Value} {out next : List Int} {z : Int} (h : Two w B v q out next) (hr : RetPut w B v (putL out z) (.returned u) w') : Two w' B u q (putL out z) next := by
  obtain ⟨u', e, hq, hb, hu⟩ := hr
  cases e
  refine ⟨hq, h.hn.below hb, fun j hj => ?_⟩
  rcases hu with e | hu
  · subst e; exact h.ap j hj
  · intro e2
    have h1 := hu j hj
    have h2 := (h.hn.lt j e2).2
    omega
/-- Something appended to the second list. -/
theorem Two.add {w w' : World} {B : Nat} {v q q' : Value} {out next nb : List Int} (h : Two w B v q out next) (hq : Qw w' B 3 1 q' (next.length + nb.length) (ints next ++ ints nb)) (hg : w.grownBy w' q.ownBlock) (hd : q'.ownBlock = q.ownBlock ∨ q'.ownBlock = some w.heap.size) : Two w' B v q' out (next ++ nb) := by
  refine ⟨h.ho.kept hg (fun j hj e => h.ap j hj e.symm), by simpa using hq, fun j hj e => ?_⟩
  rcases hd with e2 | e2
  · exact h.ap j hj (e2 ▸ e)
  · rw [e2] at e
    have := (h.ho.lt j hj).2
    cases e
    omega
/-- The second list's head taken. -/
theorem Two.pop {w : World} {B : Nat} {v q : Value} {out rest : List Int} {a : Int} (h : Two w B v q out (a :: rest)) :
    ∃ g off c, q = .slice (some ⟨g, off, none⟩) (rest.length + 1) c ∧ rest.length + 1 ≤ c ∧ c ≤ maxLen ∧ w.cell? ⟨g, off, none⟩ = some (.int .i64 a) ∧ Two w B v (.slice (if c = 1 then some ⟨g, off, none⟩ else some ⟨g, off + 1, none⟩) rest.length (c - 1)) out rest := by
  have hn : Qw w B 3 1 q (rest.length + 1) (ints (a :: rest)) := h.hn
  obtain ⟨A, c, rfl, h1, h2, h3⟩ := hn.tail
  obtain ⟨b, off, z, rfl, hz, hc⟩ := (Sl.of_q hn).at1 (xs := a :: rest) rfl (Nat.succ_pos _)
  have hza : z = a := by simpa using hz.symm
  subst hza
  have hq : Qw w B 3 1 (.slice (if c = 1 then some ⟨b, off, none⟩ else some ⟨b, off + 1, none⟩) rest.length (c - 1)) rest.length (ints rest) := by
    simpa [Addr.add_lit] using h3
  refine ⟨b, off, c, rfl, h1, h2, by simpa using hc, h.ho, hq, fun j hj e => h.ap j hj ?_⟩
  rw [← e]
  split <;> rfl
theorem Two.pop2 {w : World} {B : Nat} {v q : Value} {out rest : List Int} {a : Int} (h : Two w B v q out (a :: rest)) :
    ∃ g off c, q = .slice (some ⟨g, off, none⟩) (rest.length + 1) c ∧ rest.length + 1 ≤ c ∧ c ≤ 9223372036854775807 ∧ w.cell? ⟨g, off, none⟩ = some (.int .i64 a) ∧
      ((c = 1 ∧ rest = [] ∧ Two w B v (.slice (some ⟨g, off, none⟩) 0 0) out rest) ∨ (¬ c = 1 ∧ Two w B v (.slice (some ⟨g, off + 1, none⟩) rest.length (c - 1)) out rest)) := by
  obtain ⟨g, off, c, rfl, h1, h2, hc, ht⟩ := h.pop
  refine ⟨g, off, c, rfl, h1, by unfold maxLen at h2; omega, hc, ?_⟩
  by_cases e : c = 1
  · left
    have hr : rest = [] := List.eq_nil_of_length_eq_zero (by omega)
    subst hr
    subst e
    exact ⟨rfl, rfl, by simpa using ht⟩
  · right
    rw [if_neg e] at ht
    exact ⟨e, ht⟩
end Go.Proofs.Ytefampjmbjbhcaa
