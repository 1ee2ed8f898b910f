/- A block of fuels whose elements change places. Conditions: as each states. -/
import Derived.Test.YtnadeddkogapoaaGreatDoorFus
import Derived.Test.YtnadeddkogapoaaGreatDoorFusA
import Derived.Test.YtnadeddkogapoaaGreatDoorFast2
import Derived.Test.YtnadeddkogapoaaGreatDoorLow
namespace Go.Proofs.YtnadeddkogapoaaGreatDoor
open Go.ChangeShapes Go.WideShapes Go.ChangeAt Go.RowKit Go.Deep
set_option linter.unusedVariables false
set_option linter.unusedSimpArgs false
set_option maxRecDepth 100000

/-- The block, the list that it holds; the box of the comparison. -/
structure So (B : Nat) (w wr : World) (g c n Bf : Nat) (fv : Value) (l : List Fu) : Prop where
  hl : l.length = n
  ho : wr.ownsRow B 25 5 (.slice (some ⟨g, 0, none⟩) n c) n (fus l)
  hg : w.grownBy wr (some g)
  hf : wr.cell? ⟨Bf, 0, none⟩ = some fv
  hne : Bf ≠ g
  hm : ∀ p ∈ l, p.n.size ≤ maxLen
theorem So.below {B : Nat} {w wr wr' : World} {g c n Bf : Nat} {fv : Value} {l : List Fu} (h : So B w wr g c n Bf fv l) (hb : Below wr.heap.size wr wr') : So B w wr' g c n Bf fv l :=
  ⟨h.hl, own_below h.ho hb, grownBy_trans h.hg (grownBy_of_below hb), cell_below0 h.hf hb, h.hne, h.hm⟩
theorem So.trans {B : Nat} {w w1 wr : World} {g c n Bf : Nat} {fv : Value} {l l1 : List Fu} (h : So B w w1 g c n Bf fv l1) (h2 : So B w1 wr g c n Bf fv l) : So B w wr g c n Bf fv l :=
  ⟨h2.hl, h2.ho, grownBy_trans h.hg h2.hg, h2.hf, h2.hne, h2.hm⟩
theorem So.start {B : Nat} {w wr : World} {g c n Bf : Nat} {fv : Value} {l : List Fu} (h : So B w wr g c n Bf fv l) : So B wr wr g c n Bf fv l :=
  ⟨h.hl, h.ho, World.grownBy.refl _ _, h.hf, h.hne, h.hm⟩
theorem So.fu {B : Nat} {w wr : World} {g c n Bf : Nat} {fv : Value} {l : List Fu} (h : So B w wr g c n Bf fv l) {p : Nat} (hp : p < n) :
    ∃ i s r k o, l[p]? = some ⟨i, s, r, k, o⟩ ∧ wr.cell? ⟨g, p * 5, none⟩ = some (.int .i64 i) ∧ wr.cell? ⟨g, p * 5 + 1, none⟩ = some (.string s) ∧ wr.cell? ⟨g, p * 5 + 2, none⟩ = some (.int .i64 r) ∧ wr.cell? ⟨g, p * 5 + 3, none⟩ = some (.int .i64 k) ∧ wr.cell? ⟨g, p * 5 + 4, none⟩ = some (.int .i64 o) := by
  obtain ⟨b, off, i, s, r, k, o, hA, hx, c0, c1, c2, c3, c4⟩ := Sl.fu (Sl.of_own h.ho) h.hl hp
  injection hA with hA
  injection hA with h1 h2
  subst h1 h2
  simp only [Nat.zero_add] at c0 c1 c2 c3 c4
  exact ⟨i, s, r, k, o, hx, c0, c1, c2, c3, c4⟩
theorem own_spotF {w : World} {base s n g c : Nat} {e : TypeId} {cs : List Value} (h : w.ownsRow base e s (.slice (some ⟨g, 0, none⟩) n c) n cs) (j : Nat) (hj : j < n * s) : ∃ u, w.cell? ⟨g, j, none⟩ = some u ∧ w.frozen? ⟨g, j, none⟩ = false := by
  have hl := h.1
  have h1 := h.cellAt j (by omega)
  rw [List.getElem?_eq_getElem (by omega)] at h1
  exact ⟨_, h1, h.frozenAt j⟩
theorem set_flatF (l : List Fu) (j : Nat) (p : Fu) (hj : j < l.length) : (((((fus l).set (j * 5) (.int .i64 p.i)).set (j * 5 + 1) (.string p.n)).set (j * 5 + 2) (.int .i64 p.r)).set (j * 5 + 3) (.int .i64 p.l)).set (j * 5 + 4) (.int .i64 p.o) = fus (l.set j p) := by
  induction l generalizing j with
  | nil => simp at hj
  | cons a l ih =>
    cases j with
    | zero => simp [fus, encU]
    | succ j =>
      have := ih j (by simpa using hj)
      have e1 : (j + 1) * 5 = j * 5 + 5 := by omega
      rw [e1]
      simp only [fus, List.flatMap_cons, List.set_cons_succ, encU, List.cons_append, List.nil_append] at this ⊢
      rw [← this]
/-- An element stored: ahead of each of the five stores its cell is there; the list behind them. -/
theorem So.put {B : Nat} {w wr : World} {g c n Bf : Nat} {fv : Value} {l : List Fu} (h : So B w wr g c n Bf fv l) {p : Nat} (hp : p < n) (i : Int) (s : ByteArray) (r k o : Int) (hs : s.size ≤ maxLen) :
    ((∃ u, wr.cell? ⟨g, p * 5, none⟩ = some u) ∧ wr.frozen? ⟨g, p * 5, none⟩ = false) ∧
    ((∃ u, (wr.setCell ⟨g, p * 5, none⟩ (.int .i64 i)).cell? ⟨g, p * 5 + 1, none⟩ = some u) ∧ (wr.setCell ⟨g, p * 5, none⟩ (.int .i64 i)).frozen? ⟨g, p * 5 + 1, none⟩ = false) ∧
    ((∃ u, ((wr.setCell ⟨g, p * 5, none⟩ (.int .i64 i)).setCell ⟨g, p * 5 + 1, none⟩ (.string s)).cell? ⟨g, p * 5 + 2, none⟩ = some u) ∧ ((wr.setCell ⟨g, p * 5, none⟩ (.int .i64 i)).setCell ⟨g, p * 5 + 1, none⟩ (.string s)).frozen? ⟨g, p * 5 + 2, none⟩ = false) ∧
    ((∃ u, (((wr.setCell ⟨g, p * 5, none⟩ (.int .i64 i)).setCell ⟨g, p * 5 + 1, none⟩ (.string s)).setCell ⟨g, p * 5 + 2, none⟩ (.int .i64 r)).cell? ⟨g, p * 5 + 3, none⟩ = some u) ∧ (((wr.setCell ⟨g, p * 5, none⟩ (.int .i64 i)).setCell ⟨g, p * 5 + 1, none⟩ (.string s)).setCell ⟨g, p * 5 + 2, none⟩ (.int .i64 r)).frozen? ⟨g, p * 5 + 3, none⟩ = false) ∧
    ((∃ u, ((((wr.setCell ⟨g, p * 5, none⟩ (.int .i64 i)).setCell ⟨g, p * 5 + 1, none⟩ (.string s)).setCell ⟨g, p * 5 + 2, none⟩ (.int .i64 r)).setCell ⟨g, p * 5 + 3, none⟩ (.int .i64 k)).cell? ⟨g, p * 5 + 4, none⟩ = some u) ∧ ((((wr.setCell ⟨g, p * 5, none⟩ (.int .i64 i)).setCell ⟨g, p * 5 + 1, none⟩ (.string s)).setCell ⟨g, p * 5 + 2, none⟩ (.int .i64 r)).setCell ⟨g, p * 5 + 3, none⟩ (.int .i64 k)).frozen? ⟨g, p * 5 + 4, none⟩ = false) ∧
    So B w (((((wr.setCell ⟨g, p * 5, none⟩ (.int .i64 i)).setCell ⟨g, p * 5 + 1, none⟩ (.string s)).setCell ⟨g, p * 5 + 2, none⟩ (.int .i64 r)).setCell ⟨g, p * 5 + 3, none⟩ (.int .i64 k)).setCell ⟨g, p * 5 + 4, none⟩ (.int .i64 o)) g c n Bf fv (l.set p ⟨i, s, r, k, o⟩) := by
  have hl := h.hl
  obtain ⟨o1, g1⟩ := h.ho.stored (p * 5) (.int .i64 i)
  obtain ⟨o2, g2⟩ := o1.stored (p * 5 + 1) (.string s)
  obtain ⟨o3, g3⟩ := o2.stored (p * 5 + 2) (.int .i64 r)
  obtain ⟨o4, g4⟩ := o3.stored (p * 5 + 3) (.int .i64 k)
  obtain ⟨o5, g5⟩ := o4.stored (p * 5 + 4) (.int .i64 o)
  obtain ⟨u0, x0, y0⟩ := own_spotF h.ho (p * 5) (by omega)
  obtain ⟨u1, x1, y1⟩ := own_spotF o1 (p * 5 + 1) (by omega)
  obtain ⟨u2, x2, y2⟩ := own_spotF o2 (p * 5 + 2) (by omega)
  obtain ⟨u3, x3, y3⟩ := own_spotF o3 (p * 5 + 3) (by omega)
  obtain ⟨u4, x4, y4⟩ := own_spotF o4 (p * 5 + 4) (by omega)
  have hg := grownBy_trans g1 (grownBy_trans g2 (grownBy_trans g3 (grownBy_trans g4 g5)))
  refine ⟨⟨⟨u0, x0⟩, y0⟩, ⟨⟨u1, x1⟩, y1⟩, ⟨⟨u2, x2⟩, y2⟩, ⟨⟨u3, x3⟩, y3⟩, ⟨⟨u4, x4⟩, y4⟩, ⟨by rw [List.length_set]; exact hl, ?_, grownBy_trans h.hg hg, hg.cell h.hf (by have := h.hne; simpa using this), h.hne, ?_⟩⟩
  · rw [← set_flatF l p ⟨i, s, r, k, o⟩ (by omega)]; exact o5
  · intro q hq
    rcases List.mem_or_eq_of_mem_set hq with h1 | h1
    · exact h.hm q h1
    · subst h1; exact hs
/-- Two elements change places. -/
def swp (l : List Fu) (p q : Nat) : List Fu := match l[p]?, l[q]? with
  | some x, some y => (l.set p y).set q x
  | _, _ => l
theorem swp_at {l : List Fu} {p q : Nat} {x y : Fu} (hx : l[p]? = some x) (hy : l[q]? = some y) : swp l p q = (l.set p y).set q x := by unfold swp; rw [hx, hy]
/-- A sort's call hands back nothing; the block holds another list. -/
def RetSo (B : Nat) (w : World) (g c n Bf : Nat) (fv : Value) (e : Ending) (w' : World) : Prop := e = .returned (.tuple #[]) ∧ ∃ l, So B w w' g c n Bf fv l
end Go.Proofs.YtnadeddkogapoaaGreatDoor
