/- The program's flood: the cells that are reached from some by steps that a function allows. Conditions: as each states. -/
import Derived.Test.YtefampjmbjbhcaaGrow2
import Derived.Test.YtefampjmbjbhcaaBfs
import Derived.Deep.LoopGhost
namespace Go.Proofs.Ytefampjmbjbhcaa
open Go.ChangeShapes Go.WideShapes Go.ChangeAt Go.RowKit Go.Deep
set_option linter.unusedVariables false
set_option linter.unusedSimpArgs false
set_option maxRecDepth 100000

theorem info_bool : (Try.prog.info? 4).map (fun i => (i.zero, i.size, i.bytes)) = some (some (.bool false), 1, 1) := by kernel_rfl
set_option maxHeartbeats 1000000 in
theorem copyOf_int_any (v : Value) (zs : List Int) (w : World) (h : Sl w 1 v zs.length (ints zs)) (hn : zs.length ≤ 1048576) :
    Calls Try.prog 79 #[v] w (RetQ w 3 1 zs.length (ints zs)) := by
  obtain ⟨A, c, rfl⟩ := h.val
  obtain ⟨i0, hi, hz0, hz1, hz2⟩ := info_parts info_int
  generalize hN : zs.length = N at *
  have HN := Lib.hid hN
  clear hN
  have Ho : Hid (Qw (w.alloc (.cells #[] 3)) w.heap.size 3 1 (.slice (some ⟨w.heap.size, 0, none⟩) 0 0) 0 []) := Qw.empty w _
  have Hs := Lib.hid (h.below (grow_alloc w (.cells #[] 3)))
  have h1 := ints_one zs
  have H1 := Lib.hid h1
  clear h h1
  go_enter Try.func79, Try.ntmps79
  go_wp2_with ((at_builtin; refine wpList_append_q _ rfl _ _ 22 rfl w.heap.size 3 i0 (.int .i64 0) 1 8 Try.underlying22 hi hz0 hz1 hz2 rfl (by decide) _ _ _ rfl Ho.out _ _ _ rfl Hs.out H1.out (by unfold maxLen; omega) (by omega) (by simp) ?_))
  intro v' w1 hq hg _
  have hq := Lib.hid hq
  have hb := Lib.hid (((Below.refl w.heap.size w).alloc (Nat.le_refl _) (.cells #[] 3)).grown hg (by simp) (fun j hj => by simp [Value.ownBlock] at hj; omega))
  clear hg
  go_wp2
  go_ret
  exact ⟨_, rfl, by simpa using hq.out, hb.out⟩
/-- A flood's memory: the terrain's box, the variable of the marks, the marks. -/
structure Fl (w wr : World) (x y : Int) (u : Value) (S P N : Nat) (sb : List Bool) : Prop where
  hb : Below w.heap.size w wr
  hT : TB wr w.heap.size x y u
  hv : wr.cell? ⟨P, 0, none⟩ = some (.slice (some ⟨S, 0, none⟩) N N)
  hs : wr.ownsRow (w.heap.size + 1) 4 1 (.slice (some ⟨S, 0, none⟩) N N) N (sb.map Value.bool)
theorem Fl.below {w wr w' : World} {x y : Int} {u : Value} {S P N : Nat} {sb : List Bool} (h : Fl w wr x y u S P N sb) (hb : Below wr.heap.size wr w') : Fl w w' x y u S P N sb :=
  ⟨grow_trans h.hb hb, h.hT.below hb, cell_below h.hv hb, own_below h.hs hb⟩
theorem Fl.grown {w wr w' : World} {x y : Int} {u : Value} {S P N : Nat} {sb : List Bool} {row : Option Nat} (h : Fl w wr x y u S P N sb) (hg : wr.grownBy w' row) (hP : w.heap.size ≤ P) (hS : S ≤ P) (hr : ∀ j, row = some j → P < j) : Fl w w' x y u S P N sb :=
  ⟨h.hb.grown hg h.hb.size (fun j hj => by have := hr j hj; omega), h.hT.kept hg (fun e => by have := hr _ e.symm; omega), hg.cell h.hv (fun e => by have := hr _ e.symm; simp at this), own_kept h.hs hg (fun j hj e => by have := hr j e.symm; simp [Value.ownBlock] at hj; omega)⟩
theorem Fl.mark {w wr : World} {x y : Int} {u : Value} {S P N : Nat} {sb : List Bool} (h : Fl w wr x y u S P N sb) (k : Nat) (hS : w.heap.size < S) (hP : S ≠ P) :
    Fl w (wr.setCell ⟨S, k, none⟩ (.bool true)) x y u S P N (sb.set k true) ∧ wr.grownBy (wr.setCell ⟨S, k, none⟩ (.bool true)) (some S) := by
  obtain ⟨h1, h2⟩ := h.hs.stored k (.bool true)
  refine ⟨⟨h.hb.setCell (Nat.le_of_lt hS) _, h.hT.kept h2 (fun e => by cases e; omega), h2.cell h.hv (fun e => by cases e; exact hP rfl), ?_⟩, h2⟩
  rw [List.map_set]
  exact h1
theorem Fl.cell {w wr : World} {x y : Int} {u : Value} {S P N : Nat} {sb : List Bool} (h : Fl w wr x y u S P N sb) {k : Nat} {b : Bool} (hk : sb[k]? = some b) (hl : k < N) : wr.cell? ⟨S, k, none⟩ = some (.bool b) ∧ wr.frozen? ⟨S, k, none⟩ = false := by
  refine ⟨?_, h.hs.frozenAt k⟩
  have := h.hs.cellAt k (by omega)
  rw [this]; simp [hk]
/-- The head of a queue taken. -/
theorem Qw.pop2 {w : World} {B : Nat} {q : Value} {rest : List Int} {a : Int} (h : Qw w B 3 1 q (a :: rest).length (ints (a :: rest))) :
    ∃ g off c, q = .slice (some ⟨g, off, none⟩) (rest.length + 1) c ∧ rest.length + 1 ≤ c ∧ c ≤ 9223372036854775807 ∧ w.cell? ⟨g, off, none⟩ = some (.int .i64 a) ∧
      ((c = 1 ∧ Qw w B 3 1 (.slice (some ⟨g, off, none⟩) 0 0) rest.length (ints rest)) ∨ (¬ c = 1 ∧ Qw w B 3 1 (.slice (some ⟨g, off + 1, none⟩) rest.length (c - 1)) rest.length (ints rest))) := by
  have hn : Qw w B 3 1 q (rest.length + 1) (ints (a :: rest)) := h
  obtain ⟨A, c, rfl, h1, h2, h3⟩ := hn.tail
  obtain ⟨b, off, z, rfl, hz, hc⟩ := (Sl.of_q hn).at1 (xs := a :: rest) rfl (Nat.succ_pos _)
  have hza : z = a := by simpa using hz.symm
  subst hza
  refine ⟨b, off, c, rfl, h1, by unfold maxLen at h2; omega, by simpa using hc, ?_⟩
  by_cases e : c = 1
  · left
    subst e
    have h0 : rest.length = 0 := by omega
    exact ⟨rfl, by simpa [h0] using h3⟩
  · right
    exact ⟨e, by simpa [e, Addr.add_lit] using h3⟩
theorem callFunc_flood1 : ∀ args w, (callFunc 198 args).run Try.prog w = .ok (.enter 198 args) w := fun _ _ => by rfl
theorem flood1_any (S P N : Nat) (sb : List Bool) (k : Nat) (w : World) (hv : w.cell? ⟨P, 0, none⟩ = some (.slice (some ⟨S, 0, none⟩) N N)) (hk : k < N) (hl : sb.length = N) (hN : N ≤ 25) (hs : w.cell? ⟨S, k, none⟩ = some (.bool (sb.getD k false))) :
    Calls Try.prog 198 #[.int .i64 k, .pointer (some ⟨P, 0, none⟩)] w fun e w' => e = .returned (.bool (sb.getD k false)) ∧ Below w.heap.size w w' := by
  generalize sb.getD k false = b at *
  clear hl
  go_enter Try.func198, Try.ntmps198
  go_wp2
  go_ret
  exact ⟨rfl, Below.refl _ _⟩
end Go.Proofs.Ytefampjmbjbhcaa
