/- Slices of slices of numbers, all of one's own. Conditions: as each states. -/
import Derived.Test.YtefampjmbjbhcaaFlood2
import Derived.Test.YtefampjmbjbhcaaPcs
namespace Go.Proofs.Ytefampjmbjbhcaa
open Go.ChangeShapes Go.WideShapes Go.ChangeAt Go.RowKit Go.Deep
set_option linter.unusedVariables false
set_option linter.unusedSimpArgs false
set_option maxRecDepth 100000

theorem info_ints : (Try.prog.info? 22).map (fun i => (i.zero, i.size, i.bytes)) = some (some (.slice none 0 0), 1, 24) := by kernel_rfl
/-- What kind of block an owned row lies in. -/
theorem own_kind {w : World} {B k n : Nat} {e : TypeId} {v : Value} {cs : List Value} (h : w.ownsRow B e k v n cs) {j : Nat} (hj : v.ownBlock = some j) : ∃ cur, w.heap[j]? = some (.cells cur e (0, 0)) := by
  rcases h.2 with ⟨rfl, _⟩ | ⟨g, cap, cur, rfl, _, hg, _⟩
  · simp [Value.ownBlock] at hj
  · simp [Value.ownBlock] at hj
    subst hj
    exact ⟨cur, hg⟩
theorem Qw.kind {w : World} {B k n : Nat} {e : TypeId} {v : Value} {cs : List Value} (h : Qw w B e k v n cs) {j : Nat} (hj : v.ownBlock = some j) : ∃ cur, w.heap[j]? = some (.cells cur e (0, 0)) := by
  rcases h.2 with ⟨rfl, _⟩ | ⟨g, off, cap, cur, rfl, _, hg, _⟩
  · simp [Value.ownBlock] at hj
  · simp [Value.ownBlock] at hj
    subst hj
    exact ⟨cur, hg⟩
theorem kind_ne {w : World} {j k : Nat} {c c' : Array Value} {e e' : TypeId} (h : w.heap[j]? = some (.cells c e (0, 0))) (h' : w.heap[k]? = some (.cells c' e' (0, 0))) (hne : e ≠ e') : j ≠ k := by
  rintro rfl
  rw [h] at h'
  cases h'
  exact hne rfl
/-- A slice of rows: its own cells, each row's own cells, no two rows in one block. -/
structure RowsV (w : World) (B : Nat) (ov : Value) (vs : List Value) (xss : List (List Int)) : Prop where
  outer : Qw w B 22 1 ov vs.length vs
  len : vs.length = xss.length
  row : ∀ (i : Nat) (v : Value) (l : List Int), vs[i]? = some v → xss[i]? = some l → w.ownsRow B 3 1 v l.length (ints l)
  apart : ∀ (i j : Nat) (v v' : Value) (g : Nat), i < j → vs[i]? = some v → vs[j]? = some v' → v.ownBlock = some g → v'.ownBlock ≠ some g
theorem RowsV.below {w w' : World} {B : Nat} {ov : Value} {vs : List Value} {xss : List (List Int)} (h : RowsV w B ov vs xss) (hb : Below w.heap.size w w') : RowsV w' B ov vs xss :=
  ⟨h.outer.below hb, h.len, fun i v l hv hl => own_below (h.row i v l hv hl) hb, h.apart⟩
theorem RowsV.lower {w : World} {B B' : Nat} {ov : Value} {vs : List Value} {xss : List (List Int)} (h : RowsV w B ov vs xss) (hb : B' ≤ B) : RowsV w B' ov vs xss :=
  ⟨h.outer.lower hb, h.len, fun i v l hv hl => own_base (h.row i v l hv hl) hb, h.apart⟩
/-- Something of another kind was written. -/
theorem RowsV.kept {w w' : World} {B : Nat} {ov : Value} {vs : List Value} {xss : List (List Int)} {row : Option Nat} (h : RowsV w B ov vs xss) (hg : w.grownBy w' row) {e : TypeId} (hk : ∀ j, row = some j → ∃ cur, w.heap[j]? = some (.cells cur e (0, 0))) (h1 : e ≠ 3) (h2 : e ≠ 22) : RowsV w' B ov vs xss := by
  refine ⟨h.outer.kept hg (fun j hj e1 => ?_), h.len, fun i v l hv hl => own_kept (h.row i v l hv hl) hg (fun j hj e1 => ?_), h.apart⟩
  · obtain ⟨c1, k1⟩ := h.outer.kind hj
    obtain ⟨c2, k2⟩ := hk j e1.symm
    exact kind_ne k1 k2 (Ne.symm h2) rfl
  · obtain ⟨c1, k1⟩ := own_kind (h.row i v l hv hl) hj
    obtain ⟨c2, k2⟩ := hk j e1.symm
    exact kind_ne k1 k2 (Ne.symm h1) rfl
/-- A new row appended. -/
theorem RowsV.add {w w' : World} {T : Nat} {B : Nat} {ov ov' v : Value} {vs : List Value} {xss : List (List Int)} {l : List Int} (h : RowsV w B ov vs xss) (hT : ∀ (i : Nat) (u : Value) (g : Nat), vs[i]? = some u → u.ownBlock = some g → g < T) (hB : B ≤ T) (hv : w.ownsRow T 3 1 v l.length (ints l))
    (hq : Qw w' B 22 1 ov' (vs.length + 1) (vs ++ [v])) (hg : w.grownBy w' ov.ownBlock) : RowsV w' B ov' (vs ++ [v]) (xss ++ [l]) := by
  have hkp : ∀ {B' : Nat} {u : Value} {m : List Int}, w.ownsRow B' 3 1 u m.length (ints m) → w'.ownsRow B' 3 1 u m.length (ints m) := fun hu => own_kept hu hg (fun j hj e => by
    obtain ⟨c1, k1⟩ := own_kind hu hj
    obtain ⟨c2, k2⟩ := h.outer.kind e.symm
    exact kind_ne k1 k2 (by decide) rfl)
  refine ⟨by simpa using hq, by simp [h.len], fun i u m hu hm => ?_, fun i j u u' g hij hu hu' hgu => ?_⟩
  · by_cases hi : i < vs.length
    · rw [List.getElem?_append_left hi] at hu
      rw [List.getElem?_append_left (by rw [← h.len]; exact hi)] at hm
      exact hkp (h.row i u m hu hm)
    · have hi' : i = vs.length := by
        have := (List.getElem?_eq_some_iff.1 hu).1
        simp at this; omega
      subst hi'
      rw [List.getElem?_append_right (Nat.le_refl _)] at hu
      rw [h.len, List.getElem?_append_right (Nat.le_refl _)] at hm
      simp at hu hm
      subst hu hm
      exact own_base (hkp hv) hB
  · by_cases hj : j < vs.length
    · rw [List.getElem?_append_left (by omega)] at hu
      rw [List.getElem?_append_left hj] at hu'
      exact h.apart i j u u' g hij hu hu' hgu
    · have hj' : j = vs.length := by
        have := (List.getElem?_eq_some_iff.1 hu').1
        simp at this; omega
      subst hj'
      rw [List.getElem?_append_left hij] at hu
      rw [List.getElem?_append_right (Nat.le_refl _)] at hu'
      simp at hu'
      subst hu'
      intro e
      have h1 := (hv.lt g e).1
      have h2 := hT i u g hu hgu
      omega
theorem RowsV.lt {w : World} {B : Nat} {ov : Value} {vs : List Value} {xss : List (List Int)} (h : RowsV w B ov vs xss) : ∀ (i : Nat) (u : Value) (g : Nat), vs[i]? = some u → u.ownBlock = some g → g < w.heap.size := by
  intro i u g hu hg
  obtain ⟨m, hm⟩ : ∃ m, xss[i]? = some m := ⟨_, List.getElem?_eq_getElem (by rw [← h.len]; exact (List.getElem?_eq_some_iff.1 hu).1)⟩
  exact ((h.row i u m hu hm).lt g hg).2
theorem RowsV.nil {w : World} {B : Nat} {ov : Value} (h : Qw w B 22 1 ov 0 []) : RowsV w B ov [] [] := ⟨h, rfl, by simp, by simp⟩
/-- A call hands back rows of its own. -/
def RetRows (w : World) (xss : List (List Int)) (e : Ending) (w' : World) : Prop :=
  ∃ u vs, e = .returned u ∧ RowsV w' w.heap.size u vs xss ∧ Below w.heap.size w w'
theorem callFunc_pcs1 : ∀ args w, (callFunc 176 args).run Try.prog w = .ok (.enter 176 args) w := fun _ _ => by rfl
theorem pcs1_any (va : Value) (cs : List Int) (g : Nat) (first lb : Array Value) (q : Bool) (C G : Nat) (a b : Int) (w : World) (hc : w.cell? ⟨C, 0, none⟩ = some va) (hg : w.cell? ⟨G, 0, none⟩ = some (.func (.func g) first lb)) (ha : Sl w 1 va cs.length (ints cs))
    (eg : ∀ args w, (callFunc g args).run Try.prog w = .ok (.enter g args) w)
    (hp : hasB cs b = true → Calls Try.prog g (first ++ (#[.int .i64 a, .int .i64 b] ++ lb)) w fun e w' => e = .returned (.bool q) ∧ Below w.heap.size w w') :
    Calls Try.prog 176 #[.int .i64 a, .int .i64 b, .pointer (some ⟨C, 0, none⟩), .pointer (some ⟨G, 0, none⟩)] w fun e w' => e = .returned (.bool (hasB cs b && q)) ∧ Below w.heap.size w w' := by
  have HA := Lib.hid (has_any va cs b w ha)
  obtain ⟨A, c, rfl⟩ := ha.val
  clear ha
  cases hb : hasB cs b with
  | true =>
    have HP := Lib.hid (hp hb)
    rw [hb] at HA
    clear hp hb
    go_enter Try.func176, Try.ntmps176
    go_wp2_with fail
    with_reducible refine HA.out.mono ?_
    rintro e w1 ⟨rfl, rfl⟩
    go_wp2_with fail
    refine HP.out.mono ?_
    rintro e w1 ⟨rfl, hb1⟩
    go_wp2
    go_ret
    exact ⟨by simp, hb1⟩
  | false =>
    rw [hb] at HA
    clear hp hb
    go_enter Try.func176, Try.ntmps176
    go_wp2_with fail
    with_reducible refine HA.out.mono ?_
    rintro e w1 ⟨rfl, rfl⟩
    go_wp2
    go_ret
    exact ⟨by simp, Below.refl _ _⟩
end Go.Proofs.Ytefampjmbjbhcaa
