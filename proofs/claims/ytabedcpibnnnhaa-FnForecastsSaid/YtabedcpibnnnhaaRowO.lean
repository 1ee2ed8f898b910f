/- Slices of rows of numbers, one's own: what an append, a store leaves of them. Conditions: as each states. -/
import Derived.Test.YtabedcpibnnnhaaQueue
import Derived.Test.YtabedcpibnnnhaaInts
import Derived.Test.YtabedcpibnnnhaaSel
namespace Go.Proofs.Ytabedcpibnnnhaa
open Go.ChangeShapes Go.WideShapes Go.ChangeAt Go.RowKit Go.Deep
set_option linter.unusedVariables false
set_option linter.unusedSimpArgs false
set_option maxRecDepth 100000

theorem info_ints : (Try.prog.info? 60).map (fun i => (i.zero, i.size, i.bytes)) = some (some (.slice none 0 0), 1, 24) := by kernel_rfl
/-- What kind of block an owned row lies in. -/
theorem own_kind {w : World} {B k n : Nat} {e : TypeId} {v : Value} {cs : List Value} (h : w.ownsRow B e k v n cs) {j : Nat} (hj : v.ownBlock = some j) : ∃ cur, w.heap[j]? = some (.cells cur e (0, 0)) := by
  rcases h.2 with ⟨rfl, _⟩ | ⟨g, cap, cur, rfl, _, hg, _⟩
  · simp [Value.ownBlock] at hj
  · simp [Value.ownBlock] at hj
    subst hj
    exact ⟨cur, hg⟩
theorem Qw.kind {w : World} {B k n : Nat} {e : TypeId} {v : Value} {cs : List Value} (h : Qw w B e k v n cs) {j : Nat} (hj : v.ownBlock = some j) : ∃ cur, w.heap[j]? = some (.cells cur e (0, 0)) := by
  rcases h.2 with ⟨rfl, _⟩ | ⟨g, off, cap, cur, rfl, _, hg, _⟩
  · simp [Value.ownBlock] at hj
  · simp [Value.ownBlock] at hj
    subst hj
    exact ⟨cur, hg⟩
theorem kind_ne {w : World} {j k : Nat} {c c' : Array Value} {e e' : TypeId} (h : w.heap[j]? = some (.cells c e (0, 0))) (h' : w.heap[k]? = some (.cells c' e' (0, 0))) (hne : e ≠ e') : j ≠ k := by
  rintro rfl
  rw [h] at h'
  cases h'
  exact hne rfl
/-- A slice of rows: its own cells, each row's own cells, no two rows in one block. -/
structure RowsV (w : World) (B : Nat) (ov : Value) (vs : List Value) (xss : List (List Int)) : Prop where
  outer : Qw w B 60 1 ov vs.length vs
  len : vs.length = xss.length
  row : ∀ (i : Nat) (v : Value) (l : List Int), vs[i]? = some v → xss[i]? = some l → w.ownsRow B 3 1 v l.length (ints l)
  apart : ∀ (i j : Nat) (v v' : Value) (g : Nat), i < j → vs[i]? = some v → vs[j]? = some v' → v.ownBlock = some g → v'.ownBlock ≠ some g
theorem RowsV.below {w w' : World} {B : Nat} {ov : Value} {vs : List Value} {xss : List (List Int)} (h : RowsV w B ov vs xss) (hb : Below w.heap.size w w') : RowsV w' B ov vs xss :=
  ⟨h.outer.below hb, h.len, fun i v l hv hl => own_below (h.row i v l hv hl) hb, h.apart⟩
theorem RowsV.lower {w : World} {B B' : Nat} {ov : Value} {vs : List Value} {xss : List (List Int)} (h : RowsV w B ov vs xss) (hb : B' ≤ B) : RowsV w B' ov vs xss :=
  ⟨h.outer.lower hb, h.len, fun i v l hv hl => own_base (h.row i v l hv hl) hb, h.apart⟩
/-- Something of another kind was written. -/
theorem RowsV.kept {w w' : World} {B : Nat} {ov : Value} {vs : List Value} {xss : List (List Int)} {row : Option Nat} (h : RowsV w B ov vs xss) (hg : w.grownBy w' row) {e : TypeId} (hk : ∀ j, row = some j → ∃ cur, w.heap[j]? = some (.cells cur e (0, 0))) (h1 : e ≠ 3) (h2 : e ≠ 60) : RowsV w' B ov vs xss := by
  refine ⟨h.outer.kept hg (fun j hj e1 => ?_), h.len, fun i v l hv hl => own_kept (h.row i v l hv hl) hg (fun j hj e1 => ?_), h.apart⟩
  · obtain ⟨c1, k1⟩ := h.outer.kind hj
    obtain ⟨c2, k2⟩ := hk j e1.symm
    exact kind_ne k1 k2 (Ne.symm h2) rfl
  · obtain ⟨c1, k1⟩ := own_kind (h.row i v l hv hl) hj
    obtain ⟨c2, k2⟩ := hk j e1.symm
    exact kind_ne k1 k2 (Ne.symm h1) rfl
/-- A new row appended. -/
theorem RowsV.add {w w' : World} {T : Nat} {B : Nat} {ov ov' v : Value} {vs : List Value} {xss : List (List Int)} {l : List Int} (h : RowsV w B ov vs xss) (hT : ∀ (i : Nat) (u : Value) (g : Nat), vs[i]? = some u → u.ownBlock = some g → g < T) (hB : B ≤ T) (hv : w.ownsRow T 3 1 v l.length (ints l))
    (hq : Qw w' B 60 1 ov' (vs.length + 1) (vs ++ [v])) (hg : w.grownBy w' ov.ownBlock) : RowsV w' B ov' (vs ++ [v]) (xss ++ [l]) := by
  have hkp : ∀ {B' : Nat} {u : Value} {m : List Int}, w.ownsRow B' 3 1 u m.length (ints m) → w'.ownsRow B' 3 1 u m.length (ints m) := fun hu => own_kept hu hg (fun j hj e => by
    obtain ⟨c1, k1⟩ := own_kind hu hj
    obtain ⟨c2, k2⟩ := h.outer.kind e.symm
    exact kind_ne k1 k2 (by decide) rfl)
  refine ⟨by simpa using hq, by simp [h.len], fun i u m hu hm => ?_, fun i j u u' g hij hu hu' hgu => ?_⟩
  · by_cases hi : i < vs.length
    · rw [List.getElem?_append_left hi] at hu
      rw [List.getElem?_append_left (by rw [← h.len]; exact hi)] at hm
      exact hkp (h.row i u m hu hm)
    · have hi' : i = vs.length := by
        have := (List.getElem?_eq_some_iff.1 hu).1
        simp at this; omega
      subst hi'
      rw [List.getElem?_append_right (Nat.le_refl _)] at hu
      rw [h.len, List.getElem?_append_right (Nat.le_refl _)] at hm
      simp at hu hm
      subst hu hm
      exact own_base (hkp hv) hB
  · by_cases hj : j < vs.length
    · rw [List.getElem?_append_left (by omega)] at hu
      rw [List.getElem?_append_left hj] at hu'
      exact h.apart i j u u' g hij hu hu' hgu
    · have hj' : j = vs.length := by
        have := (List.getElem?_eq_some_iff.1 hu').1
        simp at this; omega
      subst hj'
      rw [List.getElem?_append_left hij] at hu
      rw [List.getElem?_append_right (Nat.le_refl _)] at hu'
      simp at hu'
      subst hu'
      intro e
      have h1 := (hv.lt g e).1
      have h2 := hT i u g hu hgu
      omega
theorem RowsV.lt {w : World} {B : Nat} {ov : Value} {vs : List Value} {xss : List (List Int)} (h : RowsV w B ov vs xss) : ∀ (i : Nat) (u : Value) (g : Nat), vs[i]? = some u → u.ownBlock = some g → g < w.heap.size := by
  intro i u g hu hg
  obtain ⟨m, hm⟩ : ∃ m, xss[i]? = some m := ⟨_, List.getElem?_eq_getElem (by rw [← h.len]; exact (List.getElem?_eq_some_iff.1 hu).1)⟩
  exact ((h.row i u m hu hm).lt g hg).2
theorem RowsV.nil {w : World} {B : Nat} {ov : Value} (h : Qw w B 60 1 ov 0 []) : RowsV w B ov [] [] := ⟨h, rfl, by simp, by simp⟩
/-- A call hands back rows of its own. -/
def RetRows (w : World) (xss : List (List Int)) (e : Ending) (w' : World) : Prop :=
  ∃ u vs, e = .returned u ∧ RowsV w' w.heap.size u vs xss ∧ Below w.heap.size w w'
/-- A slice of rows, read. -/
structure SlR (w : World) (v : Value) (vs : List Value) (xss : List (List Int)) : Prop where
  outer : Sl w 1 v vs.length (vs.map id)
  len : vs.length = xss.length
  row : ∀ (i : Nat) (u : Value) (l : List Int), vs[i]? = some u → xss[i]? = some l → Sl w 1 u l.length (ints l)
theorem SlR.below {w w' : World} {v : Value} {vs : List Value} {xss : List (List Int)} (h : SlR w v vs xss) (hb : Below w.heap.size w w') : SlR w' v vs xss :=
  ⟨h.outer.below hb, h.len, fun i u l hu hl => (h.row i u l hu hl).below hb⟩
theorem RowsV.sl {w : World} {B : Nat} {v : Value} {vs : List Value} {xss : List (List Int)} (h : RowsV w B v vs xss) : SlR w v vs xss :=
  ⟨by simpa using Sl.of_q h.outer, h.len, fun i u l hu hl => Sl.of_own (h.row i u l hu hl)⟩
/-- Rows in blocks between two numbers. -/
structure RowsW (w : World) (B T : Nat) (ov : Value) (vs : List Value) (xss : List (List Int)) : Prop where
  outer : Qw w B 60 1 ov vs.length vs
  len : vs.length = xss.length
  row : ∀ (i : Nat) (v : Value) (l : List Int), vs[i]? = some v → xss[i]? = some l → Qw w B 3 1 v l.length (ints l)
  lto : ∀ j, ov.ownBlock = some j → j < T
  ltr : ∀ (i : Nat) (v : Value) (j : Nat), vs[i]? = some v → v.ownBlock = some j → j < T
theorem RowsW.sl {w : World} {B T : Nat} {v : Value} {vs : List Value} {xss : List (List Int)} (h : RowsW w B T v vs xss) : SlR w v vs xss :=
  ⟨by simpa using Sl.of_q h.outer, h.len, fun i u l hu hl => Sl.of_q (h.row i u l hu hl)⟩
theorem RowsW.below {w w' : World} {B T : Nat} {v : Value} {vs : List Value} {xss : List (List Int)} (h : RowsW w B T v vs xss) (hb : Below w.heap.size w w') : RowsW w' B T v vs xss :=
  ⟨h.outer.below hb, h.len, fun i u l hu hl => (h.row i u l hu hl).below hb, h.lto, h.ltr⟩
theorem RowsW.kept {w w' : World} {B T : Nat} {v : Value} {vs : List Value} {xss : List (List Int)} {row : Option Nat} (h : RowsW w B T v vs xss) (hg : w.grownBy w' row) (hr : ∀ j, row = some j → T ≤ j) : RowsW w' B T v vs xss := by
  refine ⟨h.outer.kept hg (fun j hj e => by have := h.lto j hj; have := hr j e.symm; omega), h.len, fun i u l hu hl => (h.row i u l hu hl).kept hg (fun j hj e => ?_), h.lto, h.ltr⟩
  have h1 := h.ltr i u j hu hj
  have h2 := hr j e.symm
  omega
theorem Qw.belowB {w w' : World} {B k n T : Nat} {e : TypeId} {v : Value} {xs : List Value} (h : Qw w B e k v n xs) (hb : Below T w w') (hv : ∀ j, v.ownBlock = some j → j < T) : Qw w' B e k v n xs := by
  refine ⟨h.1, ?_⟩
  rcases h.2 with hn | ⟨g, off, cap, cur, rfl, hb', hg, rest⟩
  · exact .inl hn
  · refine .inr ⟨g, off, cap, cur, rfl, hb', ?_, rest⟩
    rw [hb.block g (hv g rfl)]
    exact hg
theorem RowsW.belowT {w w' : World} {B T T' : Nat} {v : Value} {vs : List Value} {xss : List (List Int)} (h : RowsW w B T v vs xss) (hb : Below T' w w') (hT : T ≤ T') : RowsW w' B T v vs xss :=
  ⟨h.outer.belowB hb (fun j hj => Nat.lt_of_lt_of_le (h.lto j hj) hT), h.len, fun i u l hu hl => (h.row i u l hu hl).belowB hb (fun j hj => Nat.lt_of_lt_of_le (h.ltr i u j hu hj) hT), h.lto, h.ltr⟩
/-- Something below all rows was written. -/
theorem RowsV.keptB {w w' : World} {B : Nat} {ov : Value} {vs : List Value} {xss : List (List Int)} {row : Option Nat} (h : RowsV w B ov vs xss) (hg : w.grownBy w' row) (hr : ∀ j, row = some j → j < B) : RowsV w' B ov vs xss :=
  ⟨h.outer.kept hg (fun j hj e => by have := (h.outer.lt j hj).1; have := hr j e.symm; omega), h.len, fun i v l hv hl => own_kept (h.row i v l hv hl) hg (fun j hj e => by have := ((h.row i v l hv hl).lt j hj).1; have := hr j e.symm; omega), h.apart⟩
/-- One row's cells replaced. -/
theorem RowsV.set {w w' : World} {B : Nat} {ov v : Value} {vs : List Value} {xss : List (List Int)} {l l' : List Int} {k : Nat} (h : RowsV w B ov vs xss) (hv : vs[k]? = some v) (hl : xss[k]? = some l) (hn : w'.ownsRow B 3 1 v l'.length (ints l')) (hg : w.grownBy w' v.ownBlock) : RowsV w' B ov vs (xss.set k l') := by
  refine ⟨h.outer.kept hg (fun j hj e => ?_), by rw [List.length_set]; exact h.len, fun i u m hu hm => ?_, h.apart⟩
  · obtain ⟨c1, k1⟩ := h.outer.kind hj
    obtain ⟨c2, k2⟩ := own_kind (h.row k v l hv hl) e.symm
    exact kind_ne k1 k2 (by decide) rfl
  · by_cases hik : k = i
    · subst hik
      rw [hv] at hu
      cases hu
      rw [List.getElem?_set_self (List.getElem?_eq_some_iff.1 hl).1] at hm
      cases hm
      exact hn
    · rw [List.getElem?_set_ne hik] at hm
      refine own_kept (h.row i u m hu hm) hg (fun j hj e => ?_)
      rcases Nat.lt_or_ge k i with hlt | hge
      · exact h.apart k i v u j hlt hv hu e.symm hj
      · exact h.apart i k u v j (by omega) hu hv hj e.symm
theorem RowsV.toW {w : World} {B : Nat} {ov : Value} {vs : List Value} {xss : List (List Int)} (h : RowsV w B ov vs xss) : RowsW w B w.heap.size ov vs xss :=
  ⟨h.outer, h.len, fun i v l hv hl => Qw.of_own (h.row i v l hv hl), fun j hj => (h.outer.lt j hj).2, fun i v j hv hj => h.lt i v j hv hj⟩
/-- Rows, if there are. -/
def selRR (b : Bool) (xss : List (List Int)) : List (List Int) := if b then xss else []
/-- A call hands back rows of its own, and a Bool. -/
def RetRR (w : World) (xss : List (List Int)) (ok : Bool) (e : Ending) (w' : World) : Prop :=
  ∃ u vs, e = .returned (.tuple #[u, .bool ok]) ∧ RowsV w' w.heap.size u vs xss ∧ Below w.heap.size w w'
/-- The same of rows that are read alone. -/
def RetRW (w : World) (xss : List (List Int)) (ok : Bool) (e : Ending) (w' : World) : Prop :=
  ∃ u vs, e = .returned (.tuple #[u, .bool ok]) ∧ RowsW w' w.heap.size w'.heap.size u vs xss ∧ Below w.heap.size w w'
end Go.Proofs.Ytabedcpibnnnhaa
