/- The longest spans of dry hours with wind, in the program and in the reference. Conditions: none; each stands at any arguments. -/
import Derived.Test.YtabedcpibnnnhaaSumP
import Derived.Test.YtabedcpibnnnhaaRowLaw
namespace Go.Proofs.Ytabedcpibnnnhaa
open Go.ChangeShapes Go.WideShapes Go.ChangeAt Go.RowKit Go.Deep
set_option linter.unusedVariables false
set_option linter.unusedSimpArgs false
set_option maxRecDepth 100000

/-- The spans with one hour more. -/
def extS (S : List (List Int)) (h : Int) : List (List Int) := match S[S.length - 1]? with
  | some p => if p.getD 1 0 = h - 1 then S.set (S.length - 1) [p.getD 0 0, h] else S ++ [[h, h]]
  | none => S ++ [[h, h]]
/-- The spans among the first hours. -/
def rfS (ps : List Wx) (sp hu : Int) : Nat → List (List Int)
  | 0 => []
  | k + 1 => match ps[k]? with | none => rfS ps sp hu k | some x => if x.s < sp ∨ hu < x.h then rfS ps sp hu k else extS (rfS ps sp hu k) k
theorem ext_none (h : Int) : extS [] h = [] ++ [[h, h]] := rfl
theorem ext_put {S : List (List Int)} {n : Nat} {a b h : Int} (hn : S.length = n + 1) (hS : S[n]? = some [a, b]) (hb : b = h - 1) : extS S h = S.set n [a, h] := by
  unfold extS; rw [hn, Nat.add_sub_cancel, hS]; simp [hb]
theorem ext_add {S : List (List Int)} {n : Nat} {a b h : Int} (hn : S.length = n + 1) (hS : S[n]? = some [a, b]) (hb : b ≠ h - 1) : extS S h = S ++ [[h, h]] := by
  unfold extS; rw [hn, Nat.add_sub_cancel, hS]; simp [hb]
theorem ext_two {S : List (List Int)} {h : Int} (hS : ∀ p ∈ S, ∃ a b, p = [a, b]) : ∀ p ∈ extS S h, ∃ a b, p = [a, b] := by
  unfold extS
  split
  · split
    · intro p hp
      rcases List.mem_or_eq_of_mem_set hp with h1 | h1
      · exact hS p h1
      · exact ⟨_, _, h1⟩
    · intro p hp
      rcases List.mem_append.1 hp with h1 | h1
      · exact hS p h1
      · exact ⟨h, h, by simpa using h1⟩
  · intro p hp
    rcases List.mem_append.1 hp with h1 | h1
    · exact hS p h1
    · exact ⟨h, h, by simpa using h1⟩
theorem ext_le (S : List (List Int)) (h : Int) : (extS S h).length ≤ S.length + 1 := by
  unfold extS; split
  · split <;> simp
  · simp
theorem rf_two (ps : List Wx) (sp hu : Int) (k : Nat) : ∀ p ∈ rfS ps sp hu k, ∃ a b, p = [a, b] := by
  induction k with
  | zero => simp [rfS]
  | succ k ih =>
    simp only [rfS]
    split
    · exact ih
    · split
      · exact ih
      · exact ext_two ih
theorem rf_le (ps : List Wx) (sp hu : Int) (k : Nat) : (rfS ps sp hu k).length ≤ k := by
  induction k with
  | zero => simp [rfS]
  | succ k ih =>
    simp only [rfS]
    split
    · omega
    · split
      · omega
      · exact Nat.le_trans (ext_le _ _) (by omega)
theorem rf_skip {ps : List Wx} {sp hu : Int} {k : Nat} {f s g r : Int} (h : ps[k]? = some ⟨f, s, g, r⟩) (hs : s < sp ∨ hu < r) : rfS ps sp hu (k + 1) = rfS ps sp hu k := by simp [rfS, h, hs]
theorem rf_take {ps : List Wx} {sp hu : Int} {k : Nat} {f s g r : Int} (h : ps[k]? = some ⟨f, s, g, r⟩) (hs : ¬ s < sp) (hr : ¬ hu < r) : rfS ps sp hu (k + 1) = extS (rfS ps sp hu k) k := by simp [rfS, h, hs, hr]
theorem rf_bound (ps : List Wx) (sp hu : Int) (b : Bool) (h : b = true → ps.length ≤ 24) : (selRR b (rfS ps sp hu ps.length)).length ≤ 1048576 ∧ tot (selRR b (rfS ps sp hu ps.length)) (selRR b (rfS ps sp hu ps.length)).length ≤ 1048576 := by
  unfold selRR
  split
  · rename_i hb
    have h1 := rf_le ps sp hu ps.length
    have h2 := h hb
    refine ⟨by omega, ?_⟩
    have : ∀ k, tot (rfS ps sp hu ps.length) k ≤ k * 2 := by
      intro k
      unfold tot
      have : ∀ l : List (List Int), (∀ p ∈ l, p.length ≤ 2) → (l.map List.length).sum ≤ l.length * 2 := by
        intro l
        induction l with
        | nil => intro _; simp
        | cons p l ih =>
          intro hl
          have h3 := hl p (by simp)
          have h4 := ih (fun q hq => hl q (by simp [hq]))
          simp only [List.map_cons, List.sum_cons, List.length_cons]; omega
      refine Nat.le_trans (this _ fun p hp => ?_) ?_
      · obtain ⟨a, b, rfl⟩ := rf_two _ _ _ _ p (List.mem_of_mem_take hp)
        simp
      · rw [List.length_take]; omega
    have h5 := this (rfS ps sp hu ps.length).length
    omega
  · simp [tot]
/-- A row of two numbers appended. -/
theorem RowsV.addHH {W wA : World} {B : Nat} {ov ov' : Value} {vs : List Value} {S : List (List Int)} (hR : RowsV W B ov vs S) (hB : B ≤ W.heap.size) {s : Nat} (hs : s = W.heap.size) {a b : Int} {bx : Obj}
    (hq : Qw wA B 60 1 ov' (vs.length + 1) (vs ++ [.slice (some ⟨s, 0, none⟩) 2 2])) (hg : ((W.alloc (.cells #[.int .i64 a, .int .i64 b] 3)).alloc bx).grownBy wA ov.ownBlock) : RowsV wA B ov' (vs ++ [.slice (some ⟨s, 0, none⟩) 2 2]) (S ++ [[a, b]]) := by
  subst hs
  exact RowsV.add (w := (W.alloc (.cells #[.int .i64 a, .int .i64 b] 3)).alloc bx) (T := W.heap.size) (l := [a, b]) (hR.below (grow_trans (grow_alloc _ _) (grow_alloc _ _))) (fun i u g hu hg => hR.lt i u g hu hg) hB
    (own_below (World.ownsRow_lit (base := W.heap.size) (e := 3) (size := 1) W #[.int .i64 a, .int .i64 b] 2 (Nat.le_refl _) (by unfold maxLen; omega) (by rfl)) (grow_alloc _ _)) hq hg
/-- A cell of a slice of one's own stored. -/
theorem Qw.stored {w : World} {base g off n cap k : Nat} {e : TypeId} {xs : List Value} (h : Qw w base e k (.slice (some ⟨g, off, none⟩) n cap) n xs) (j : Nat) (u : Value) :
    Qw (w.setCell ⟨g, off + j, none⟩ u) base e k (.slice (some ⟨g, off, none⟩) n cap) n (xs.set j u) ∧ w.grownBy (w.setCell ⟨g, off + j, none⟩ u) (some g) ∧ w.frozen? ⟨g, off + j, none⟩ = false := by
  rcases h.2 with ⟨h', _⟩ | ⟨g', off', cap', cur, h', hb, hg, hnc, hcm, hcs, htake⟩
  · simp at h'
  · simp only [Value.slice.injEq, Option.some.injEq, Addr.mk.injEq, and_true, true_and] at h'
    obtain ⟨⟨rfl, rfl⟩, rfl⟩ := h'
    refine ⟨⟨by simpa using h.1, .inr ⟨g, off, cap, cur.setIfInBounds (off + j) u, rfl, hb, heap_setCell_same w g (off + j) cur e u hg, hnc, hcm, by simpa using hcs, ?_⟩⟩,
      ⟨rfl, rfl, rfl, by simp, fun k _ hk => heap_setCell_other w ⟨g, off + j, none⟩ k u (fun e => hk (by simp [e]))⟩, frozen_of_row w g (off + j) cur e hg⟩
    rw [Array.toList_setIfInBounds, ← htake, List.drop_set, if_neg (by omega), Nat.add_sub_cancel_left, List.take_set]
/-- A row of two numbers put in another's place. -/
theorem RowsV.putHH {W : World} {B : Nat} {go offo L co : Nat} {vs : List Value} {S : List (List Int)} (hR : RowsV W B (.slice (some ⟨go, offo, none⟩) vs.length co) vs S) (hB : B ≤ W.heap.size) {s : Nat} (hs : s = W.heap.size) {a b : Int} {n : Nat} (hn : n < S.length) :
    RowsV ((W.alloc (.cells #[.int .i64 a, .int .i64 b] 3)).setCell ⟨go, offo + n, none⟩ (.slice (some ⟨s, 0, none⟩) 2 2)) B (.slice (some ⟨go, offo, none⟩) vs.length co) (vs.set n (.slice (some ⟨s, 0, none⟩) 2 2)) (S.set n [a, b]) := by
  subst hs
  have hq := hR.outer.below (grow_alloc W (.cells #[.int .i64 a, .int .i64 b] 3))
  obtain ⟨h1, h2, _⟩ := hq.stored n (.slice (some ⟨W.heap.size, 0, none⟩) 2 2)
  have hgo : ∀ {u : Value} {m : List Int} {B' : Nat}, (W.alloc (.cells #[.int .i64 a, .int .i64 b] 3)).ownsRow B' 3 1 u m.length (ints m) → ((W.alloc (.cells #[.int .i64 a, .int .i64 b] 3)).setCell ⟨go, offo + n, none⟩ (.slice (some ⟨W.heap.size, 0, none⟩) 2 2)).ownsRow B' 3 1 u m.length (ints m) := fun hu => own_kept hu h2 (fun j hj e => by
    obtain ⟨c1, k1⟩ := own_kind hu hj
    obtain ⟨c2, k2⟩ := hq.kind (j := go) rfl
    have := Option.some.inj e
    subst this
    exact kind_ne k1 k2 (by decide) rfl)
  have hnew := hgo (m := [a, b]) (World.ownsRow_lit (base := W.heap.size) (e := 3) (size := 1) W #[.int .i64 a, .int .i64 b] 2 (Nat.le_refl _) (by unfold maxLen; omega) (by rfl))
  refine ⟨by simpa using h1, by simp [hR.len], fun i u l hu hl => ?_, fun i j u u' g hij hu hu' hgu e => ?_⟩
  · by_cases e : n = i
    · subst e
      rw [List.getElem?_set_self (by rw [hR.len]; exact hn)] at hu
      rw [List.getElem?_set_self hn] at hl
      cases hu; cases hl
      exact own_base hnew hB
    · rw [List.getElem?_set_ne e] at hu hl
      exact hgo (own_below (hR.row i u l hu hl) (grow_alloc _ _))
  · by_cases e1 : n = i
    · subst e1
      rw [List.getElem?_set_self (by rw [hR.len]; exact hn)] at hu
      rw [List.getElem?_set_ne (by omega)] at hu'
      cases hu
      cases hgu
      exact Nat.lt_irrefl _ (hR.lt j u' _ hu' e)
    · rw [List.getElem?_set_ne e1] at hu
      by_cases e2 : n = j
      · subst e2
        rw [List.getElem?_set_self (by rw [hR.len]; exact hn)] at hu'
        cases hu'
        cases e
        exact Nat.lt_irrefl _ (hR.lt i u _ hu hgu)
      · rw [List.getElem?_set_ne e2] at hu'
        exact hR.apart i j u u' g hij hu hu' hgu e
theorem cell_below0 {w w' : World} {B o : Nat} {v : Value} (h : w.cell? ⟨B, o, none⟩ = some v) (hb : Below w.heap.size w w') : w'.cell? ⟨B, o, none⟩ = some v := by
  rw [hb.cell (World.block_lt_of_cell? w _ h)]; exact h
theorem hp3 (w : World) (o p q : Obj) : (((w.alloc o).alloc p).alloc q).heap[w.heap.size + 1 + 1]? = some q := by
  have := hp0 ((w.alloc o).alloc p) q
  simpa using this
end Go.Proofs.Ytabedcpibnnnhaa
