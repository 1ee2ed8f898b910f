/- Pieces of sets of cells: gathered one by one, and by their first cells. Plain Lean. Conditions: as each states. -/
import Derived.Test.YtefampjmbjbhcaaBfs
namespace Go.Proofs.Ytefampjmbjbhcaa
set_option linter.unusedVariables false
set_option linter.unusedSimpArgs false

/-- Pieces gathered one after the other: a piece for each cell that no earlier piece holds. -/
def pcs (R : Int → List Int) (cs : List Int) : List (List Int) := cs.foldl (fun acc c => if acc.any (fun p => hasB p c) then acc else acc ++ [R c]) []
theorem pcs_take {R : Int → List Int} {cs : List Int} {k : Nat} {c : Int} (h : cs[k]? = some c) : pcs R (cs.take (k + 1)) = if (pcs R (cs.take k)).any (fun p => hasB p c) then pcs R (cs.take k) else pcs R (cs.take k) ++ [R c] := by
  obtain ⟨hk, rfl⟩ := List.getElem?_eq_some_iff.1 h
  unfold pcs
  rw [List.take_succ_eq_append_getElem hk, List.foldl_append]; rfl
theorem pcs_le (R : Int → List Int) (cs : List Int) : ∀ k, (pcs R (cs.take k)).length ≤ k
  | 0 => by simp [pcs]
  | k + 1 => by
    have ih := pcs_le R cs k
    cases h : cs[k]? with
    | none =>
      rw [List.getElem?_eq_none_iff] at h
      rw [List.take_of_length_le (by omega), ← List.take_of_length_le h]; omega
    | some c =>
      rw [pcs_take h]
      split
      · omega
      · simp; omega
/-- The pieces by their first cells. -/
def heads (R : Int → List Int) (cs : List Int) : List (List Int) := (cs.filter fun c => (R c).head? == some c).map R
/-- What is asked of the classes of some cells. -/
structure Cls (R : Int → List Int) (cs : List Int) : Prop where
  own : ∀ c ∈ cs, c ∈ R c
  rise : ∀ c ∈ cs, Rise (R c)
  sub : ∀ c ∈ cs, ∀ d ∈ R c, d ∈ cs
  same : ∀ c ∈ cs, ∀ d ∈ R c, R d = R c
theorem head_le {l : List Int} (h : Rise l) {c : Int} (hc : c ∈ l) : ∃ d, l.head? = some d ∧ d ∈ l ∧ d ≤ c := by
  cases l with
  | nil => cases hc
  | cons d l =>
    refine ⟨d, rfl, by simp, ?_⟩
    rcases List.mem_cons.1 hc with e | e
    · omega
    · have := (List.pairwise_cons.1 h).1 c e; omega
theorem take_lt {cs : List Int} (hr : Rise cs) {k : Nat} {c : Int} (h : cs[k]? = some c) {d : Int} (hd : d ∈ cs.take k) : d < c := by
  obtain ⟨hk, rfl⟩ := List.getElem?_eq_some_iff.1 h
  obtain ⟨i, hi, rfl⟩ := List.mem_iff_getElem.1 hd
  rw [List.getElem_take]
  rw [List.length_take] at hi
  exact (List.pairwise_iff_getElem.1 hr) i k (by omega) hk (by omega)
theorem mem_take_of_lt {cs : List Int} (hr : Rise cs) {k : Nat} {c : Int} (h : cs[k]? = some c) {d : Int} (hd : d ∈ cs) (hlt : d < c) : d ∈ cs.take k := by
  obtain ⟨hk, rfl⟩ := List.getElem?_eq_some_iff.1 h
  obtain ⟨i, hi, rfl⟩ := List.mem_iff_getElem.1 hd
  have hik : i < k := by
    rcases Nat.lt_trichotomy i k with e | e | e
    · exact e
    · subst e; omega
    · have := (List.pairwise_iff_getElem.1 hr) k i hk hi e; omega
  refine List.mem_iff_getElem.2 ⟨i, by rw [List.length_take]; omega, by rw [List.getElem_take]⟩
theorem heads_any {R : Int → List Int} {cs : List Int} (hc : Cls R cs) (hr : Rise cs) {k : Nat} {c : Int} (h : cs[k]? = some c) : (heads R (cs.take k)).any (fun p => hasB p c) = !((R c).head? == some c) := by
  have hcm : c ∈ cs := List.mem_of_getElem? h
  obtain ⟨d, hd, hdm, hdle⟩ := head_le (hc.rise c hcm) (hc.own c hcm)
  rw [hd]
  rw [Bool.eq_iff_iff]
  simp only [List.any_eq_true, heads, List.mem_map, List.mem_filter, hasB_iff, Bool.not_eq_true', beq_eq_false_iff_ne, beq_iff_eq, ne_eq, Option.some.injEq]
  constructor
  · rintro ⟨p, ⟨c', ⟨hc', hh⟩, rfl⟩, hcp⟩ e
    have hlt := take_lt hr h hc'
    have hs := hc.same c' (List.mem_of_mem_take hc') c hcp
    rw [hs, hh] at hd
    have : c' = d := by simpa using hd
    omega
  · intro e
    have hdc : d ∈ cs := hc.sub c hcm d hdm
    have hds := hc.same c hcm d hdm
    exact ⟨R d, ⟨d, ⟨mem_take_of_lt hr h hdc (by omega), by rw [hds, hd]⟩, rfl⟩, by rw [hds]; exact hc.own c hcm⟩
theorem heads_take {R : Int → List Int} {cs : List Int} {k : Nat} {c : Int} (h : cs[k]? = some c) : heads R (cs.take (k + 1)) = if (R c).head? == some c then heads R (cs.take k) ++ [R c] else heads R (cs.take k) := by
  obtain ⟨hk, rfl⟩ := List.getElem?_eq_some_iff.1 h
  unfold heads
  rw [List.take_succ_eq_append_getElem hk, List.filter_append, List.map_append]
  cases hh : (R cs[k]).head? == some cs[k] <;> simp [hh]
theorem pcs_heads {R : Int → List Int} {cs : List Int} (hc : Cls R cs) (hr : Rise cs) : ∀ k, pcs R (cs.take k) = heads R (cs.take k)
  | 0 => by simp [pcs, heads]
  | k + 1 => by
    cases h : cs[k]? with
    | none =>
      rw [List.getElem?_eq_none_iff] at h
      rw [List.take_of_length_le (by omega), ← List.take_of_length_le h]
      exact pcs_heads hc hr k
    | some c =>
      rw [pcs_take h, heads_take h, pcs_heads hc hr k, heads_any hc hr h]
      cases (R c).head? == some c <;> simp
theorem pcs_eq {R : Int → List Int} {cs : List Int} (hc : Cls R cs) (hr : Rise cs) : pcs R cs = heads R cs := by
  have := pcs_heads hc hr cs.length
  rwa [List.take_length] at this
/-- Classes that steps both ways make. -/
theorem Cls.of_rch {cs : List Int} {N : Nat} {st : Int → Int → Prop} (hs : ∀ a b, a ∈ cs → st a b → st b a) (h1 : ∀ a b, st a b → b ∈ cs) (hN : ∀ c ∈ cs, 0 ≤ c ∧ c ≤ (N : Int) - 1) : Cls (fun c => rchL (fun d => d = c) st N) cs := by
  have hsub : ∀ c ∈ cs, ∀ d, Rch (fun e => e = c) st d → d ∈ cs := fun c hc d hd => hd.sub (fun e he => he ▸ hc) (fun a b _ h => h1 a b h)
  have hsym : ∀ c ∈ cs, ∀ d, Rch (fun e => e = c) st d → Rch (fun e => e = d) st c := by
    intro c hc d hd
    induction hd with
    | base h => subst h; exact .base rfl
    | step ha hab ih => exact Rch.trans (Rch.step (S := fun x => x = _) (.base rfl) (hs _ _ (hsub c hc _ ha) hab)) ih
  refine ⟨fun c hc => mem_rchL.2 ⟨hN c hc, .base rfl⟩, fun c _ => rchL_rise _ _ _, fun c hc d hd => hsub c hc d (mem_rchL.1 hd).2, fun c hc d hd => ?_⟩
  have hcd := (mem_rchL.1 hd).2
  have hdc := hsym c hc d hcd
  refine (rchL_rise _ _ _).ext (rchL_rise _ _ _) fun z => ?_
  rw [mem_rchL, mem_rchL]
  exact ⟨fun ⟨a, b⟩ => ⟨a, hcd.trans b⟩, fun ⟨a, b⟩ => ⟨a, hdc.trans b⟩⟩
end Go.Proofs.Ytefampjmbjbhcaa
