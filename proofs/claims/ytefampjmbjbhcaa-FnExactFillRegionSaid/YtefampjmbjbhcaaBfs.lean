/- Searches over cells: their states, and what they come to. Plain Lean. Conditions: as each states. -/
import Derived.Test.YtefampjmbjbhcaaRegP
namespace Go.Proofs.Ytefampjmbjbhcaa
set_option linter.unusedVariables false
set_option linter.unusedSimpArgs false

/-- A search over cells as it stands: what was found, in order; what is to come. -/
structure GInv (N : Nat) (S : Int → Prop) (st : Int → Int → Prop) (ok : Int → Prop) (out next : List Int) : Prop where
  rise : Rise out
  r1 : ∀ z ∈ out, 0 ≤ z ∧ z ≤ (N : Int) - 1
  r2 : ∀ z ∈ next, 0 ≤ z ∧ z ≤ (N : Int) - 1
  srch : Srch2 S st ok (fun c => c ∈ out) (fun c => c ∈ next)
theorem GInv.begin {N : Nat} {S : Int → Prop} {st : Int → Int → Prop} {ok : Int → Prop} {next : List Int} (hr : ∀ z ∈ next, 0 ≤ z ∧ z ≤ (N : Int) - 1) (h1 : ∀ c, S c → c ∈ next) (h2 : ∀ c ∈ next, ok c → S c) : GInv N S st ok [] next :=
  ⟨Rise.nil, by simp, hr, ⟨by simp, fun c hc ho => .base (h2 c hc ho), fun c hc => .inr (h1 c hc), by simp⟩⟩
theorem GInv.skip {N : Nat} {S : Int → Prop} {st : Int → Int → Prop} {ok : Int → Prop} {out rest : List Int} {z : Int} (h : GInv N S st ok out (z :: rest)) (hS : ∀ c, S c → ok c) (hst : ∀ a b, st a b → ok b) (hz : ¬ ok z ∨ z ∈ out) : GInv N S st ok out rest := by
  refine ⟨h.rise, h.r1, fun c hc => h.r2 c (List.mem_cons_of_mem _ hc), ⟨h.srch.sound, fun c hc => h.srch.soon c (List.mem_cons_of_mem _ hc), fun c hc => ?_, fun a b ha hs => ?_⟩⟩
  · rcases h.srch.start c hc with h1 | h1
    · exact .inl h1
    · rcases List.mem_cons.1 h1 with e | e
      · subst e; rcases hz with hz | hz
        · exact absurd (hS _ hc) hz
        · exact .inl hz
      · exact .inr e
  · rcases h.srch.shut a b ha hs with h1 | h1
    · exact .inl h1
    · rcases List.mem_cons.1 h1 with e | e
      · subst e; rcases hz with hz | hz
        · exact absurd (hst _ _ hs) hz
        · exact .inl hz
      · exact .inr e
theorem GInv.take {N : Nat} {S : Int → Prop} {st : Int → Int → Prop} {ok : Int → Prop} {out rest nb : List Int} {z : Int} (h : GInv N S st ok out (z :: rest)) (hz : ok z) (hn : ∀ b ∈ nb, 0 ≤ b ∧ b ≤ (N : Int) - 1)
    (h1 : ∀ b ∈ nb, ok b → st z b) (h2 : ∀ b, st z b → b ∈ nb) : GInv N S st ok (putL out z) (rest ++ nb) := by
  have hzr : Rch S st z := h.srch.soon z (by simp) hz
  refine ⟨h.rise.put z, fun c hc => ?_, fun c hc => ?_, ⟨fun c hc => ?_, fun c hc ho => ?_, fun c hc => ?_, fun a b ha hs => ?_⟩⟩
  · rcases mem_putL.1 hc with e | e
    · subst e; exact h.r2 _ (by simp)
    · exact h.r1 c e
  · rcases List.mem_append.1 hc with e | e
    · exact h.r2 c (List.mem_cons_of_mem _ e)
    · exact hn c e
  · rcases mem_putL.1 hc with e | e
    · subst e; exact hzr
    · exact h.srch.sound c e
  · rcases List.mem_append.1 hc with e | e
    · exact h.srch.soon c (List.mem_cons_of_mem _ e) ho
    · exact .step hzr (h1 c e ho)
  · rcases h.srch.start c hc with e | e
    · exact .inl (mem_putL.2 (.inr e))
    · rcases List.mem_cons.1 e with e | e
      · subst e; exact .inl (mem_putL.2 (.inl rfl))
      · exact .inr (List.mem_append.2 (.inl e))
  · rcases mem_putL.1 ha with e | e
    · subst e; exact .inr (List.mem_append.2 (.inr (h2 b hs)))
    · rcases h.srch.shut a b e hs with e | e
      · exact .inl (mem_putL.2 (.inr e))
      · rcases List.mem_cons.1 e with e | e
        · subst e; exact .inl (mem_putL.2 (.inl rfl))
        · exact .inr (List.mem_append.2 (.inl e))
theorem putL_new {l : List Int} {z : Int} (h : z ∉ l) : (putL l z).length = l.length + 1 := by
  induction l with
  | nil => rfl
  | cons x l ih =>
    have h1 : x ≠ z := fun e => h (by simp [e])
    have h2 : z ∉ l := fun e => h (List.mem_cons_of_mem _ e)
    unfold putL
    split
    · rw [List.length_cons, ih h2, List.length_cons]
    · first | (rw [if_neg h1]; simp) | simp
/-- How long a search may still take. -/
def left (N o x : Nat) : Nat := (N - o) * (N + 1) + x
theorem left_take {N o x b : Nat} (ho : o + 1 ≤ N) (hb : b ≤ N) : left N (o + 1) (x + b) < left N o (x + 1) := by
  unfold left
  have e : N - o = (N - (o + 1)) + 1 := by omega
  rw [e, Nat.succ_mul]
  omega
theorem left_top {N x : Nat} (h : N ≤ 25) (hx : x ≤ 25) : left N 0 x ≤ 675 := by
  unfold left
  have := Nat.mul_le_mul (show N - 0 ≤ 25 by omega) (show N + 1 ≤ 26 by omega)
  omega
theorem left_len (N o x : Nat) : x ≤ left N o x := Nat.le_add_left _ _
theorem left_skip (N o x : Nat) : left N o x < left N o (x + 1) := by unfold left; omega
open Classical in
/-- The cells that are reached, in order. -/
noncomputable def rchL (S : Int → Prop) (st : Int → Int → Prop) (N : Nat) : List Int := selN (fun k => decide (Rch S st (k : Int))) N
theorem mem_rchL {S : Int → Prop} {st : Int → Int → Prop} {N : Nat} {z : Int} : z ∈ rchL S st N ↔ (0 ≤ z ∧ z ≤ (N : Int) - 1) ∧ Rch S st z := by
  unfold rchL
  rw [selN_mem]
  constructor
  · rintro ⟨k, hk, h, rfl⟩; exact ⟨by omega, by simpa using h⟩
  · rintro ⟨h1, h2⟩
    have e : ((z.toNat : Nat) : Int) = z := by omega
    exact ⟨z.toNat, by omega, by simpa [e] using h2, e.symm⟩
theorem rchL_rise (S : Int → Prop) (st : Int → Int → Prop) (N : Nat) : Rise (rchL S st N) := selN_rise _ _
theorem rchL_le (S : Int → Prop) (st : Int → Int → Prop) (N : Nat) : (rchL S st N).length ≤ N := selN_le _ _
theorem GInv.ends {N : Nat} {S : Int → Prop} {st : Int → Int → Prop} {ok : Int → Prop} {out : List Int} (h : GInv N S st ok out []) : out = rchL S st N :=
  h.rise.ext (rchL_rise _ _ _) fun z => by
    rw [mem_rchL, ← h.srch.ends (by simp) z]
    exact ⟨fun hz => ⟨h.r1 z hz, hz⟩, fun hz => hz.2⟩
theorem rchL_congr {S S' : Int → Prop} {st st' : Int → Int → Prop} {N : Nat} (h1 : ∀ c, S c ↔ S' c) (h2 : ∀ a b, st a b ↔ st' a b) : rchL S st N = rchL S' st' N :=
  (rchL_rise _ _ _).ext (rchL_rise _ _ _) fun z => by
    rw [mem_rchL, mem_rchL]
    exact ⟨fun ⟨a, b⟩ => ⟨a, b.mono (fun c => (h1 c).1) (fun a b _ => (h2 a b).1)⟩, fun ⟨a, b⟩ => ⟨a, b.mono (fun c => (h1 c).2) (fun a b _ => (h2 a b).2)⟩⟩
/-- A cell that a list of marks marks. -/
def fnd (sb : List Bool) (c : Int) : Prop := 0 ≤ c ∧ sb[c.toNat]? = some true
theorem fnd_nat {sb : List Bool} {k : Nat} : fnd sb k ↔ sb[k]? = some true := by unfold fnd; simp
theorem fnd_set {sb : List Bool} {k : Nat} {c : Int} (hk : k < sb.length) : fnd (sb.set k true) c ↔ c = k ∨ fnd sb c := by
  unfold fnd
  rw [List.getElem?_set]
  by_cases e : k = c.toNat
  · subst e
    simp only [if_true, hk]
    constructor
    · rintro ⟨h, _⟩; exact .inl (by omega)
    · rintro (h | ⟨h, _⟩) <;> exact ⟨by omega, by simp⟩
  · rw [if_neg e]
    constructor
    · intro h; exact .inr h
    · rintro (h | h)
      · omega
      · exact h
/-- A search that marks what it finds as it finds it. -/
structure FInv (N : Nat) (S : Int → Prop) (st : Int → Int → Prop) (sb : List Bool) (todo : List Int) : Prop where
  len : sb.length = N
  r2 : ∀ z ∈ todo, 0 ≤ z ∧ z ≤ (N : Int) - 1
  seen : ∀ z ∈ todo, fnd sb z
  srch : Srch S st (fnd sb) (fun c => c ∈ todo)
/-- The same while the steps from one cell are tried, up to some cell. -/
structure FMid (N : Nat) (S : Int → Prop) (st : Int → Int → Prop) (a : Int) (i : Nat) (sb : List Bool) (todo : List Int) : Prop where
  len : sb.length = N
  r2 : ∀ z ∈ todo, 0 ≤ z ∧ z ≤ (N : Int) - 1
  seen : ∀ z ∈ todo, fnd sb z
  ha : Rch S st a
  sound : ∀ c, fnd sb c → Rch S st c
  start : ∀ c, S c → fnd sb c
  shut : ∀ x b, fnd sb x → x ∉ todo → (x ≠ a ∨ b < (i : Int)) → st x b → fnd sb b
theorem FInv.pop {N : Nat} {S : Int → Prop} {st : Int → Int → Prop} {sb : List Bool} {a : Int} {rest : List Int} (h : FInv N S st sb (a :: rest)) (hst : ∀ a b, st a b → 0 ≤ b ∧ b ≤ (N : Int) - 1) : FMid N S st a 0 sb rest :=
  ⟨h.len, fun z hz => h.r2 z (List.mem_cons_of_mem _ hz), fun z hz => h.seen z (List.mem_cons_of_mem _ hz), h.srch.sound a (h.seen a (by simp)), h.srch.sound, h.srch.start, fun x b hx hn hc hs => by
    have hb := hst x b hs
    have hxa : x ≠ a := by rcases hc with h | h; exact h; simp at h; omega
    exact h.srch.shut x b hx (fun hm => by rcases List.mem_cons.1 hm with e | e; exact hxa e; exact hn e) hs⟩
theorem FMid.pass {N : Nat} {S : Int → Prop} {st : Int → Int → Prop} {sb : List Bool} {a : Int} {i : Nat} {todo : List Int} (h : FMid N S st a i sb todo) (hi : fnd sb i ∨ ¬ st a i) : FMid N S st a (i + 1) sb todo :=
  ⟨h.len, h.r2, h.seen, h.ha, h.sound, h.start, fun x b hx hn hc hs => by
    by_cases e : x ≠ a ∨ b < (i : Int)
    · exact h.shut x b hx hn e hs
    · have e1 : x = a := Classical.not_not.1 fun e2 => e (.inl e2)
      have e2 : b = i := by
        have : ¬ b < (i : Int) := fun e2 => e (.inr e2)
        rcases hc with hc | hc
        · exact absurd e1 hc
        · omega
      subst e1 e2
      rcases hi with hi | hi
      · exact hi
      · exact absurd hs hi⟩
theorem FMid.find {N : Nat} {S : Int → Prop} {st : Int → Int → Prop} {sb : List Bool} {a : Int} {i : Nat} {todo : List Int} (h : FMid N S st a i sb todo) (hi : i < N) (hs : st a i) : FMid N S st a (i + 1) (sb.set i true) (todo ++ [(i : Int)]) := by
  have hl : i < sb.length := by rw [h.len]; exact hi
  refine ⟨by rw [List.length_set, h.len], fun z hz => ?_, fun z hz => ?_, h.ha, fun c hc => ?_, fun c hc => (fnd_set hl).2 (.inr (h.start c hc)), fun x b hx hn hc hxb => ?_⟩
  · rcases List.mem_append.1 hz with e | e
    · exact h.r2 z e
    · have : z = i := by simpa using e
      omega
  · rcases List.mem_append.1 hz with e | e
    · exact (fnd_set hl).2 (.inr (h.seen z e))
    · exact (fnd_set hl).2 (.inl (by simpa using e))
  · rcases (fnd_set hl).1 hc with e | e
    · subst e; exact .step h.ha hs
    · exact h.sound c e
  · rcases (fnd_set hl).1 hx with e | e
    · exact absurd (List.mem_append.2 (.inr (by simpa using e))) hn
    · by_cases hbi : b = i
      · exact (fnd_set hl).2 (.inl hbi)
      · refine (fnd_set hl).2 (.inr (h.shut x b e (fun hm => hn (List.mem_append.2 (.inl hm))) ?_ hxb))
        rcases hc with hc | hc
        · exact .inl hc
        · exact .inr (by omega)
theorem FMid.ends {N : Nat} {S : Int → Prop} {st : Int → Int → Prop} {sb : List Bool} {a : Int} {todo : List Int} (h : FMid N S st a N sb todo) (hst : ∀ a b, st a b → 0 ≤ b ∧ b ≤ (N : Int) - 1) : FInv N S st sb todo :=
  ⟨h.len, h.r2, h.seen, ⟨h.sound, h.start, fun x b hx hn hs => h.shut x b hx hn (.inr (by have := hst x b hs; omega)) hs⟩⟩
theorem FInv.begin {N : Nat} {st : Int → Int → Prop} {sb : List Bool} {cs : List Int} (hl : sb.length = N) (hr : ∀ z ∈ cs, 0 ≤ z ∧ z ≤ (N : Int) - 1) (h : ∀ k : Nat, sb[k]? = some true ↔ (k : Int) ∈ cs) : FInv N (fun c => c ∈ cs) st sb cs := by
  have hf : ∀ c, fnd sb c ↔ c ∈ cs := by
    intro c
    constructor
    · rintro ⟨h0, h1⟩
      have := (h c.toNat).1 h1
      rwa [show ((c.toNat : Nat) : Int) = c by omega] at this
    · intro hc
      have h0 := hr c hc
      refine ⟨h0.1, (h c.toNat).2 ?_⟩
      rwa [show ((c.toNat : Nat) : Int) = c by omega]
  exact ⟨hl, hr, fun z hz => (hf z).2 hz, ⟨fun c hc => .base ((hf c).1 hc), fun c hc => (hf c).2 hc, fun a b ha hn hs => absurd ((hf a).1 ha) hn⟩⟩
theorem FInv.ends {N : Nat} {S : Int → Prop} {st : Int → Int → Prop} {sb : List Bool} (h : FInv N S st sb []) : selN (fun k => sb.getD k false) N = rchL S st N :=
  (selN_rise _ _).ext (rchL_rise _ _ _) fun z => by
    have hf := h.srch.ends (by simp)
    rw [selN_mem, mem_rchL]
    constructor
    · rintro ⟨k, hk, h1, rfl⟩
      refine ⟨by omega, (hf k).1 (fnd_nat.2 ?_)⟩
      rw [List.getD_eq_getElem?_getD] at h1
      cases e : sb[k]? with
      | none => rw [e] at h1; cases h1
      | some b => rw [e] at h1; simp at h1; rw [h1]
    · rintro ⟨⟨h0, h1⟩, h2⟩
      have := ((hf z).2 h2).2
      refine ⟨z.toNat, by omega, ?_, by omega⟩
      rw [List.getD_eq_getElem?_getD, this]; rfl
theorem count_set {sb : List Bool} {i : Nat} (h : sb[i]? = some false) : (sb.set i true).count false + 1 = sb.count false := by
  induction sb generalizing i with
  | nil => simp at h
  | cons b sb ih =>
    cases i with
    | zero =>
      have : b = false := by simpa using h
      subst this
      simp
    | succ i =>
      have := ih (i := i) (by simpa using h)
      simp only [List.set_cons_succ, List.count_cons]
      omega
end Go.Proofs.Ytefampjmbjbhcaa
