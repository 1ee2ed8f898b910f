/- Fire's arrival times: what the least ones are, that there is one table of them, and two ways to come to it. Plain Lean. Conditions: as each states. -/
import Derived.Test.YtnacofmjipilhaaSpeed
namespace Go.Proofs.Ytnacofmjipilhaa
set_option linter.unusedVariables false
set_option linter.unusedSimpArgs false

/-- Less work is done no later. -/
theorem doneF_monoW (ps : List (Int × Int)) : ∀ (n : Nat) (t w w' : Int), w'.toNat ≤ n → w ≤ w' → doneF ps t w ≤ doneF ps t w'
  | 0, t, w, w', h, hw => by rw [doneF_zero (by omega), doneF_zero (by omega)]; omega
  | n + 1, t, w, w', h, hw => by
    by_cases h' : 0 < w'
    · by_cases h1 : 0 < w
      · rw [doneF, if_pos h1]
        conv => rhs; rw [doneF, if_pos h']
        exact doneF_monoW ps n _ _ _ (by omega) (by omega)
      · rw [doneF_zero h1]
        exact (doneF_bd ps t w').1
    · rw [doneF_zero (by omega), doneF_zero h']; omega
theorem doneF_up1 (ps : List (Int × Int)) (t w : Int) : doneF ps t w ≤ doneF ps (t + 1) w := by
  by_cases h : 0 < w
  · rw [doneF, if_pos h]
    exact doneF_monoW ps w.toNat _ _ _ (Nat.le_refl _) (by omega)
  · rw [doneF_zero h, doneF_zero h]; omega
/-- Who leaves later arrives no earlier. -/
theorem doneF_mono (ps : List (Int × Int)) (w : Int) : ∀ (d : Nat) (t : Int), doneF ps t w ≤ doneF ps (t + d) w
  | 0, t => by simp
  | d + 1, t => by
    have a := doneF_mono ps w d t
    have b := doneF_up1 ps (t + d) w
    rw [show t + ((d + 1 : Nat) : Int) = t + d + 1 by omega]
    omega
theorem doneF_late (ps : List (Int × Int)) (w : Int) {t t' : Int} (h : t ≤ t') : doneF ps t w ≤ doneF ps t' w := by
  have := doneF_mono ps w (t' - t).toNat t
  rwa [show t + ((t' - t).toNat : Int) = t' by omega] at this
theorem doneF_gt (ps : List (Int × Int)) {t w : Int} (h : 0 < w) : t < doneF ps t w := by
  rw [doneF, if_pos h]
  have := (doneF_bd ps (t + 1) (w - max 1 (spd ps t))).1
  omega

/-- The tick of a cell in a table; -1 where there is none. -/
def tm (L : List Int) (c : Nat) : Int := L.getD c (-1)
theorem tm_at {L : List Int} {c : Nat} {z : Int} (h : L[c]? = some z) : tm L c = z := by simp [tm, List.getD_eq_getElem?_getD, h]
theorem tm_get {L : List Int} {c : Nat} (h : c < L.length) : L[c]? = some (tm L c) := by simp [tm, List.getD_eq_getElem?_getD, h]
theorem tm_out {L : List Int} {c : Nat} (h : L.length ≤ c) : tm L c = -1 := by simp [tm, List.getD_eq_getElem?_getD, h]
theorem tm_lt {L : List Int} {c : Nat} (h : tm L c ≠ -1) : c < L.length := by
  rcases Nat.lt_or_ge c L.length with h1 | h1
  · exact h1
  · exact absurd (tm_out h1) h
theorem tm_set {L : List Int} {b : Nat} (hb : b < L.length) (x : Int) (c : Nat) : tm (L.set b x) c = if c = b then x else tm L c := by
  by_cases h : c = b
  · subst h; rw [if_pos rfl]; exact tm_at (by simp [hb])
  · rw [if_neg h]; simp [tm, List.getD_eq_getElem?_getD, List.getElem?_set, Ne.symm h]
theorem tm_same {L : List Int} {b : Nat} (hb : b < L.length) (x : Int) : tm (L.set b x) b = x := by rw [tm_set hb, if_pos rfl]
theorem tm_other {L : List Int} {b c : Nat} (hb : b < L.length) (x : Int) (h : c ≠ b) : tm (L.set b x) c = tm L c := by rw [tm_set hb, if_neg h]
/-- A sum over a list. -/
def sumF {α : Type} (f : α → Nat) : List α → Nat
  | [] => 0
  | z :: l => f z + sumF f l
theorem sumF_set {α : Type} (f : α → Nat) (x : α) : ∀ (l : List α) (b : Nat) (z : α), l[b]? = some z → sumF f (l.set b x) + f z = sumF f l + f x
  | [], b, z, h => by simp at h
  | y :: l, 0, z, h => by
    simp at h; subst h
    simp only [List.set_cons_zero, sumF]; omega
  | y :: l, b + 1, z, h => by
    have := sumF_set f x l b z (by simpa using h)
    simp only [List.set_cons_succ, sumF]; omega
theorem sumF_le {α : Type} (f : α → Nat) (m : Nat) (hf : ∀ x, f x ≤ m) : ∀ l : List α, sumF f l ≤ m * l.length
  | [] => by simp [sumF]
  | z :: l => by
    have := sumF_le f m hf l
    have := hf z
    simp only [sumF, List.length_cons, Nat.mul_add, Nat.mul_one]; omega
/-- How many cells of a table have a tick. -/
def cnt (L : List Int) : Nat := sumF (fun z => if z = -1 then 0 else 1) L
/-- What is left to a table. -/
def mes (L : List Int) : Nat := sumF (fun z => if z = -1 then 4001 else z.toNat) L
theorem cnt_le (L : List Int) : cnt L ≤ L.length := by
  have := sumF_le (fun z : Int => if z = -1 then 0 else 1) 1 (fun x => by split <;> omega) L
  unfold cnt; omega
/-- A cell of marks. -/
def fx (F : List Bool) (c : Nat) : Bool := F.getD c false
theorem fx_at {F : List Bool} {c : Nat} {b : Bool} (h : F[c]? = some b) : fx F c = b := by simp [fx, List.getD_eq_getElem?_getD, h]
theorem fx_get {F : List Bool} {c : Nat} (h : c < F.length) : F[c]? = some (fx F c) := by simp [fx, List.getD_eq_getElem?_getD, h]
theorem fx_set {F : List Bool} {b : Nat} (hb : b < F.length) (c : Nat) : fx (F.set b true) c = if c = b then true else fx F c := by
  by_cases h : c = b
  · subst h; rw [if_pos rfl]; exact fx_at (by simp [hb])
  · rw [if_neg h]; simp [fx, List.getD_eq_getElem?_getD, List.getElem?_set, Ne.symm h]
/-- How many cells are not marked. -/
def opn (F : List Bool) : Nat := sumF (fun b => if b then 0 else 1) F
theorem opn_set {F : List Bool} {b : Nat} (hb : b < F.length) (h : fx F b = false) : opn (F.set b true) < opn F := by
  have := sumF_set (fun b : Bool => if b then 0 else 1) true F b false (by rw [fx_get hb, h])
  simp at this
  unfold opn; omega

/-- A fire over n cells: what its sources, its steps and their ends keep. -/
structure FireX (n : Nat) (S : Nat → Prop) (st : Nat → Nat → Prop) (D : Nat → Nat → Int → Int) (s : Int) : Prop where
  s0 : 0 ≤ s
  s1 : s ≤ 1000
  n25 : n ≤ 25
  src : ∀ c, S c → c < n
  stp : ∀ a b, st a b → b < n
  up : ∀ a b t, 0 ≤ t → st a b → t < D a b t
  mono : ∀ a b t t', t ≤ t' → D a b t ≤ D a b t'
  cap : ∀ a b t, 0 ≤ t → st a b → D a b t ≤ t + 120
/-- Fire may arrive so. -/
inductive ArrT (S : Nat → Prop) (st : Nat → Nat → Prop) (D : Nat → Nat → Int → Int) (s : Int) : Nat → Int → Prop
  | base {c : Nat} : S c → ArrT S st D s c s
  | step {a b : Nat} {t : Int} : ArrT S st D s a t → st a b → ArrT S st D s b (D a b t)
/-- A table of the least ticks. -/
structure Least (n : Nat) (S : Nat → Prop) (st : Nat → Nat → Prop) (D : Nat → Nat → Int → Int) (s : Int) (L : List Int) : Prop where
  len : L.length = n
  sound : ∀ c, tm L c ≠ -1 → ArrT S st D s c (tm L c)
  best : ∀ c t, ArrT S st D s c t → tm L c ≠ -1 ∧ tm L c ≤ t
/-- A table on its way. -/
structure BInv (n : Nat) (S : Nat → Prop) (st : Nat → Nat → Prop) (D : Nat → Nat → Int → Int) (s : Int) (L : List Int) : Prop where
  len : L.length = n
  sound : ∀ c, tm L c ≠ -1 → ArrT S st D s c (tm L c)
  start : ∀ c, S c → tm L c ≠ -1 ∧ tm L c ≤ s
  cap : ∀ c, tm L c ≤ 1000 + 120 * (cnt L : Int)

section
variable {n : Nat} {S : Nat → Prop} {st : Nat → Nat → Prop} {D : Nat → Nat → Int → Int} {s : Int} {L L' : List Int} {F : List Bool}
theorem ArrT.ge (hx : FireX n S st D s) : ∀ {c t}, ArrT S st D s c t → s ≤ t ∧ c < n := by
  intro c t h
  induction h with
  | base h => exact ⟨Int.le_refl _, hx.src _ h⟩
  | @step a b t h hs ih =>
    have h0 := hx.s0
    have := hx.up a b t (by omega) hs
    exact ⟨by omega, hx.stp _ _ hs⟩
theorem Least.one (h : Least n S st D s L) (k : Least n S st D s L') : L = L' := by
  have e : ∀ c, tm L c = tm L' c := by
    intro c
    by_cases h1 : tm L c = -1
    · by_cases h2 : tm L' c = -1
      · rw [h1, h2]
      · exact absurd h1 (h.best c _ (k.sound c h2)).1
    · have a := k.best c _ (h.sound c h1)
      have b := h.best c _ (k.sound c a.1)
      omega
  apply List.ext_getElem? 
  intro c
  rcases Nat.lt_or_ge c n with hc | hc
  · rw [tm_get (by rw [h.len]; exact hc), tm_get (by rw [k.len]; exact hc), e]
  · rw [List.getElem?_eq_none (by rw [h.len]; exact hc), List.getElem?_eq_none (by rw [k.len]; exact hc)]
theorem BInv.pos (hx : FireX n S st D s) (h : BInv n S st D s L) {c : Nat} (hc : tm L c ≠ -1) : 0 ≤ tm L c ∧ c < n := by
  have := ArrT.ge hx (h.sound c hc)
  have h0 := hx.s0
  exact ⟨by omega, this.2⟩
theorem BInv.bd (hx : FireX n S st D s) (h : BInv n S st D s L) (c : Nat) : -1 ≤ tm L c ∧ tm L c ≤ 4000 := by
  have h1 := h.cap c
  have h2 := cnt_le L
  have h3 := h.len
  have h4 := hx.n25
  by_cases hc : tm L c = -1
  · omega
  · have := (h.pos hx hc).1
    omega
theorem BInv.ends (hx : FireX n S st D s) (h : BInv n S st D s L) (hs : ∀ a b, tm L a ≠ -1 → st a b → tm L b ≠ -1 ∧ tm L b ≤ D a b (tm L a)) : Least n S st D s L := by
  refine ⟨h.len, h.sound, fun c t hc => ?_⟩
  induction hc with
  | base hc => exact h.start _ hc
  | step hc hst ih =>
    have a := hs _ _ ih.1 hst
    exact ⟨a.1, Int.le_trans a.2 (hx.mono _ _ _ _ ih.2)⟩
theorem BInv.begin (hx : FireX n S st D s) (hl : L.length = n) (h1 : ∀ c, S c → tm L c = s) (h2 : ∀ c, ¬ S c → tm L c = -1) : BInv n S st D s L := by
  have h0 := hx.s0
  have h3 := hx.s1
  refine ⟨hl, fun c hc => ?_, fun c hc => ?_, fun c => ?_⟩
  · by_cases hS : S c
    · rw [h1 c hS]; exact .base hS
    · exact absurd (h2 c hS) hc
  · rw [h1 c hc]; omega
  · by_cases hS : S c
    · rw [h1 c hS]; omega
    · rw [h2 c hS]; omega
/-- A better tick is put into a table. -/
theorem BInv.put (hx : FireX n S st D s) (h : BInv n S st D s L) {a b : Nat} (ha : tm L a ≠ -1) (hst : st a b) (hc : tm L b = -1 ∨ D a b (tm L a) < tm L b) :
    BInv n S st D s (L.set b (D a b (tm L a))) ∧ mes (L.set b (D a b (tm L a))) < mes L := by
  have hp := h.pos hx ha
  have hb : b < L.length := by rw [h.len]; exact hx.stp _ _ hst
  have hu := hx.up a b _ hp.1 hst
  have hcp := hx.cap a b _ hp.1 hst
  have hca := h.cap a
  have hcb := h.cap b
  generalize hX : D a b (tm L a) = X at *
  have e1 := sumF_set (fun z : Int => if z = -1 then 0 else 1) X L b _ (tm_get hb)
  have e2 := sumF_set (fun z : Int => if z = -1 then 4001 else z.toNat) X L b _ (tm_get hb)
  have hX1 : ¬ X = -1 := by omega
  simp only [if_neg hX1] at e1 e2
  have hn := hx.n25
  have hl := h.len
  have hc1 := cnt_le (L.set b X)
  rw [List.length_set] at hc1
  have hcnt : sumF (fun z : Int => if z = -1 then 0 else 1) (L.set b X) = cnt (L.set b X) := rfl
  have hcnt0 : sumF (fun z : Int => if z = -1 then 0 else 1) L = cnt L := rfl
  have hmes : sumF (fun z : Int => if z = -1 then 4001 else z.toNat) (L.set b X) = mes (L.set b X) := rfl
  have hmes0 : sumF (fun z : Int => if z = -1 then 4001 else z.toNat) L = mes L := rfl
  rw [hcnt, hcnt0] at e1
  rw [hmes, hmes0] at e2
  have hle : cnt L ≤ cnt (L.set b X) := by split at e1 <;> omega
  have hXc : X ≤ 1000 + 120 * (cnt (L.set b X) : Int) := by
    rcases hc with hc | hc
    · rw [if_pos hc] at e1; omega
    · omega
  refine ⟨⟨by rw [List.length_set, hl], fun c hc' => ?_, fun c hS => ?_, fun c => ?_⟩, ?_⟩
  · by_cases e : c = b
    · subst e
      rw [tm_same hb, ← hX]
      exact .step (h.sound a ha) hst
    · rw [tm_other hb _ e] at hc' ⊢
      exact h.sound c hc'
  · by_cases e : c = b
    · subst e
      rw [tm_same hb]
      have := h.start c hS
      rcases hc with hc | hc
      · exact absurd hc this.1
      · omega
    · rw [tm_other hb _ e]; exact h.start c hS
  · by_cases e : c = b
    · subst e; rw [tm_same hb]; exact hXc
    · rw [tm_other hb _ e]
      have := h.cap c
      omega
  · rcases hc with hc | hc
    · rw [if_pos hc] at e2; omega
    · rw [if_neg (by omega)] at e2; omega

/-! ### rounds over all cells until nothing turns -/
/-- What a step leaves right at its end. -/
def okS (D : Nat → Nat → Int → Int) (L : List Int) (a b : Nat) : Prop := tm L b ≠ -1 ∧ tm L b ≤ D a b (tm L a)
structure BF (n : Nat) (S : Nat → Prop) (st : Nat → Nat → Prop) (D : Nat → Nat → Int → Int) (s : Int) (m0 : Nat) (again : Bool) (a : Nat) (L : List Int) : Prop where
  inv : BInv n S st D s L
  le : mes L ≤ m0
  lt : again = true → mes L < m0
  shut : again = false → ∀ a' b, a' < a → tm L a' ≠ -1 → st a' b → okS D L a' b
structure BK (n : Nat) (S : Nat → Prop) (st : Nat → Nat → Prop) (D : Nat → Nat → Int → Int) (s : Int) (m0 : Nat) (again : Bool) (a : Nat) (near : List Int) (k : Nat) (L : List Int) : Prop where
  bf : BF n S st D s m0 again a L
  ha : tm L a ≠ -1
  shut : again = false → ∀ (j : Nat) (b : Nat), j < k → near[j]? = some (b : Int) → st a b → okS D L a b
theorem BF.begin (h : BInv n S st D s L) : BF n S st D s (mes L) false 0 L := ⟨h, Nat.le_refl _, fun h => (by cases h), fun _ a' b h => (by omega)⟩
theorem BF.pass {m0 a : Nat} {again : Bool} (h : BF n S st D s m0 again a L) (ha : tm L a = -1) : BF n S st D s m0 again (a + 1) L :=
  ⟨h.inv, h.le, h.lt, fun e a' b hl hn hs => by
    by_cases e2 : a' = a
    · subst e2; exact absurd ha hn
    · exact h.shut e a' b (by omega) hn hs⟩
theorem BF.enter {m0 a : Nat} {again : Bool} {near : List Int} (h : BF n S st D s m0 again a L) (ha : tm L a ≠ -1) : BK n S st D s m0 again a near 0 L := ⟨h, ha, fun _ j b h => by omega⟩
theorem BK.leave {m0 a : Nat} {again : Bool} {near : List Int} {k : Nat} (h : BK n S st D s m0 again a near k L) (hk : k = near.length) (hn : ∀ b, st a b → (b : Int) ∈ near) : BF n S st D s m0 again (a + 1) L :=
  ⟨h.bf.inv, h.bf.le, h.bf.lt, fun e a' b hl hn' hs => by
    by_cases e2 : a' = a
    · subst e2
      obtain ⟨j, hj⟩ := List.getElem?_of_mem (hn b hs)
      exact h.shut e j b (by have := (List.getElem?_eq_some_iff.1 hj).1; omega) hj hs
    · exact h.bf.shut e a' b (by omega) hn' hs⟩
theorem BK.pass {m0 a : Nat} {again : Bool} {near : List Int} {k b : Nat} (h : BK n S st D s m0 again a near k L) (hk : near[k]? = some (b : Int)) (hb : st a b → okS D L a b) : BK n S st D s m0 again a near (k + 1) L :=
  ⟨h.bf, h.ha, fun e j b' hj hb' hs => by
    by_cases e2 : j = k
    · subst e2
      rw [hk] at hb'
      have : b = b' := by have := Option.some.inj hb'; omega
      subst this
      exact hb hs
    · exact h.shut e j b' (by omega) hb' hs⟩
theorem BK.put (hx : FireX n S st D s) {m0 a : Nat} {again : Bool} {near : List Int} {k b : Nat} (h : BK n S st D s m0 again a near k L) (hst : st a b) (hc : tm L b = -1 ∨ D a b (tm L a) < tm L b) :
    BK n S st D s m0 true a near (k + 1) (L.set b (D a b (tm L a))) := by
  obtain ⟨h1, h2⟩ := h.bf.inv.put hx h.ha hst hc
  have hp := h.bf.inv.pos hx h.ha
  have hu := hx.up a b _ hp.1 hst
  have hb : b < L.length := by rw [h.bf.inv.len]; exact hx.stp _ _ hst
  have hl := h.bf.le
  have hab : a ≠ b := by
    intro e
    subst e
    rcases hc with hc | hc
    · exact h.ha hc
    · omega
  exact ⟨⟨h1, by omega, fun _ => by omega, fun e => by cases e⟩, by rw [tm_other hb _ hab]; exact h.ha, fun e => by cases e⟩
theorem BF.ends (hx : FireX n S st D s) {m0 : Nat} (h : BF n S st D s m0 false n L) : Least n S st D s L :=
  h.inv.ends hx fun a b ha hs => h.shut rfl a b (h.inv.pos hx ha).2 ha hs

/-! ### the earliest cell first -/
structure DInv (n : Nat) (S : Nat → Prop) (st : Nat → Nat → Prop) (D : Nat → Nat → Int → Int) (s : Int) (L : List Int) (F : List Bool) : Prop where
  inv : BInv n S st D s L
  flen : F.length = n
  fnn : ∀ c, fx F c = true → tm L c ≠ -1
  shut : ∀ a b, fx F a = true → st a b → okS D L a b
  ord : ∀ a b, fx F a = true → fx F b = false → tm L b ≠ -1 → tm L a ≤ tm L b
structure DMid (n : Nat) (S : Nat → Prop) (st : Nat → Nat → Prop) (D : Nat → Nat → Int → Int) (s : Int) (b0 : Nat) (near : List Int) (k : Nat) (L : List Int) (F : List Bool) : Prop where
  inv : BInv n S st D s L
  flen : F.length = n
  f0 : fx F b0 = true
  fnn : ∀ c, fx F c = true → tm L c ≠ -1
  top : ∀ a, fx F a = true → tm L a ≤ tm L b0
  low : ∀ b, fx F b = false → tm L b ≠ -1 → tm L b0 ≤ tm L b
  shut : ∀ a b, fx F a = true → a ≠ b0 → st a b → okS D L a b
  shut0 : ∀ (j : Nat) (b : Nat), j < k → near[j]? = some (b : Int) → st b0 b → okS D L b0 b
/-- The earliest open cell so far. -/
def BSt (L : List Int) (F : List Bool) (k : Nat) (best : Int) : Prop :=
  (best = -1 ∧ ∀ c, c < k → fx F c = true ∨ tm L c = -1) ∨ ∃ b : Nat, best = b ∧ b < k ∧ fx F b = false ∧ tm L b ≠ -1 ∧ ∀ c, c < k → fx F c = false → tm L c ≠ -1 → tm L b ≤ tm L c
theorem BSt.begin : BSt L F 0 (-1) := .inl ⟨rfl, fun c h => by omega⟩
theorem BSt.pass {k : Nat} {best : Int} (h : BSt L F k best) (hp : fx F k = true ∨ tm L k = -1 ∨ ∃ b : Nat, best = b ∧ tm L b ≤ tm L k) : BSt L F (k + 1) best := by
  rcases h with ⟨e, h⟩ | ⟨b, e, h1, h2, h3, h4⟩
  · refine .inl ⟨e, fun c hc => ?_⟩
    by_cases ec : c = k
    · subst ec
      rcases hp with hp | hp | ⟨b, hb, _⟩
      · exact .inl hp
      · exact .inr hp
      · omega
    · exact h c (by omega)
  · refine .inr ⟨b, e, by omega, h2, h3, fun c hc hf ht => ?_⟩
    by_cases ec : c = k
    · subst ec
      rcases hp with hp | hp | ⟨b', hb', hle⟩
      · rw [hp] at hf; cases hf
      · exact absurd hp ht
      · have : b = b' := by omega
        subst this; exact hle
    · exact h4 c (by omega) hf ht
theorem BSt.take {k : Nat} {best : Int} (h : BSt L F k best) (hf : fx F k = false) (ht : tm L k ≠ -1) (hp : best < 0 ∨ ∃ b : Nat, best = b ∧ tm L k < tm L b) : BSt L F (k + 1) (k : Nat) := by
  refine .inr ⟨k, rfl, by omega, hf, ht, fun c hc hf' ht' => ?_⟩
  by_cases ec : c = k
  · subst ec; exact Int.le_refl _
  · rcases h with ⟨e, h⟩ | ⟨b, e, h1, h2, h3, h4⟩
    · rcases h c (by omega) with h | h
      · rw [h] at hf'; cases hf'
      · exact absurd h ht'
    · rcases hp with hp | ⟨b', hb', hlt⟩
      · omega
      · have : b = b' := by omega
        subst this
        have := h4 c (by omega) hf' ht'
        omega
theorem DInv.begin (h : BInv n S st D s L) (hl : F.length = n) (h0 : ∀ c, fx F c = false) : DInv n S st D s L F :=
  ⟨h, hl, fun c hc => (by rw [h0] at hc; cases hc), fun a b ha => (by rw [h0] at ha; cases ha), fun a b ha => (by rw [h0] at ha; cases ha)⟩
theorem DInv.ends (hx : FireX n S st D s) (h : DInv n S st D s L F) (hb : BSt L F n (-1)) : Least n S st D s L :=
  h.inv.ends hx fun a b ha hs => h.shut a b (by
    rcases hb with ⟨_, hb⟩ | ⟨b, e, _⟩
    · rcases hb a (h.inv.pos hx ha).2 with hb | hb
      · exact hb
      · exact absurd hb ha
    · omega) hs
theorem DInv.take (hx : FireX n S st D s) (h : DInv n S st D s L F) {b0 : Nat} {near : List Int} (hb : BSt L F n b0) : DMid n S st D s b0 near 0 L (F.set b0 true) ∧ b0 < n ∧ fx F b0 = false ∧ tm L b0 ≠ -1 := by
  rcases hb with ⟨e, _⟩ | ⟨b, e, h1, h2, h3, h4⟩
  · omega
  · have : b0 = b := by omega
    subst this
    have hl : b0 < F.length := by rw [h.flen]; exact h1
    refine ⟨⟨h.inv, by rw [List.length_set]; exact h.flen, by rw [fx_set hl, if_pos rfl], fun c hc => ?_, fun a ha => ?_, fun b hf ht => ?_, fun a b ha hne hs => ?_, fun j b hj => by omega⟩, h1, h2, h3⟩
    · rw [fx_set hl] at hc
      split at hc
      · rename_i e; rw [e]; exact h3
      · exact h.fnn c hc
    · rw [fx_set hl] at ha
      split at ha
      · rename_i e; rw [e]; exact Int.le_refl _
      · exact h.ord a b0 ha h2 h3
    · rw [fx_set hl] at hf
      split at hf
      · cases hf
      · exact h4 b (h.inv.pos hx ht).2 hf ht
    · rw [fx_set hl, if_neg hne] at ha
      exact h.shut a b ha hs
theorem DMid.ends (hx : FireX n S st D s) {b0 : Nat} {near : List Int} {k : Nat} (h : DMid n S st D s b0 near k L F) (hk : k = near.length) (hn : ∀ b, st b0 b → (b : Int) ∈ near) : DInv n S st D s L F := by
  refine ⟨h.inv, h.flen, h.fnn, fun a b ha hs => ?_, fun a b ha hb ht => ?_⟩
  · by_cases e : a = b0
    · subst e
      obtain ⟨j, hj⟩ := List.getElem?_of_mem (hn b hs)
      exact h.shut0 j b (by have := (List.getElem?_eq_some_iff.1 hj).1; omega) hj hs
    · exact h.shut a b ha e hs
  · have := h.top a ha
    have := h.low b hb ht
    omega
theorem DMid.pass (hx : FireX n S st D s) {b0 : Nat} {near : List Int} {k c : Nat} (h : DMid n S st D s b0 near k L F) (hk : near[k]? = some (c : Int)) (hc : st b0 c → fx F c = true ∨ okS D L b0 c) : DMid n S st D s b0 near (k + 1) L F := by
  refine ⟨h.inv, h.flen, h.f0, h.fnn, h.top, h.low, h.shut, fun j b hj hb hs => ?_⟩
  by_cases e : j = k
  · subst e
    rw [hk] at hb
    have : c = b := by have := Option.some.inj hb; omega
    subst this
    rcases hc hs with hc | hc
    · have h1 := h.top c hc
      have h2 := h.inv.pos hx (h.fnn b0 h.f0)
      have h3 := hx.up b0 c _ h2.1 hs
      exact ⟨h.fnn c hc, by omega⟩
    · exact hc
  · exact h.shut0 j b (by omega) hb hs
theorem DMid.put (hx : FireX n S st D s) {b0 : Nat} {near : List Int} {k c : Nat} (h : DMid n S st D s b0 near k L F) (hk : near[k]? = some (c : Int)) (hst : st b0 c) (hf : fx F c = false) (hc : tm L c = -1 ∨ D b0 c (tm L b0) < tm L c) :
    DMid n S st D s b0 near (k + 1) (L.set c (D b0 c (tm L b0))) F := by
  have hb0 := h.fnn b0 h.f0
  obtain ⟨h1, h2⟩ := h.inv.put hx hb0 hst hc
  have hp := h.inv.pos hx hb0
  have hu := hx.up b0 c _ hp.1 hst
  have hl : c < L.length := by rw [h.inv.len]; exact hx.stp _ _ hst
  generalize hX : D b0 c (tm L b0) = X at *
  have hne : ∀ a, fx F a = true → a ≠ c := fun a ha e => by subst e; rw [ha] at hf; cases hf
  have hbc := hne b0 h.f0
  have hok : ∀ a b, a ≠ c → okS D L a b → okS D (L.set c X) a b := fun a b ha ho => by
    unfold okS at *
    rw [tm_other hl _ ha]
    by_cases e : b = c
    · subst e
      rw [tm_same hl]
      rcases hc with hc | hc
      · exact absurd hc ho.1
      · exact ⟨by omega, by omega⟩
    · rw [tm_other hl _ e]; exact ho
  refine ⟨h1, h.flen, h.f0, fun a ha => ?_, fun a ha => ?_, fun b hb ht => ?_, fun a b ha hn hs => hok a b (hne a ha) (h.shut a b ha hn hs), fun j b hj hb hs => ?_⟩
  · rw [tm_other hl _ (hne a ha)]; exact h.fnn a ha
  · rw [tm_other hl _ (hne a ha), tm_other hl _ hbc]; exact h.top a ha
  · rw [tm_other hl _ hbc]
    by_cases e : b = c
    · subst e; rw [tm_same hl]; omega
    · rw [tm_other hl _ e] at ht ⊢; exact h.low b hb ht
  · by_cases e : j = k
    · subst e
      rw [hk] at hb
      have : c = b := by have := Option.some.inj hb; omega
      subst this
      unfold okS
      rw [tm_same hl, tm_other hl _ hbc, hX]
      exact ⟨by omega, Int.le_refl _⟩
    · exact hok b0 b hbc (h.shut0 j b (by omega) hb hs)
end
open Classical in
/-- The table of the least ticks. -/
noncomputable def lstL (n : Nat) (S : Nat → Prop) (st : Nat → Nat → Prop) (D : Nat → Nat → Int → Int) (s : Int) : List Int := if h : ∃ L, Least n S st D s L then h.choose else []
theorem Least.eq {n : Nat} {S : Nat → Prop} {st : Nat → Nat → Prop} {D : Nat → Nat → Int → Int} {s : Int} {L : List Int} (h : Least n S st D s L) : L = lstL n S st D s := by
  have he : ∃ L, Least n S st D s L := ⟨L, h⟩
  unfold lstL
  rw [dif_pos he]
  exact h.one he.choose_spec
theorem lstL_le (n : Nat) (S : Nat → Prop) (st : Nat → Nat → Prop) (D : Nat → Nat → Int → Int) (s : Int) : (lstL n S st D s).length ≤ n := by
  unfold lstL
  split
  · rename_i h
    rw [h.choose_spec.len]; exact Nat.le_refl _
  · simp
end Go.Proofs.Ytnacofmjipilhaa
