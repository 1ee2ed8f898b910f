/- The path of a fire: what it is, and that it ends. Plain Lean. Conditions: as each states. -/
import Derived.Test.YtnacofmjipilhaaArr4
namespace Go.Proofs.Ytnacofmjipilhaa
set_option linter.unusedVariables false
set_option linter.unusedSimpArgs false

/-- Fire comes from one cell to another one at the time of the table. -/
def pkB (x : Int) (zs : List Int) (ps : List (Int × Int)) (L : List Int) (c k : Nat) : Bool := decide (tm L k ≠ -1) && decide (doneF ps (tm L k) (wrkF x zs k c) = tm L c)
/-- The first such neighbor. -/
def pkO (x : Int) (zs : List Int) (ps : List (Int × Int)) (L : List Int) (c : Nat) : Option Int := (selN (nearP x c) zs.length).find? fun z => pkB x zs ps L c z.toNat
/-- The path to a cell. -/
def pathL (x : Int) (zs : List Int) (ps : List (Int × Int)) (srcs L : List Int) (c : Nat) : List Int :=
  if hasB srcs c then [(c : Int)] else match pkO x zs ps L c with
    | none => [(c : Int)]
    | some a => if h : 0 ≤ tm L a.toNat ∧ tm L a.toNat < tm L c then pathL x zs ps srcs L a.toNat ++ [(c : Int)] else [(c : Int)]
termination_by (tm L c).toNat
decreasing_by omega
theorem path_src {x : Int} {zs : List Int} {ps : List (Int × Int)} {srcs L : List Int} {c : Nat} (h : hasB srcs c = true) : pathL x zs ps srcs L c = [(c : Int)] := by
  rw [pathL, if_pos h]
theorem path_step {x : Int} {zs : List Int} {ps : List (Int × Int)} {srcs L : List Int} {c a : Nat} (h : hasB srcs c = false) (h1 : pkO x zs ps L c = some (a : Int)) (h2 : 0 ≤ tm L a) (h3 : tm L a < tm L c) : pathL x zs ps srcs L c = pathL x zs ps srcs L a ++ [(c : Int)] := by
  rw [pathL, if_neg (by rw [h]; simp), h1]
  simp only [Int.toNat_natCast]
  rw [dif_pos ⟨h2, h3⟩]
theorem find_first {l : List Int} {p : Int → Bool} : ∀ {j : Nat} {a : Int}, l[j]? = some a → p a = true → (∀ i z, i < j → l[i]? = some z → p z = false) → l.find? p = some a := by
  induction l with
  | nil => intro j a h; simp at h
  | cons y r ih =>
    intro j a h hp hn
    cases j with
    | zero =>
      simp at h; subst h
      simp [hp]
    | succ j =>
      have h0 := hn 0 y (by omega) rfl
      rw [List.find?_cons, h0]
      exact ih (by simpa using h) hp (fun i z hi hz => hn (i + 1) z (by omega) (by simpa using hz))
section
variable {x : Int} {zs : List Int} {ps : List (Int × Int)} {srcs : List Int} {s : Int} {L : List Int}
theorem ArrT.burn : ∀ {c t}, ArrT (fireSr zs srcs) (fireSt x zs) (fireD x zs ps) s c t → burnP zs c = true := by
  intro c t h
  cases h with
  | base h => exact h.2.2
  | step h hs => exact hs.2.2
theorem Least.burn (h : LstF x zs ps srcs s L) {c : Nat} (hc : tm L c ≠ -1) : burnP zs c = true := (h.sound c hc).burn
theorem Least.pos {y : Int} (h : LstF x zs ps srcs s L) (ht : terrB x y zs = true) (h0 : 0 ≤ s) (h1 : s ≤ 1000) {c : Nat} (hc : tm L c ≠ -1) : 0 ≤ tm L c ∧ c < zs.length := by
  have := ArrT.ge (fireX ps ht h0 h1) (h.sound c hc)
  exact ⟨by omega, this.2⟩
/-- Fire has come from somewhere. -/
theorem Least.came {y : Int} (h : LstF x zs ps srcs s L) (ht : terrB x y zs = true) (h0 : 0 ≤ s) (h1 : s ≤ 1000) {c : Nat} (hc : tm L c ≠ -1) (hn : hasB srcs c = false) :
    ∃ a, a < zs.length ∧ nearP x c a = true ∧ pkB x zs ps L c a = true := by
  have hx := fireX (srcs := srcs) ps ht h0 h1
  have key : ∀ t, ArrT (fireSr zs srcs) (fireSt x zs) (fireD x zs ps) s c t → t = tm L c → ∃ a, a < zs.length ∧ nearP x c a = true ∧ pkB x zs ps L c a = true := by
    intro t hA
    cases hA with
    | base hS => intro _; rw [hS.2.1] at hn; cases hn
    | @step a _ ta hA hs =>
      intro e
      obtain ⟨b1, b2⟩ := h.best a ta hA
      have c1 := h.best c _ (ArrT.step (h.sound a b1) hs)
      have c2 := hx.mono a c _ _ b2
      refine ⟨a, (ArrT.ge hx hA).2, ?_, ?_⟩
      · have := hs.2.1
        unfold nearP at this ⊢
        rw [apartN_comm]; exact this
      · unfold pkB
        have e2 : doneF ps (tm L a) (wrkF x zs a c) = tm L c := by
          have e3 : fireD x zs ps a c (tm L a) = doneF ps (tm L a) (wrkF x zs a c) := rfl
          have := c1.2
          omega
        rw [decide_eq_true b1, decide_eq_true e2]; rfl
  exact key _ (h.sound c hc) rfl
/-- Who comes first is earlier. -/
theorem Least.less {y : Int} (h : LstF x zs ps srcs s L) (ht : terrB x y zs = true) (h0 : 0 ≤ s) (h1 : s ≤ 1000) {c a : Nat} (hc : tm L c ≠ -1) (hp : pkB x zs ps L c a = true) : tm L a ≠ -1 ∧ 0 ≤ tm L a ∧ tm L a < tm L c := by
  unfold pkB at hp
  rw [Bool.and_eq_true, decide_eq_true_eq, decide_eq_true_eq] at hp
  have hw := wrk_pos (x := x) ht a (h.burn hc)
  have hg := doneF_gt ps (t := tm L a) hw
  have := (h.pos ht h0 h1 hp.1).1
  exact ⟨hp.1, this, by omega⟩
theorem near_has {N a c : Nat} (ha : a < N) (hn : nearP x c a = true) : (a : Int) ∈ selN (nearP x c) N := by
  unfold selN
  rw [List.mem_map]
  exact ⟨a, List.mem_filter.2 ⟨List.mem_range.2 ha, hn⟩, rfl⟩
theorem path_len (x : Int) (zs : List Int) (ps : List (Int × Int)) (srcs L : List Int) : ∀ (n c : Nat), (tm L c).toNat ≤ n → (pathL x zs ps srcs L c).length ≤ n + 1 := by
  intro n
  induction n with
  | zero =>
    intro c hc
    rw [pathL]
    split
    · simp
    · split
      · simp
      · split
        · omega
        · simp
  | succ n ih =>
    intro c hc
    rw [pathL]
    split
    · simp
    · split
      · simp
      · rename_i a _
        split
        · have := ih a.toNat (by omega)
          simp; omega
        · simp
end
theorem countP_lt {p q : Nat → Bool} (h : ∀ k, p k = true → q k = true) {a : Nat} (h1 : q a = true) (h2 : p a = false) : ∀ {l : List Nat}, a ∈ l → l.countP p < l.countP q
  | [], ha => by simp at ha
  | y :: r, ha => by
    rcases List.mem_cons.1 ha with e | e
    · subst e
      have := List.countP_mono_left (l := r) (p := p) (q := q) (fun k _ => h k)
      rw [List.countP_cons_of_neg (by rw [h2]; simp), List.countP_cons_of_pos h1]
      omega
    · have ih := countP_lt h h1 h2 e
      rw [List.countP_cons, List.countP_cons]
      have hy := h y
      cases hp : p y with
      | true => rw [hy hp]; simp; omega
      | false => simp; omega
theorem pk_lt {x : Int} {zs : List Int} {ps : List (Int × Int)} {L : List Int} {c : Nat} {a : Int} (h : pkO x zs ps L c = some a) : a.toNat < zs.length := by
  have := List.mem_of_find?_eq_some h
  unfold selN at this
  obtain ⟨b, hb, rfl⟩ := List.mem_map.1 this
  rw [Int.toNat_natCast]
  exact List.mem_range.1 (List.mem_filter.1 hb).1
theorem path_cnt (x : Int) (zs : List Int) (ps : List (Int × Int)) (srcs L : List Int) : ∀ (n c : Nat), (tm L c).toNat ≤ n → (pathL x zs ps srcs L c).length ≤ 1 + (List.range zs.length).countP (fun k => decide (tm L k < tm L c)) := by
  intro n
  induction n with
  | zero =>
    intro c hc
    rw [pathL]
    split
    · simp
    · split
      · simp
      · split
        · omega
        · simp
  | succ n ih =>
    intro c hc
    rw [pathL]
    split
    · simp
    · split
      · simp
      · rename_i a hO
        split
        · rename_i hlt
          have h1 := ih a.toNat (by omega)
          have h2 := countP_lt (p := fun k => decide (tm L k < tm L a.toNat)) (q := fun k => decide (tm L k < tm L c)) (fun k hk => by simp at hk ⊢; omega) (a := a.toNat) (by simpa using hlt.2) (by simp) (List.mem_range.2 (pk_lt hO))
          simp only [List.length_append, List.length_singleton]; omega
        · simp
/-- Whether there is a path, and the path. -/
noncomputable def fpB (x y : Int) (zs : List Int) (ps : List (Int × Int)) (srcs : List Int) (s a : Int) : Bool := fireB x y zs ps srcs s && inB a 0 ((zs.length : Int) - 1) && decide (tm (arrL x zs ps srcs s) a.toNat ≠ -1)
noncomputable def fpL (x : Int) (zs : List Int) (ps : List (Int × Int)) (srcs : List Int) (s a : Int) : List Int := pathL x zs ps srcs (arrL x zs ps srcs s) a.toNat
theorem fp_len {x y : Int} {zs : List Int} {ps : List (Int × Int)} {srcs : List Int} {s a : Int} (h : fpB x y zs ps srcs s a = true) : (fpL x zs ps srcs s a).length ≤ 1048576 := by
  unfold fpB at h
  simp only [Bool.and_eq_true] at h
  obtain ⟨f1, _⟩ := fire_facts h.1.1
  have h25 := (terr_dims f1).2.2.2
  have h1 := path_cnt x zs ps srcs (arrL x zs ps srcs s) _ a.toNat (Nat.le_refl _)
  have h2 := List.countP_le_length (p := fun k => decide (tm (arrL x zs ps srcs s) k < tm (arrL x zs ps srcs s) a.toNat)) (l := List.range zs.length)
  rw [List.length_range] at h2
  unfold fpL
  omega
end Go.Proofs.Ytnacofmjipilhaa
