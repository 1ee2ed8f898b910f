/- A changed byte of a text with its checksum shows; a number's text tells the number. Plain law. Conditions: as each states. -/
import Derived.Test.YtabedcpibnnnhaaDoorVer
import Derived.Test.YtabedcpibnnnhaaDoorWords
namespace Go.Proofs.YtabedcpibnnnhaaDoor
open Go.ChangeShapes Go.WideShapes Go.ChangeAt Go.RowKit Go.Deep
set_option linter.unusedVariables false
set_option linter.unusedSimpArgs false
set_option maxRecDepth 100000

theorem fold_ne : ∀ (B : List UInt8) {h h' : Int}, (0 ≤ h ∧ h ≤ 999978) → (0 ≤ h' ∧ h' ≤ 999978) → h ≠ h' → B.foldl (fun h c => (41 * h + (c.toNat : Int) + 1) % 999979) h ≠ B.foldl (fun h c => (41 * h + (c.toNat : Int) + 1) % 999979) h'
  | [], h, h', _, _, hn => hn
  | c :: B, h, h', h1, h2, hn => by
    rw [List.foldl_cons, List.foldl_cons]
    refine fold_ne B (by omega) (by omega) ?_
    omega
theorem sum_set {X : List UInt8} {k : Nat} {b : UInt8} (hk : k < X.length) (hb : X[k]? ≠ some b) : sumL (X.set k b) ≠ sumL X := by
  have hX : X = X.take k ++ X[k] :: X.drop (k + 1) := by rw [← List.drop_eq_getElem_cons hk, List.take_append_drop]
  have hc : X[k] ≠ b := fun e => hb (by rw [List.getElem?_eq_getElem hk, e])
  have hset : X.set k b = X.take k ++ b :: X.drop (k + 1) := by rw [List.set_eq_take_append_cons_drop, if_pos hk]
  have hb0 := sumL_bd (X.take k)
  have hcn : (X[k].toNat : Int) ≠ (b.toNat : Int) := by
    intro e
    exact hc (UInt8.toNat_inj.1 (by omega))
  have l1 := X[k].toNat_lt
  have l2 := b.toNat_lt
  rw [hset]
  conv => rhs; rw [hX]
  unfold sumL at *
  rw [List.foldl_append, List.foldl_append, List.foldl_cons, List.foldl_cons]
  generalize (X.take k).foldl (fun h c => (41 * h + (c.toNat : Int) + 1) % 999979) 7 = h at *
  refine fold_ne _ (by omega) (by omega) ?_
  omega
theorem hash_at {X D : List UInt8} (hX : (35 : UInt8) ∉ X) (hD : (35 : UInt8) ∉ D) (j : Nat) : (X ++ 35 :: D)[j]? = some 35 ↔ j = X.length := by
  constructor
  · intro h
    by_cases h1 : j < X.length
    · rw [List.getElem?_append_left h1] at h
      exact absurd (List.mem_of_getElem? h) hX
    · rw [List.getElem?_append_right (by omega)] at h
      obtain ⟨i, rfl⟩ : ∃ i, j = X.length + i := ⟨j - X.length, by omega⟩
      rw [Nat.add_sub_cancel_left] at h
      cases i with
      | zero => rfl
      | succ i => rw [List.getElem?_cons_succ] at h; exact absurd (List.mem_of_getElem? h) hD
  · rintro rfl
    rw [List.getElem?_append_right (Nat.le_refl _)]; simp
theorem flip_list {X T D E : List UInt8} {k : Nat} {b : UInt8} (hX : (35 : UInt8) ∉ X) (hT : (35 : UInt8) ∉ T) (hD : (35 : UInt8) ∉ D) (hE : (35 : UInt8) ∉ E)
    (hk : k < (X ++ 35 :: D).length) (hb : (X ++ 35 :: D)[k]? ≠ some b) (h : (X ++ 35 :: D).set k b = T ++ 35 :: E) :
    (k < X.length ∧ T = X.set k b ∧ E = D) ∨ (T = X ∧ E ≠ D) := by
  have hset : ∀ j, ((X ++ 35 :: D).set k b)[j]? = some 35 ↔ j = T.length := fun j => by rw [h]; exact hash_at hT hE j
  have hl : T.length = X.length ∧ k ≠ X.length := by
    have h1 := (hset T.length).2 rfl
    by_cases e : k = T.length
    · exfalso
      subst e
      rw [List.getElem?_set_self hk] at h1
      cases h1
      have h2 : T.length ≠ X.length := fun e => hb ((hash_at hX hD _).2 e)
      have h3 := (hset X.length).1 (by rw [List.getElem?_set_ne h2]; exact (hash_at hX hD _).2 rfl)
      exact h2 h3.symm
    · rw [List.getElem?_set_ne e] at h1
      have := (hash_at hX hD _).1 h1
      exact ⟨this, fun e2 => e (by omega)⟩
  obtain ⟨hl, hk2⟩ := hl
  by_cases h1 : k < X.length
  · left
    rw [List.set_append_left _ _ h1] at h
    obtain ⟨e1, e2⟩ := List.append_inj h (by simp [hl])
    exact ⟨h1, e1.symm, by cases e2; rfl⟩
  · right
    obtain ⟨j, rfl⟩ : ∃ j, k = X.length + (j + 1) := ⟨k - X.length - 1, by omega⟩
    rw [List.set_append_right _ _ (by omega), Nat.add_sub_cancel_left, List.set_cons_succ] at h
    obtain ⟨e1, e2⟩ := List.append_inj h (by simp [hl])
    refine ⟨e1.symm, ?_⟩
    have e3 : D.set j b = E := by cases e2; rfl
    intro e4
    rw [e4] at e3
    have hj : j < D.length := by simp at hk; omega
    apply hb
    rw [List.getElem?_append_right (by omega), Nat.add_sub_cancel_left, List.getElem?_cons_succ, ← e3, List.getElem?_set_self hj]
theorem piR_numS {n : Int} (h : inB n (-999999) 999999 = true) : piR (numS n) = .tuple #[.int .i64 n, .bool true] := piR_yes ⟨h, rfl⟩
theorem seal_list (x : ByteArray) : (sealS x).data.toList = x.data.toList ++ 35 :: Lib.itoa (sumL x.data.toList) := by
  unfold sealS
  have e : x ++ ⟨#[35]⟩ ++ numS (sumL x.data.toList) = bs (x.data.toList ++ 35 :: Lib.itoa (sumL x.data.toList)) := by
    conv => lhs; rw [show x = bs x.data.toList by unfold bs; simp]
    rw [show (⟨#[35]⟩ : ByteArray) = bs [35] from rfl, show numS _ = bs (Lib.itoa _) from rfl, bs_app, bs_app]
    congr 1
    unfold bs; simp
  rw [e]; unfold bs; simp
theorem free_list {x : ByteArray} {c : UInt8} (h : hasC x c = false) : c ∉ x.data.toList := by
  unfold hasC at h
  simpa using h
theorem pre_seal {x : ByteArray} (h : hasC x 35 = false) : preS (sealS x) = x := by
  have h1 := split_head (sealS x)
  have h2 : ((splitS (sealS x) 35).map (·.data.toList))[0]? = some (preS (sealS x)).data.toList := by rw [List.getElem?_map, h1]; rfl
  rw [splitS_spL, seal_list, spL_cut _ (free_list h)] at h2
  simp at h2
  exact data_inj (by first | exact h2 | exact h2.symm | simpa using h2 | simpa using h2.symm)
theorem ver_seal {x : ByteArray} (h : apB x = true) : vfB (sealS x) = true ∧ preS (sealS x) = x := by
  unfold apB at h
  simp only [Bool.and_eq_true, decide_eq_true_eq, Bool.not_eq_true'] at h
  have hp := pre_seal h.1.2
  exact ⟨by unfold vfB; rw [hp, decide_eq_true h.2]; simp, hp⟩
theorem ver_flip {x y : ByteArray} {k : Nat} {b : UInt8} (hx : hasC x 35 = false) (hk : k < (sealS x).size) (hs : y.data.toList = (sealS x).data.toList.set k b) (hb : (sealS x).data.toList[k]? ≠ some b) : vfB y = false := by
  cases hv : vfB y with
  | false => rfl
  | true =>
    exfalso
    unfold vfB at hv
    simp only [Bool.and_eq_true, decide_eq_true_eq] at hv
    have h1 := seal_list (preS y)
    rw [hv.2, hs] at h1
    rw [seal_list] at h1 hb
    have hlen : k < (x.data.toList ++ 35 :: Lib.itoa (sumL x.data.toList)).length := by rw [← seal_list]; simpa using hk
    have d1 : (35 : UInt8) ∉ Lib.itoa (sumL x.data.toList) := itoa_free _ _ (by decide)
    have d2 : (35 : UInt8) ∉ Lib.itoa (sumL (preS y).data.toList) := itoa_free _ _ (by decide)
    rcases flip_list (free_list hx) (free_list (pre_free y)) d1 d2 hlen hb h1 with ⟨hkx, e1, e2⟩ | ⟨e1, e2⟩
    · have e3 : numS (sumL (preS y).data.toList) = numS (sumL x.data.toList) := by unfold numS; rw [e2]
      have e4 := numS_inj e3
      rw [e1] at e4
      refine sum_set hkx ?_ e4
      rw [List.getElem?_append_left hkx] at hb
      exact hb
    · rw [e1] at e2
      exact e2 rfl
end Go.Proofs.YtabedcpibnnnhaaDoor
