/- The breeze of a text: plain law. Conditions: as each states. -/
import Derived.Test.YtabedcpibnnnhaaDoorBrz
import Derived.Test.YtabedcpibnnnhaaDoorNumI
namespace Go.Proofs.YtabedcpibnnnhaaDoor
open Go.ChangeShapes Go.WideShapes Go.ChangeAt Go.RowKit Go.Deep
set_option linter.unusedVariables false
set_option linter.unusedSimpArgs false
set_option maxRecDepth 100000

/-- The place of a direction's letters, or -1. -/
def ixD (x : List UInt8) : Int := match dirS.idxOf? x with | some j => j | none => -1
theorem ix_dir (u : Nat) (h : u < 8) : ixD (dirS.getD u []) = u := by
  match u, h with
  | 0, _ | 1, _ | 2, _ | 3, _ | 4, _ | 5, _ | 6, _ | 7, _ => decide
theorem dir_free (u : Nat) : (32 : UInt8) ∉ dirS.getD u [] := by
  by_cases h : u < 8
  · have : ∀ p ∈ dirS, (32 : UInt8) ∉ p := by decide
    rw [List.getD_eq_getElem?_getD, List.getElem?_eq_getElem (show u < dirS.length from h)]
    exact this _ (List.getElem_mem _)
  · rw [List.getD_eq_getElem?_getD, List.getElem?_eq_none (show dirS.length ≤ u from by show 8 ≤ u; omega)]
    simp
theorem dir_short (u : Nat) : (dirS.getD u []).length ≤ 2 := by
  by_cases h : u < 8
  · rw [List.getD_eq_getElem?_getD, List.getElem?_eq_getElem (show u < dirS.length from h)]
    exact dir_len (List.getElem?_eq_getElem _)
  · rw [List.getD_eq_getElem?_getD, List.getElem?_eq_none (show dirS.length ≤ u from by show 8 ≤ u; omega)]
    simp
theorem brz_words (f k : Int) (hk : k ≠ 0) : spL 32 (brzL f k) = [dirS.getD f.toNat [], Lib.itoa k, [107, 109, 47, 104]] := by
  unfold brzL
  rw [if_neg hk]
  have e : dirS.getD f.toNat [] ++ [32] ++ Lib.itoa k ++ [32, 107, 109, 47, 104] = dirS.getD f.toNat [] ++ 32 :: (Lib.itoa k ++ 32 :: [107, 109, 47, 104]) := by simp
  rw [e, spL_cut _ (dir_free _), spL_cut _ (itoa_free k 32 (by decide)), spL_free (by decide)]
theorem wind_bd {f k : Int} (h : windB f k = true) : (0 ≤ f ∧ f ≤ 7) ∧ 0 ≤ k ∧ k ≤ 120 := by
  unfold windB at h
  simp only [Bool.and_eq_true, inB_iff] at h
  exact ⟨h.1.1, h.1.2⟩
theorem bs_data' (x : ByteArray) : bs x.data.toList = x := by unfold bs; simp
/-- What a valid breeze's text tells. -/
theorem brz_parse {s : ByteArray} {f k : Int} (hw : windB f k = true) (hk : k ≠ 0) (hs : bs (brzL f k) = s) :
    (splitS s 32).length = 3 ∧ s.size ≤ 20 ∧ ixD ((splitS s 32).getD 0 ⟨#[]⟩).data.toList = f ∧ nmW (splitS s 32) 1 = k := by
  obtain ⟨⟨f1, f2⟩, k1, k2⟩ := wind_bd hw
  have hm := splitS_bs (brzL f k) 32
  rw [hs, brz_words f k hk] at hm
  have hl : (splitS s 32).length = 3 := by have := congrArg List.length hm; simpa using this
  have at_ : ∀ (j : Nat) (x : List UInt8), [dirS.getD f.toNat [], Lib.itoa k, [107, 109, 47, 104]][j]? = some x → (splitS s 32)[j]? = some (bs x) := by
    intro j x hx
    rw [← hm, List.getElem?_map, Option.map_eq_some_iff] at hx
    obtain ⟨p, hp, rfl⟩ := hx
    rw [hp, bs_data']
  refine ⟨hl, ?_, ?_, ?_⟩
  · rw [← hs, bs_size]
    unfold brzL
    rw [if_neg hk]
    have h1 := dir_short f.toNat
    have h2 := itoa_short k (by omega) (by omega)
    simp only [List.length_append, List.length_cons, List.length_nil]
    omega
  · rw [List.getD_eq_getElem?_getD, at_ 0 _ rfl]
    have e : (bs (dirS.getD f.toNat [])).data.toList = dirS.getD f.toNat [] := by unfold bs; simp
    show ixD (bs (dirS.getD f.toNat [])).data.toList = f
    rw [e, ix_dir _ (by omega)]
    omega
  · rw [nmW_at (at_ 1 _ rfl)]
    exact rdN_numS k (by omega) (by omega)
/-- The text of calm air. -/
def calmS : ByteArray := ⟨#[99, 97, 108, 109]⟩
/-- The direction and the speed that a text's words tell. -/
def brF (s : ByteArray) : Int := ixD ((splitS s 32).getD 0 ⟨#[]⟩).data.toList
noncomputable def brK (s : ByteArray) : Int := nmW (splitS s 32) 1
/-- A breeze and whether there is one. -/
def brR (b : Bool) (f k : Int) : Value := if b then .tuple #[.agg #[.int .i64 f, .int .i64 k], .bool true] else .tuple #[.agg #[.int .i64 0, .int .i64 0], .bool false]
open Classical in
/-- The breeze of a text. -/
noncomputable def brV (s : ByteArray) : Value := if s = calmS then brR true 0 0 else brR (windB (brF s) (brK s) && decide (bs (brzL (brF s) (brK s)) = s)) (brF s) (brK s)
theorem brR_shape (b : Bool) (f k : Int) : ∃ f' k' b', brR b f k = .tuple #[.agg #[.int .i64 f', .int .i64 k'], .bool b'] := by cases b <;> exact ⟨_, _, _, rfl⟩
theorem brV_shape (s : ByteArray) : ∃ f' k' b', brV s = .tuple #[.agg #[.int .i64 f', .int .i64 k'], .bool b'] := by unfold brV; split <;> exact brR_shape _ _ _
theorem br_calm : brV calmS = brR true 0 0 := by unfold brV; rw [if_pos rfl]
theorem br_zero {s : ByteArray} (h : ¬ s = calmS) {f k : Int} (he : bs (brzL f k) = s) : k ≠ 0 := by
  intro hk
  apply h
  rw [← he]
  unfold brzL
  rw [if_pos hk]; rfl
theorem br_none {s : ByteArray} (h : ¬ s = calmS) (hn : windB (brF s) (brK s) = true → ¬ bs (brzL (brF s) (brK s)) = s) : brV s = brR false 0 0 := by
  unfold brV
  rw [if_neg h]
  cases hw : windB (brF s) (brK s) with
  | false => rfl
  | true => rw [decide_eq_false (hn hw)]; rfl
theorem br_some {s : ByteArray} (h : ¬ s = calmS) (h1 : windB (brF s) (brK s) = true) (h2 : bs (brzL (brF s) (brK s)) = s) : brV s = brR true (brF s) (brK s) := by
  unfold brV
  rw [if_neg h, h1, decide_eq_true h2]; rfl
theorem br_long {s : ByteArray} (h : ¬ s = calmS) (hl : 20 < s.size) : brV s = brR false 0 0 := br_none h fun hw he => by
  have := (brz_parse hw (br_zero h he) he).2.1
  omega
theorem br_words {s : ByteArray} (h : ¬ s = calmS) (hl : ¬ (splitS s 32).length = 3) : brV s = brR false 0 0 := br_none h fun hw he => hl (brz_parse hw (br_zero h he) he).1
/-- The reference's search: a direction that fits is the one that the words tell. -/
theorem br_hit {s : ByteArray} (h : ¬ s = calmS) {f : Int} (hw : windB f (brK s) = true) (he : bs (brzL f (brK s)) = s) : brV s = brR true f (brK s) := by
  have e : brF s = f := (brz_parse hw (br_zero h he) he).2.2.1
  have := br_some (s := s) h (by rw [e]; exact hw) (by rw [e]; exact he)
  rw [this, e]
theorem br_miss {s : ByteArray} (h : ¬ s = calmS) (hn : ∀ j : Nat, j < 8 → windB (j : Int) (brK s) = true → ¬ bs (brzL (j : Int) (brK s)) = s) : brV s = brR false 0 0 := br_none h fun hw he => by
  obtain ⟨⟨f1, f2⟩, _⟩ := wind_bd hw
  have e : ((brF s).toNat : Int) = brF s := by omega
  exact hn (brF s).toNat (by omega) (by rw [e]; exact hw) (by rw [e]; exact he)
theorem br_cases {s : ByteArray} (h : ¬ s = calmS) : ∃ m b, strV (windB (brF s) (brK s)) (bs (brzL (brF s) (brK s))) = .tuple #[.string m, .bool b] ∧ (b = false → brV s = brR false 0 0) ∧ (b = true → ¬ m = s → brV s = brR false 0 0) ∧ (b = true → m = s → brV s = brR true (brF s) (brK s)) := by
  cases hf : windB (brF s) (brK s) with
  | false => exact ⟨_, _, rfl, fun _ => br_none h (by rw [hf]; intro h; cases h), (by intro h; cases h), (by intro h; cases h)⟩
  | true => exact ⟨_, _, rfl, (by intro h; cases h), fun _ hn => br_none h fun _ => hn, fun _ he => br_some h hf he⟩
end Go.Proofs.YtabedcpibnnnhaaDoor
