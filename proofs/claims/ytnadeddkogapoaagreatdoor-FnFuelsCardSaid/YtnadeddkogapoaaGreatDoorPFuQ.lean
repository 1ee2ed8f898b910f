/- A fuel's text tells the fuel; the names of fuels that burn. Plain law. Conditions: as each states. -/
import Derived.Test.YtnadeddkogapoaaGreatDoorPFuel
import Derived.Test.YtnadeddkogapoaaGreatDoorBurnF
namespace Go.Proofs.YtnadeddkogapoaaGreatDoor
open Go.ChangeShapes Go.WideShapes Go.ChangeAt Go.RowKit Go.Deep
set_option linter.unusedVariables false
set_option linter.unusedSimpArgs false
set_option maxRecDepth 100000

/-- Words joined and split again. -/
theorem spL_join (c : UInt8) : ∀ (ps : List (List UInt8)), ps ≠ [] → (∀ p ∈ ps, c ∉ p) → spL c (Lib.join ps [c]) = ps
  | [], h, _ => absurd rfl h
  | [p], _, hf => by rw [Lib.join_one]; exact spL_free (hf p (by simp))
  | p :: q :: t, _, hf => by
    have ih := spL_join c (q :: t) (by simp) (fun x hx => hf x (List.mem_cons_of_mem _ hx))
    have e : Lib.join (p :: q :: t) [c] = p ++ c :: Lib.join (q :: t) [c] := by
      rw [Lib.join_cons, Lib.join_cons]
      simp [Lib.joinTail]
    rw [e, spL_cut _ (hf p (by simp)), ih]
theorem data_map {xs ys : List ByteArray} (h : xs.map (·.data.toList) = ys.map (·.data.toList)) : xs = ys := by
  induction xs generalizing ys with
  | nil => cases ys with
    | nil => rfl
    | cons y ys => simp at h
  | cons x xs ih => cases ys with
    | nil => simp at h
    | cons y ys =>
      simp only [List.map_cons, List.cons.injEq] at h
      rw [data_inj h.1, ih h.2]
theorem numS_list (n : Int) : (numS n).data.toList = Lib.itoa n := by unfold numS bs; simp
theorem word_free {n : ByteArray} (h : wordB n.data.toList = true) : (32 : UInt8) ∉ n.data.toList := by
  intro hm
  unfold wordB at h
  simp only [Bool.and_eq_true] at h
  have := h.1
  unfold lowers at this
  rw [List.all_eq_true] at this
  have := this _ hm
  revert this
  decide
theorem fuel_parts {i : Int} {n : List UInt8} {r l o : Int} (h : fuelB i n r l o = true) : (1 ≤ i ∧ i ≤ 99) ∧ wordB n = true ∧ (1 ≤ r ∧ r ≤ 1000) ∧ (10 ≤ l ∧ l ≤ 400) ∧ (1 ≤ o ∧ o ≤ 500) := by
  unfold fuelB at h
  simp only [Bool.and_eq_true, inB_iff] at h
  obtain ⟨⟨⟨⟨h1, h2⟩, h3⟩, h4⟩, h5⟩ := h
  exact ⟨h1, h2, h3, h4, h5⟩
theorem fuT_split {i : Int} {n : ByteArray} {r l o : Int} (h : fuelB i n.data.toList r l o = true) : splitS (fuT i n r l o) 32 = fuW i n r l o := by
  obtain ⟨_, hw, _, _, _⟩ := fuel_parts h
  apply data_map
  unfold fuT jnS
  rw [splitS_bs]
  have e8 : (fuW i n r l o).take 8 = fuW i n r l o := rfl
  rw [e8, spL_join]
  · simp [fuW]
  · intro p hp
    simp only [fuW, List.map_cons, List.map_nil, List.mem_cons, List.not_mem_nil, or_false, numS_list] at hp
    rcases hp with rfl | rfl | rfl | rfl | rfl | rfl | rfl | rfl
    · exact itoa_free _ _ (by decide)
    · exact word_free hw
    · decide
    · exact itoa_free _ _ (by decide)
    · decide
    · exact itoa_free _ _ (by decide)
    · decide
    · exact itoa_free _ _ (by decide)
/-- A valid fuel's text tells the fuel. -/
theorem pf_text {i : Int} {n : ByteArray} {r l o : Int} (h : fuelB i n.data.toList r l o = true) : pfV (fuT i n r l o) (splitS (fuT i n r l o) 32) = .tuple #[fuV i n r l o, .bool true] := by
  obtain ⟨h1, _, h3, h4, h5⟩ := fuel_parts h
  rw [fuT_split h]
  have e0 : nmW (fuW i n r l o) 0 = i := by rw [nmW_at (x := numS i) rfl]; exact rdN_numS i (by omega) (by omega)
  have e3 : nmW (fuW i n r l o) 3 = r := by rw [nmW_at (x := numS r) rfl]; exact rdN_numS r (by omega) (by omega)
  have e5 : nmW (fuW i n r l o) 5 = l := by rw [nmW_at (x := numS l) rfl]; exact rdN_numS l (by omega) (by omega)
  have e7 : nmW (fuW i n r l o) 7 = o := by rw [nmW_at (x := numS o) rfl]; exact rdN_numS o (by omega) (by omega)
  have e1 : (fuW i n r l o).getD 1 ⟨#[]⟩ = n := rfl
  have := pf_yes (s := fuT i n r l o) (ws := fuW i n r l o) rfl (by rw [e0, e1, e3, e5, e7]; exact h) (by rw [e0, e1, e3, e5, e7])
  rw [this, e0, e1, e3, e5, e7]
theorem fu_small {i : Int} {n : ByteArray} {r l o : Int} (h : fuelB i n.data.toList r l o = true) : (fuT i n r l o).size ≤ 60 := by
  obtain ⟨h1, h2, h3, h4, h5⟩ := fuel_parts h
  exact fuT_size (by omega) (word_size h2) (by omega) (by omega) (by omega)
theorem fu_strV (i : Int) (n : ByteArray) (r l o : Int) : ∃ m b, strV (fuelB i n.data.toList r l o) (fuT i n r l o) = .tuple #[.string m, .bool b] ∧ m.size ≤ 60 := by
  cases h : fuelB i n.data.toList r l o with
  | false => exact ⟨⟨#[]⟩, _, rfl, by decide⟩
  | true => exact ⟨_, _, rfl, fu_small h⟩
theorem pfV_shape (s : ByteArray) (ws : List ByteArray) : ∃ i n r l o b, pfV s ws = .tuple #[fuV i n r l o, .bool b] := fuR_shape _ _ _ _ _ _
/-- Whether a fuel burns is told by whether its name is there. -/
theorem burn_law {ps : List Fu} {m : Int} {k : Nat} {i r l o : Int} {n : ByteArray} (hb : bfB ps m = true) (hx : ps[k]? = some ⟨i, n, r, l, o⟩) :
    okR (fuelB i n.data.toList r l o && inB m 0 400 && inB 0 (-45) 45) (speedN r l m 0) = .tuple #[.int .i64 (speedN r l m 0), .bool true] ∧ decide (n.data.toList ∈ bfL ps m) = decide (0 < speedN r l m 0) := by
  unfold bfB at hb
  simp only [Bool.and_eq_true] at hb
  obtain ⟨ha, hm⟩ := hb
  obtain ⟨_, hf, _, hd⟩ := are_facts ha
  refine ⟨?_, ?_⟩
  · have := hf k _ hx
    unfold fuB at this
    simp only at this
    rw [this, hm]; rfl
  · rw [decide_eq_decide]
    have hbf : bfL ps m = srtL (bnL ps m ps.length) := bf_yes (by unfold bfB; rw [ha, hm]; rfl)
    have hmem : n.data.toList ∈ bfL ps m ↔ n.data.toList ∈ bnL ps m ps.length := by rw [hbf]; exact (List.mergeSort_perm _ _).mem_iff
    rw [hmem]
    unfold bnL
    rw [List.take_length]
    simp only [List.mem_map, List.mem_filter, decide_eq_true_eq]
    constructor
    · rintro ⟨p, ⟨hp, hs⟩, he⟩
      obtain ⟨j, hj, rfl⟩ := List.mem_iff_getElem.1 hp
      have hk := (List.getElem?_eq_some_iff.1 hx).1
      have hn : nmF ps j = nmF ps k := by
        unfold nmF
        rw [hx, List.getElem?_eq_getElem hj]
        exact data_inj he
      have : j = k := by
        rcases Nat.lt_trichotomy j k with h | h | h
        · exact absurd hn (hd j k h hk)
        · exact h
        · exact absurd hn.symm (hd k j h hj)
      subst this
      rw [List.getElem?_eq_getElem hj] at hx
      injection hx with hx
      rw [hx] at hs
      exact hs
    · intro h
      exact ⟨_, ⟨List.mem_of_getElem? hx, h⟩, rfl⟩
end Go.Proofs.YtnadeddkogapoaaGreatDoor
