/- The holes of a region, in the program. Conditions: as each states. -/
import Derived.Test.YtjobjdmheocheaaHoles2
namespace Go.Proofs.Ytjobjdmheocheaa
open Go.ChangeShapes Go.WideShapes Go.ChangeAt Go.RowKit Go.Deep
set_option linter.unusedVariables false
set_option linter.unusedSimpArgs false
set_option maxRecDepth 100000

theorem along_sym (x a b : Int) : alongB x a b = alongB x b a := by
  unfold alongB
  rw [Bool.eq_iff_iff]
  simp only [Bool.or_eq_true, beq_iff_eq]
  exact ⟨fun h => by rcases h with h | h; exact .inl h.symm; exact .inr h.symm, fun h => by rcases h with h | h; exact .inl h.symm; exact .inr h.symm⟩
/-- The cells outside a region. -/
def outL (N : Nat) (rg : List Int) : List Int := selN (fun k => !hasB rg k) N
/-- The part outside a region that holds a cell. -/
noncomputable def gapL (x : Int) (N : Nat) (rg : List Int) (c : Int) : List Int := rchL (fun d => d = c) (fun a b => (0 ≤ b ∧ b ≤ (N : Int) - 1) ∧ (hasB (outL N rg) b && besB x a b) = true) N
/-- The holes of a region. -/
noncomputable def holL (x y : Int) (N : Nat) (rg : List Int) : List (List Int) := (pcs (gapL x N rg) (outL N rg)).filter fun p => p.all fun c => !brdB x y c
theorem outL_iff {N : Nat} {rg : List Int} {c : Int} : c ∈ outL N rg ↔ (0 ≤ c ∧ c ≤ (N : Int) - 1) ∧ hasB rg c = false := by
  unfold outL
  rw [selN_mem]
  constructor
  · rintro ⟨k, hk, h, rfl⟩; exact ⟨by omega, by simpa using h⟩
  · rintro ⟨h1, h2⟩
    have e : ((c.toNat : Nat) : Int) = c := by omega
    exact ⟨c.toNat, by omega, by rw [e, h2]; rfl, e.symm⟩
theorem gap_cls {x : Int} {N : Nat} {rg : List Int} : Cls (gapL x N rg) (outL N rg) := by
  refine Cls.of_rch (fun a b ha h => ?_) (fun a b h => ?_) (fun c hc => (outL_iff.1 hc).1)
  · simp only [Bool.and_eq_true, besB, beq_iff_eq] at h ⊢
    exact ⟨(outL_iff.1 ha).1, hasB_iff.2 ha, by rw [apartN_comm]; exact h.2.2.1, by rw [along_sym]; exact h.2.2.2⟩
  · simp only [Bool.and_eq_true] at h
    exact hasB_iff.1 h.2.1
theorem gap_spr {x : Int} {N : Nat} {rg : List Int} {c : Int} (hc : c ∈ outL N rg) : rchL (sprS rg false c) (sprT x N rg false) N = gapL x N rg c := by
  refine rchL_congr (fun d => ?_) (fun a b => ?_)
  · unfold sprS
    exact ⟨fun h => h.1, fun h => ⟨h, by rw [h]; exact (outL_iff.1 hc).2⟩⟩
  · unfold sprT nbL
    simp only [Bool.false_eq_true, if_false, List.mem_filter, selN_mem, near_iff, Bool.and_eq_true, besB, beq_iff_eq, hasB_iff, outL_iff]
    constructor
    · rintro ⟨⟨⟨k, hk, h1, rfl⟩, h2⟩, h3⟩
      exact ⟨by omega, ⟨by omega, h3⟩, by rw [apartN_comm]; exact h1, by rw [along_sym]; exact h2⟩
    · rintro ⟨h0, ⟨_, h3⟩, h1, h2⟩
      exact ⟨⟨⟨b.toNat, by omega, by rw [show ((b.toNat : Nat) : Int) = b by omega, apartN_comm]; exact h1, by omega⟩, by rw [along_sym]; exact h2⟩, h3⟩
set_option maxHeartbeats 4000000 in
theorem holes_any (x y : Int) (u : Value) (zs : List Int) (va : Value) (xs : List Int) (w : World) (h : Sl w 1 u zs.length (ints zs)) (ha : Sl w 1 va xs.length (ints xs)) (h1 : 1 ≤ x) (h2 : x ≤ 5) (y1 : 1 ≤ y) (y2 : y ≤ 5) (hm25 : zs.length ≤ 25) :
    Calls Try.prog 88 #[terrV x y u, va] w (RetRows w (holL x y zs.length xs)) := by
  have hol : (outL zs.length xs).length ≤ 25 := Nat.le_trans (selN_le _ _) hm25
  have HS := Lib.hid fun W (hW : Below w.heap.size w W) (hC : W.cell? ⟨w.heap.size + 1, 0, none⟩ = some va) => cellsThat_any x y u zs 110 #[] #[.pointer (some ⟨w.heap.size + 1, 0, none⟩)] (fun k => !hasB xs k) W (h.below hW) (by omega) callFunc_hol1
    (fun W' k hk hW' => by
      have := hol1_any va xs (w.heap.size + 1) k W' (cell_below hC hW') (ha.below (grow_trans hW hW'))
      simpa using this)
  have HP := Lib.hid fun W nv (hW : Below w.heap.size w W) (hnv : Sl W 1 nv (outL zs.length xs).length (ints (outL zs.length xs))) => pieces_any x y u zs nv (outL zs.length xs) 68 #[terrV x y u] #[] (besB x) W (h.below hW) hnv hm25 hol (fun z hz => (outL_iff.1 hz).1) callFunc_beside
    (fun W' a b ha1 ha2 hb1 hb2 hW' => by
      have := beside_any x y u a b W' h1 h2 ha1 (by omega) hb1 (by omega)
      simpa using this)
  have hpl : (pcs (gapL x zs.length xs) (outL zs.length xs)).length ≤ 1048576 := by
    have := pcs_le (gapL x zs.length xs) (outL zs.length xs) (outL zs.length xs).length
    rw [List.take_length] at this
    omega
  have hpi : ∀ p ∈ pcs (gapL x zs.length xs) (outL zs.length xs), ∀ z ∈ p, 0 ≤ z ∧ z ≤ 25 := fun p hp z hz => by
    rw [pcs_eq gap_cls (selN_rise _ _)] at hp
    unfold heads at hp
    obtain ⟨c, _, rfl⟩ := List.mem_map.1 hp
    have := (mem_rchL.1 hz).1
    omega
  have HFl := Lib.hid fun W B v vs (hR : RowsV W B v vs (pcs (gapL x zs.length xs) (outL zs.length xs))) (hB : B ≤ W.heap.size) (hT : TB W w.heap.size x y u) => filter_rows_any v vs _ B 112 #[.pointer (some ⟨w.heap.size, 0, none⟩)] (fun p => p.all fun c => !brdB x y c) W hR hB hpl callFunc_hol2
    (fun W' i u' l hu hl hW' => by
      have := hol2_any x y u w.heap.size u' l W' (hT.below hW') (Sl.of_own (own_below (hR.row i u' l hu hl) hW')) h1 h2 y1 y2 (hpi l (List.mem_of_getElem? hl))
      simpa using this)
  obtain ⟨A, c, rfl⟩ := h.val
  obtain ⟨Aa, ca, rfl⟩ := ha.val
  have hTB0 : Hid (TB ((w.alloc (.cells #[.int .i64 x, .int .i64 y, .slice A zs.length c] 28)).alloc (.cells #[.slice Aa xs.length ca] 22)) w.heap.size x y (.slice A zs.length c)) := by show TB _ _ _ _ _; unfold TB; simp [go_sem]
  have hC0 : ((w.alloc (.cells #[.int .i64 x, .int .i64 y, .slice A zs.length c] 28)).alloc (.cells #[.slice Aa xs.length ca] 22)).cell? ⟨w.heap.size + 1, 0, none⟩ = some (.slice Aa xs.length ca) := by simp [go_sem]
  have hb0 : Hid (Below w.heap.size w ((w.alloc (.cells #[.int .i64 x, .int .i64 y, .slice A zs.length c] 28)).alloc (.cells #[.slice Aa xs.length ca] 22))) := two_news _ _ _
  have HC1 := Lib.hid (HS.out _ hb0.out hC0)
  have HX : Hid (holL x y zs.length xs = (pcs (gapL x zs.length xs) (outL zs.length xs)).filter fun p => p.all fun c => !brdB x y c) := rfl
  have HO : Hid (selN (fun k => !hasB xs k) zs.length = outL zs.length xs) := rfl
  rw [HO.out] at HC1
  have HP2 : Hid (∀ W nv, Below w.heap.size w W → Sl W 1 nv (outL zs.length xs).length (ints (outL zs.length xs)) → Calls Try.prog 85 #[terrV x y (.slice A zs.length c), nv, .func (.func 68) #[terrV x y (.slice A zs.length c)] #[]] W (RetRows W (pcs (gapL x zs.length xs) (outL zs.length xs)))) := HP.out
  clear h ha hC0 HS HP hpl hpi HO hol
  generalize holL x y zs.length xs = L at *
  generalize pcs (gapL x zs.length xs) (outL zs.length xs) = PL at *
  generalize outL zs.length xs = OL at *
  generalize zs.length = N at *
  generalize xs.length = M at *
  go_enter Try.func88, Try.ntmps88
  go_wp2_with fail
  with_reducible refine HC1.out.mono ?_
  rintro e w1 ⟨nv, rfl, on, hb1⟩
  have hT1 := Lib.hid (hTB0.out.below hb1)
  have hb2 := Lib.hid (grow_trans hb0.out hb1)
  have on := Lib.hid (Sl.of_own on)
  have HCP := Lib.hid (HP2.out w1 nv hb2.out on.out)
  obtain ⟨t0, t1, t2⟩ := hT1.out
  clear hb1 HC1 HP2
  go_wp2_with fail
  with_reducible refine HCP.out.mono ?_
  rintro e w2 ⟨v2, vs2, rfl, hR2, hb3⟩
  have hT2 := Lib.hid (hT1.out.below hb3)
  have HCF := Lib.hid (HFl.out w2 _ v2 vs2 hR2 hb3.size hT2.out)
  have hs2 := hb2.out.size
  have hb4 := Lib.hid (grow_trans hb2.out hb3)
  clear hb3 HCP HFl hR2 t0 t1 t2
  go_wp2_with fail
  with_reducible refine HCF.out.mono ?_
  rintro e w3 ⟨v3, vs3, rfl, hR3, hb5⟩
  have hR3 := Lib.hid (hR3.lower hs2)
  have hb6 := Lib.hid (grow_trans hb4.out hb5)
  clear hb5 HCF
  go_wp2
  go_ret
  exact ⟨_, vs3, rfl, by rw [HX.out]; exact hR3.out, hb6.out⟩
end Go.Proofs.Ytjobjdmheocheaa
