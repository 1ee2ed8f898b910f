/- PartsOf in the program and in the reference. Conditions: as each states. -/
import Derived.Test.YtjobjdmheocheaaPieces
import Derived.Test.YtjobjdmheocheaaRowLaw
import Derived.Test.YtjobjdmheocheaaSpread
namespace Go.Proofs.Ytjobjdmheocheaa
open Go.ChangeShapes Go.WideShapes Go.ChangeAt Go.RowKit Go.Deep
set_option linter.unusedVariables false
set_option linter.unusedSimpArgs false
set_option maxRecDepth 100000

/-- Rows, if there are. -/
def selRR (b : Bool) (xss : List (List Int)) : List (List Int) := if b then xss else []
/-- A call hands back rows of its own, and a Bool. -/
def RetRR (w : World) (xss : List (List Int)) (ok : Bool) (e : Ending) (w' : World) : Prop :=
  ∃ u vs, e = .returned (.tuple #[u, .bool ok]) ∧ RowsV w' w.heap.size u vs xss ∧ Below w.heap.size w w'
/-- The same of rows that are read alone. -/
def RetRW (w : World) (xss : List (List Int)) (ok : Bool) (e : Ending) (w' : World) : Prop :=
  ∃ u vs, e = .returned (.tuple #[u, .bool ok]) ∧ RowsW w' w.heap.size w'.heap.size u vs xss ∧ Below w.heap.size w w'
/-- The part of a region that holds a cell. -/
noncomputable def partL (x : Int) (N : Nat) (rg : List Int) (c : Int) : List Int := rchL (fun d => d = c) (fun a b => (0 ≤ b ∧ b ≤ (N : Int) - 1) ∧ (hasB rg b && (apartN x a b == 1)) = true) N
theorem part_cls {x : Int} {N : Nat} {rg : List Int} (hN : ∀ c ∈ rg, 0 ≤ c ∧ c ≤ (N : Int) - 1) : Cls (partL x N rg) rg := by
  refine Cls.of_rch (fun a b ha h => ?_) (fun a b h => ?_) hN
  · simp only [Bool.and_eq_true, beq_iff_eq] at h ⊢
    exact ⟨hN a ha, hasB_iff.2 ha, by rw [apartN_comm]; exact h.2.2⟩
  · simp only [Bool.and_eq_true] at h
    exact hasB_iff.1 h.2.1
theorem part_spr {x : Int} {N : Nat} {rg : List Int} {c : Int} (hc : c ∈ rg) : rchL (sprS rg true c) (sprT x N rg true) N = partL x N rg c := by
  refine rchL_congr (fun d => ?_) (fun a b => ?_)
  · unfold sprS
    exact ⟨fun h => h.1, fun h => ⟨h, by rw [h]; exact hasB_iff.2 hc⟩⟩
  · unfold sprT nbL
    simp only [if_true, selN_mem, near_iff, Bool.and_eq_true, beq_iff_eq]
    constructor
    · rintro ⟨⟨k, hk, h1, rfl⟩, h2⟩
      exact ⟨by omega, h2, by rw [apartN_comm]; exact h1⟩
    · rintro ⟨⟨h0, h1⟩, h2, h3⟩
      exact ⟨⟨b.toNat, by omega, by rw [show ((b.toNat : Nat) : Int) = b by omega, apartN_comm]; exact h3, by omega⟩, h2⟩
theorem callFunc_prt : ∀ args w, (callFunc 86 args).run Try.prog w = .ok (.enter 86 args) w := fun _ _ => by rfl
theorem prt1_any (x y : Int) (u : Value) (B : Nat) (a b : Int) (w : World) (hT : TB w B x y u) (h1 : 1 ≤ x) (h2 : x ≤ 5) (h3 : 0 ≤ a) (h4 : a ≤ 25) (h5 : 0 ≤ b) (h6 : b ≤ 25) :
    Calls Try.prog 86 #[.int .i64 a, .int .i64 b, .pointer (some ⟨B, 0, none⟩)] w fun e w' => e = .returned (.bool (apartN x a b == 1)) ∧ Below w.heap.size w w' := by
  have HA := Lib.hid (apart_any x y u a b w h1 h2 h3 h4 h5 h6)
  obtain ⟨t0, t1, t2⟩ := hT
  generalize apartN x a b = p at *
  go_enter Try.func86, Try.ntmps86
  go_wp2_with fail
  with_reducible refine HA.out.mono ?_
  rintro e w1 ⟨rfl, hb1⟩
  go_wp2
  go_ret
  exact ⟨rfl, hb1⟩
set_option maxHeartbeats 2000000 in
theorem PartsOf_any (x y : Int) (u : Value) (zs : List Int) (va : Value) (xs : List Int) (w : World) (h : Sl w 1 u zs.length (ints zs)) (ha : Sl w 1 va xs.length (ints xs)) :
    Calls Try.prog 42 #[terrV x y u, va] w (RetRR w (selRR (oneB x y zs xs) (pcs (partL x zs.length xs) xs)) (oneB x y zs xs)) := by
  obtain ⟨A, c, rfl⟩ := h.val
  obtain ⟨Aa, ca, rfl⟩ := ha.val
  have hb0 : Hid (Below w.heap.size w ((w.alloc (.cells #[.int .i64 x, .int .i64 y, .slice A zs.length c] 28)).alloc (.cells #[.slice Aa xs.length ca] 22))) := two_news _ _ _
  have hTB0 : Hid (TB ((w.alloc (.cells #[.int .i64 x, .int .i64 y, .slice A zs.length c] 28)).alloc (.cells #[.slice Aa xs.length ca] 22)) w.heap.size x y (.slice A zs.length c)) := by show TB _ _ _ _ _; unfold TB; simp [go_sem]
  have HR := Lib.hid (isRegion_one x y _ zs (.slice (some ⟨w.heap.size + 1, 0, none⟩) 1 1) _ xs ((w.alloc (.cells #[.int .i64 x, .int .i64 y, .slice A zs.length c] 28)).alloc (.cells #[.slice Aa xs.length ca] 22)) (h.below hb0.out) (Sl.boxAt (hp2 _ _ _)) (ha.below hb0.out))
  have HF : Hid (oneB x y zs xs = true → ∀ W, Below w.heap.size w W → TB W w.heap.size x y (.slice A zs.length c) → Calls Try.prog 85 #[terrV x y (.slice A zs.length c), .slice Aa xs.length ca, .func (.func 86) #[] #[.pointer (some ⟨w.heap.size, 0, none⟩)]] W (RetRows W (pcs (partL x zs.length xs) xs))) := by
    show _ → _
    intro hT W hW hTB
    obtain ⟨⟨hx1, hx2⟩, hzl, hr1, hr2, hxl⟩ := one_facts hT
    exact pieces_any x y (.slice A zs.length c) zs (.slice Aa xs.length ca) xs 86 #[] #[.pointer (some ⟨w.heap.size, 0, none⟩)] (fun a b => apartN x a b == 1) W (h.below hW) (ha.below hW) hzl (by omega) hr2 callFunc_prt
      (fun W' a b ha1 ha2 hb1 hb2 hW' => by
        have := prt1_any x y _ w.heap.size a b W' (hTB.below hW') hx1 hx2 ha1 (by omega) hb1 (by omega)
        simpa using this)
  clear h ha
  generalize oneB x y zs xs = T at *
  generalize pcs (partL x zs.length xs) xs = L at *
  generalize zs.length = N at *
  generalize xs.length = M at *
  cases T
  · go_enter Try.func42, Try.ntmps42
    go_wp2_with fail
    with_reducible refine HR.out.mono ?_
    rintro e w1 ⟨rfl, hb1⟩
    have hb1 := Lib.hid (grow_trans hb0.out hb1)
    go_wp2
    exact bodyPost_ret (v := .tuple #[.slice none 0 0, .bool false]) (by simp [results, Try.results42, go_sem]) rfl ⟨_, [], rfl, RowsV.nil (Qw.nil _ _ _ _), hb1.out⟩
  · have HG := Lib.hid (HF.out rfl)
    clear HF
    go_enter Try.func42, Try.ntmps42
    go_wp2_with fail
    with_reducible refine HR.out.mono ?_
    rintro e w1 ⟨rfl, hb1⟩
    have hT1 := hTB0.out.below hb1
    have hb2 := Lib.hid (grow_trans hb0.out hb1)
    have HC := Lib.hid (HG.out w1 hb2.out hT1)
    obtain ⟨t0, t1, t2⟩ := hT1
    clear hb1
    go_wp2_with fail
    with_reducible refine HC.out.mono ?_
    rintro e w2 ⟨v, vs, rfl, ho, hb3⟩
    have ho := Lib.hid (ho.lower hb2.out.size)
    have hb3 := Lib.hid (grow_trans hb2.out hb3)
    go_wp2
    exact bodyPost_ret (v := .tuple #[v, .bool true]) (by simp [results, Try.results42, go_sem]) rfl ⟨_, vs, rfl, ho.out, hb3.out⟩
end Go.Proofs.Ytjobjdmheocheaa
