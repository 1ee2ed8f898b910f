/- Contracts of the functions on a terrain's value: sizes, copies, comparison, marks, validity. Conditions: as each states. -/
import Derived.Test.YtabedcpibnnnhaaDoorInts
import Derived.Test.YtabedcpibnnnhaaDoorLater
import Derived.Test.YtabedcpibnnnhaaDoorNum
import Derived.Test.YtabedcpibnnnhaaDoorAll
namespace Go.Proofs.YtabedcpibnnnhaaDoor
open Go.ChangeShapes Go.WideShapes Go.ChangeAt Go.RowKit
set_option linter.unusedVariables false
set_option linter.unusedSimpArgs false
set_option maxRecDepth 100000

/-- A terrain's value. -/
abbrev terrV (x y : Int) (u : Value) : Value := .agg #[.int .i64 x, .int .i64 y, u]
/-- A terrain is valid. -/
def terrB (x y : Int) (zs : List Int) : Bool := inB x 1 5 && inB y 1 5 && decide ((zs.length : Int) = x * y) && zs.all (fun z => inB z 0 20)
/-- A call hands back a terrain whose row is its own. -/
def RetTerr (w : World) (x y : Int) (zs : List Int) (e : Ending) (w' : World) : Prop :=
  ∃ u, e = .returned (terrV x y u) ∧ w'.ownsRow w.heap.size 3 1 u zs.length (ints zs) ∧ Below w.heap.size w w'

set_option maxHeartbeats 1000000 in
theorem eqTerrain_any (x y : Int) (u v : Value) (zs : List Int) (w : World) (hu : Sl w 1 u zs.length (ints zs)) (hv : Sl w 1 v zs.length (ints zs)) :
    Calls Tryd.prog 20 #[terrV x y u, terrV x y v] w fun e w' => e = .returned (.bool true) ∧ Below w.heap.size w w' := by
  have Hs := Lib.hid fun W hW => eqIntS_any u v zs W (hu.below (w' := W) hW) (hv.below hW)
  clear hu hv
  go_enter Tryd.func20, Tryd.ntmps20
  go_wp2_with (go_at_call 58; refine (Hs.out _ (grow_trans (grow_alloc _ _) (grow_alloc _ _))).mono ?_; rintro e w1 ⟨rfl, hb1⟩)
  go_ret
  exact ⟨rfl, grow_trans (grow_trans (grow_alloc _ _) (grow_alloc _ _)) hb1⟩
set_option maxHeartbeats 1000000 in
theorem markTerrain_any (x y : Int) (v : Value) (m : Int) (n base : Nat) (cs0 : List Value) (w : World) (h : w.ownsRow base 3 1 v n cs0) (h1 : 0 ≤ m) (h2 : m ≤ 1099511627776) (hn : n ≤ 1048576) :
    Calls Tryd.prog 21 #[terrV x y v, .int .i64 m] w (RetMark w (.int .i64 (m + n)) base v m n) := by
  have Hm := Lib.hid (markIntS_any v m n base cs0 (w.alloc (.cells #[.int .i64 x, .int .i64 y, v] 34)) (own_below h (grow_alloc _ _)) h1 h2 hn)
  have Hw := Lib.hid h
  clear h
  go_enter Tryd.func21, Tryd.ntmps21
  go_wp2_with (go_at_call 59; refine Hm.out.mono ?_; rintro e w1 ⟨rfl, ho, hg⟩)
  go_ret
  exact ⟨rfl, ho, grownBy_trans (World.grownBy_alloc _ _ _) hg⟩
set_option maxHeartbeats 2000000 in
theorem l2Good_any (x y : Int) (u : Value) (zs : List Int) (w : World) (h : Sl w 1 u zs.length (ints zs)) :
    Calls Tryd.prog 54 #[terrV x y u] w fun e w' => e = .returned (.bool (terrB x y zs)) ∧ Below w.heap.size w w' := by
  have hmx := h.len
  unfold maxLen at hmx
  obtain ⟨A, c, rfl⟩ := h.val
  cases h1 : inB x 1 5
  · have Hr : Hid (terrB x y zs = false) := by show _ = _; simp [terrB, h1]
    clear h
    go_enter Tryd.func54, Tryd.ntmps54
    go_wp2_with (go_at_call 41; refine (l1In_any _ _ _ _).mono ?_; rintro e w' ⟨rfl, rfl⟩)
    go_ret
    exact ⟨by rw [Hr.out]; rfl, grow_alloc _ _⟩
  · cases h2 : inB y 1 5
    · have Hr : Hid (terrB x y zs = false) := by show _ = _; simp [terrB, h2]
      clear h
      go_enter Tryd.func54, Tryd.ntmps54
      go_wp2_with (go_at_call 41; refine (l1In_any _ _ _ _).mono ?_; rintro e w' ⟨rfl, rfl⟩)
      go_ret
      exact ⟨by rw [Hr.out]; rfl, grow_alloc _ _⟩
    · obtain ⟨x1, x2⟩ := inB_iff.1 h1
      obtain ⟨y1, y2⟩ := inB_iff.1 h2
      obtain ⟨p1, p2⟩ := mul_bound (a := x) (b := y) (x := 5) (y := 5) (by omega) x2 (by omega) y2
      by_cases h3 : (zs.length : Int) = x * y
      · have Hr : Hid (terrB x y zs = zs.all fun z => inB z 0 20) := by show _ = _; simp [terrB, h1, h2, h3]
        have h3' : ((zs.length : Int) != x * y) = false := by simp [h3]
        have Hl := Lib.hid h3
        clear h3
        generalize hN : zs.length = N at h hmx h3' Hl
        have HN := Lib.hid hN
        have Hs := Lib.hid h
        clear hN h
        have hb0 : Below (w.alloc (.cells #[.int .i64 x, .int .i64 y, .slice A N c] 34)).heap.size (w.alloc (.cells #[.int .i64 x, .int .i64 y, .slice A N c] 34)) (w.alloc (.cells #[.int .i64 x, .int .i64 y, .slice A N c] 34)) := Below.refl _ _
        go_enter Tryd.func54, Tryd.ntmps54
        go_wp2_with (go_at_call 41; refine (l1In_any _ _ _ _).mono ?_; rintro e w' ⟨rfl, rfl⟩)
        go_loopw [3] (fun i wr => ∃ k : Nat, k ≤ N ∧ i = .int .i64 k ∧ Hid (Below (w.alloc (.cells #[.int .i64 x, .int .i64 y, .slice A N c] 34)).heap.size (w.alloc (.cells #[.int .i64 x, .int .i64 y, .slice A N c] 34)) wr) ∧ Hid (∀ j z, j < k → zs[j]? = some z → inB z 0 20 = true)) (fun i _ => N - (intOf i).toNat)
        case atStart => exact ⟨0, Nat.zero_le _, rfl, hb0, fun j z hj => by omega⟩
        case round =>
          obtain ⟨k, hk, rfl, hb, hn⟩ := hrel
          have hc := (bcell hb.out).1
          by_cases hlt : k < N
          · obtain ⟨b, off, z, rfl, hz, hcell⟩ := ((Hs.out.below (grow_alloc _ _)).below hb.out).at1 HN.out hlt
            have Hz := Lib.hid hz
            clear hz
            cases hq : inB z 0 20
            · have hres : (zs.all fun z => inB z 0 20) = false := by
                rw [List.all_eq_false]
                exact ⟨z, List.mem_of_getElem? Hz.out, by simp [hq]⟩
              have Hres := Lib.hid hres
              clear hres
              go_wp2_with (go_at_call 41; refine (l1In_any _ _ _ _).mono ?_; rintro e w' ⟨rfl, rfl⟩)
              go_ret
              exact ⟨by rw [Hr.out, Hres.out]; rfl, grow_trans (grow_alloc _ _) hb.out⟩
            · have Hq := Lib.hid hq
              go_wp2_with (go_at_call 41; refine (l1In_any _ _ _ _).mono ?_; rintro e w' ⟨rfl, rfl⟩)
              go_roundw
              case rel =>
                refine ⟨k + 1, by omega, by go_num, hb.out, fun j y hj hy => ?_⟩
                by_cases e : j = k
                · subst e
                  rw [Hz.out] at hy
                  cases hy
                  exact Hq.out
                · exact hn.out j y (by omega) hy
              case measure => simp [intOf]; omega
          · have hres : (zs.all fun z => inB z 0 20) = true := by
              rw [List.all_eq_true]
              intro z hz
              obtain ⟨j, hj, rfl⟩ := List.mem_iff_getElem.1 hz
              exact hn.out j _ (by have := HN.out; omega) (List.getElem?_eq_getElem hj)
            have Hres := Lib.hid hres
            clear hres
            go_wp2
            go_ret
            exact ⟨by rw [Hr.out, Hres.out]; rfl, grow_trans (grow_alloc _ _) hb.out⟩
      · have Hr : Hid (terrB x y zs = false) := by show _ = _; simp [terrB, h3]
        have h3' : ((zs.length : Int) != x * y) = true := by simp [h3]
        clear h3 h
        go_enter Tryd.func54, Tryd.ntmps54
        go_wp2_with (go_at_call 41; refine (l1In_any _ _ _ _).mono ?_; rintro e w' ⟨rfl, rfl⟩)
        go_ret
        exact ⟨by rw [Hr.out]; rfl, grow_alloc _ _⟩
theorem pays_cell (w : World) : Pays (Value.int .i64) 101 #[] (fun z => inB z 0 20) w := by
  intro W x hW
  go_enter Tryd.func101, Tryd.ntmps101
  go_wp2_with (go_at_call 39; refine (in_any _ _ _ _).mono ?_; rintro e w' ⟨rfl, rfl⟩)
  go_ret
  exact ⟨rfl, Below.refl _ _⟩
theorem callFunc_cell : ∀ args w, (callFunc 101 args).run Tryd.prog w = .ok (.enter 101 args) w := fun _ _ => by rfl
set_option maxHeartbeats 2000000 in
theorem IsTerrain_any (x y : Int) (u : Value) (zs : List Int) (w : World) (h : Sl w 1 u zs.length (ints zs)) :
    Calls Tryd.prog 85 #[terrV x y u] w fun e w' => e = .returned (.bool (terrB x y zs)) ∧ Below w.heap.size w w' := by
  have hmx := h.len
  unfold maxLen at hmx
  have Ha := Lib.hid fun W hW => all_int_any u zs 101 #[] (fun z => inB z 0 20) W (h.below (w' := W) hW) callFunc_cell (pays_cell W)
  obtain ⟨A, c, rfl⟩ := h.val
  clear h
  have Hr : Hid (terrB x y zs = (inB x 1 5 && inB y 1 5 && decide ((zs.length : Int) = x * y) && zs.all fun z => inB z 0 20)) := rfl
  generalize terrB x y zs = R at Hr ⊢
  generalize zs.all (fun z => inB z 0 20) = Z at Ha Hr
  generalize zs.length = N at *
  cases h1 : inB x 1 5
  · go_enter Tryd.func85, Tryd.ntmps85
    go_wp2_with (go_at_call 39; refine (in_any _ _ _ _).mono ?_; rintro e w' ⟨rfl, rfl⟩)
    go_ret
    exact ⟨by rw [Hr.out, h1]; rfl, grow_alloc _ _⟩
  · cases h2 : inB y 1 5
    · go_enter Tryd.func85, Tryd.ntmps85
      go_wp2_with (go_at_call 39; refine (in_any _ _ _ _).mono ?_; rintro e w' ⟨rfl, rfl⟩)
      go_ret
      exact ⟨by rw [Hr.out, h2]; simp, grow_alloc _ _⟩
    · obtain ⟨x1, x2⟩ := inB_iff.1 h1
      obtain ⟨y1, y2⟩ := inB_iff.1 h2
      obtain ⟨p1, p2⟩ := mul_bound (a := x) (b := y) (x := 5) (y := 5) (by omega) x2 (by omega) y2
      by_cases h3 : (N : Int) = x * y
      · have h3' : ((N : Int) == x * y) = true := by simp [h3]
        have Hq : Hid (R = Z) := by show R = Z; rw [Hr.out, h1, h2]; simp [h3]
        clear h3
        go_enter Tryd.func85, Tryd.ntmps85
        go_wp2_with (first | (go_at_call 39; refine (in_any _ _ _ _).mono ?_; rintro e w' ⟨rfl, rfl⟩) | (go_at_call 100; refine (Ha.out _ (grow_alloc _ _)).mono ?_; rintro e w1 ⟨rfl, hb1⟩))
        go_ret
        exact ⟨by rw [Hq.out]; rfl, grow_trans (grow_alloc _ _) hb1⟩
      · have h3' : ((N : Int) == x * y) = false := by simp [h3]
        have Hq : Hid (R = false) := by show R = false; rw [Hr.out]; simp [h3]
        clear h3
        go_enter Tryd.func85, Tryd.ntmps85
        go_wp2_with (go_at_call 39; refine (in_any _ _ _ _).mono ?_; rintro e w' ⟨rfl, rfl⟩)
        go_ret
        exact ⟨by rw [Hq.out]; rfl, grow_alloc _ _⟩
end Go.Proofs.YtabedcpibnnnhaaDoor
