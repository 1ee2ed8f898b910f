/- The hours in which the wind turns, in the program and in the reference. Conditions: none; each stands at any arguments. -/
import Derived.Test.YtabedcpibnnnhaaSumP
import Derived.Test.YtabedcpibnnnhaaSel
namespace Go.Proofs.Ytabedcpibnnnhaa
open Go.ChangeShapes Go.WideShapes Go.ChangeAt Go.RowKit Go.Deep
set_option linter.unusedVariables false
set_option linter.unusedSimpArgs false
set_option maxRecDepth 100000

/-- Where the wind came from last among the first k hours, or -1. -/
def shL (ps : List Wx) : Nat → Int
  | 0 => -1
  | k + 1 => match ps[k]? with | none => shL ps k | some x => if x.s = 0 then shL ps k else x.f
/-- The hours below k in which the wind turns by t or more. -/
def shO (ps : List Wx) (t : Int) : Nat → List Int
  | 0 => []
  | k + 1 => match ps[k]? with | none => shO ps t k | some x => if x.s = 0 then shO ps t k else if 0 ≤ shL ps k ∧ t ≤ turnN (shL ps k) x.f then shO ps t k ++ [(k : Int)] else shO ps t k
theorem shO_le (ps : List Wx) (t : Int) (k : Nat) : (shO ps t k).length ≤ k := by
  induction k with
  | zero => simp [shO]
  | succ k ih =>
    simp only [shO]
    split
    · omega
    · split
      · omega
      · split
        · simp; omega
        · omega
theorem shL_bd {ps : List Wx} (h : foreB ps = true) (k : Nat) : -1 ≤ shL ps k ∧ shL ps k ≤ 7 := by
  induction k with
  | zero => simp [shL]
  | succ k ih =>
    simp only [shL]
    split
    · exact ih
    · rename_i x hx
      split
      · exact ih
      · have := windB_iff.1 (fore_at h hx)
        omega
theorem sh_calm {ps : List Wx} {t : Int} {k : Nat} {f g r : Int} (h : ps[k]? = some ⟨f, 0, g, r⟩) : shL ps (k + 1) = shL ps k ∧ shO ps t (k + 1) = shO ps t k := by simp [shL, shO, h]
theorem sh_yes {ps : List Wx} {t : Int} {k : Nat} {f s g r l : Int} (h : ps[k]? = some ⟨f, s, g, r⟩) (hs : s ≠ 0) (hl : shL ps k = l) (h1 : 0 ≤ l) (h2 : t ≤ turnN l f) : shL ps (k + 1) = f ∧ shO ps t (k + 1) = shO ps t k ++ [(k : Int)] := by
  subst hl; simp [shL, shO, h, hs, h1, h2]
theorem sh_no {ps : List Wx} {t : Int} {k : Nat} {f s g r l : Int} (h : ps[k]? = some ⟨f, s, g, r⟩) (hs : s ≠ 0) (hl : shL ps k = l) (h1 : ¬ (0 ≤ l ∧ t ≤ turnN l f)) : shL ps (k + 1) = f ∧ shO ps t (k + 1) = shO ps t k := by
  subst hl; simp only [shL, shO, h, hs, if_false, if_neg h1]; exact ⟨trivial, trivial⟩
theorem own_snoc {B : Nat} {e : TypeId} {w1 : World} {v : Value} {xs ys : List Int} {x : Int} (hy : ys = xs ++ [x]) (h : w1.ownsRow B e 1 v (xs.length + 1) (ints xs ++ [.int .i64 x])) : w1.ownsRow B e 1 v ys.length (ints ys) := by
  rw [hy]; simpa using h
set_option maxHeartbeats 8000000 in
theorem sWindShifts_yes (A : Option Addr) (c : Nat) (ps : List Wx) (t : Int) (w : World) (hs : Sl w 4 (.slice A ps.length c) ps.length (wxs ps)) (hF : foreB ps = true) (hT : inB t 1 4 = true) :
    Calls Try.prog 34 #[.slice A ps.length c, .int .i64 t] w (RetSel w (shO ps t ps.length) true) := by
  have HA := Lib.hid fun W hW => l5Good_any _ ps W (hs.below (w' := W) hW)
  rw [hF] at HA
  obtain ⟨n1, n2⟩ := fore_len hF
  obtain ⟨t0, t1⟩ := inB_iff.1 hT
  obtain ⟨i0, hi, hz0, hz1, hz2⟩ := info_parts info_int
  have HF := Lib.hid hF
  generalize hN : ps.length = N at *
  have HN := Lib.hid hN
  have Hs := Lib.hid hs
  clear hN hs hF
  go_enter Try.func34, Try.ntmps34
  go_wp2_with fail
  with_reducible refine (HA.out _ (grow_alloc _ _)).mono ?_
  rintro e w1 ⟨rfl, hb1⟩
  have ho0 : Hid ((w.alloc (.cells #[] 3)).ownsRow w.heap.size 3 1 (.slice (some ⟨w.heap.size, 0, none⟩) 0 0) 0 []) := by
    show World.ownsRow _ _ _ _ _ _ _
    have := World.ownsRow_lit (base := w.heap.size) (e := 3) (size := 1) w #[] 0 (Nat.le_refl _) (by unfold maxLen; omega) rfl
    simpa using this
  have ho1 := Lib.hid (own_below ho0.out hb1)
  have hb2 := Lib.hid (grow_trans (grow_alloc _ _) hb1)
  clear hb1
  go_wp2_with (go_at_call 61; refine (l1In_any _ _ _ _).mono ?_; rintro e w' ⟨rfl, rfl⟩; rw [hT])
  go_loopw [6, 7, 8] (fun v q i wr => ∃ k : Nat, k ≤ N ∧ i = .int .i64 k ∧ q = .int .i64 (shL ps k) ∧ Hid (Below w.heap.size w wr) ∧ Hid (wr.ownsRow w.heap.size 3 1 v (shO ps t k).length (ints (shO ps t k)))) (fun _ _ i _ => N - (intOf i).toNat)
  case atStart => exact ⟨0, Nat.zero_le _, rfl, rfl, hb2, ho1⟩
  case round =>
    obtain ⟨k, hk, rfl, rfl, hb, ho⟩ := hrel
    by_cases hlt : k < N
    · obtain ⟨b, off, f, s, g, r, rfl, hx, c0, c1, c2, c3⟩ := (Hs.out.below hb.out).wx HN.out hlt
      have hw := windB_iff.1 (fore_at HF.out hx)
      obtain ⟨⟨f0, f1⟩, ⟨s0, s1⟩, _⟩ := hw
      obtain ⟨l0, l1⟩ := shL_bd HF.out k
      have hle := shO_le ps t k
      have Hx := Lib.hid hx
      have hba := Lib.hid (hb.out.alloc hb.out.size (.cells #[.int .i64 f, .int .i64 s] 51))
      have hoa := Lib.hid (ho.out.alloc (.cells #[.int .i64 f, .int .i64 s] 51))
      have hsz := hb.out.size
      clear hx
      generalize hl : shL ps k = l at *
      have Hl := Lib.hid hl
      clear hl
      by_cases hs0 : s = 0
      · subst hs0
        obtain ⟨e1, e2⟩ := sh_calm (t := t) Hx.out
        have E1 := Lib.hid (e1.trans Hl.out)
        have E2 := Lib.hid e2
        clear e1 e2
        go_wp2
        go_roundw
        case rel => exact ⟨k + 1, by omega, by go_num, by rw [E1.out], hba.out, by show _; rw [E2.out]; exact hoa.out⟩
        case measure => simp [intOf]; omega
      · by_cases hl0 : 0 ≤ l
        · by_cases hq : t ≤ turnN l f
          · obtain ⟨e1, e2⟩ := sh_yes (t := t) Hx.out hs0 Hl.out hl0 hq
            have E1 := Lib.hid e1
            have E2 := Lib.hid e2
            clear e1 e2
            have HT := Lib.hid fun W => l5Turn_any l f W hl0 l1 f0 f1
            generalize turnN l f = D at *
            go_wp2_with (first | (go_at_call 63; refine (HT.out _).mono ?_; rintro e w' ⟨rfl, rfl⟩) | (at_builtin; refine wpList_append_own _ rfl _ _ 60 rfl w.heap.size 3 i0 (.int .i64 0) 1 8 Try.underlying60 hi hz0 hz1 hz2 rfl (by decide) _ _ _ rfl (hoa.out.alloc _) ⟨wr.heap.size + 1, 0, none⟩ 1 1 [.int .i64 k] rfl rfl ?c1 ?c2 ?c3 ?c4 ?c5 ?_))
            case c1 =>
              intro j u hj
              match j, hj with
              | 0, hj => simp at hj; subst hj; simp [Addr.add]
            case c2 => intro u hu; simp at hu; subst hu; rfl
            case c3 => unfold maxLen; omega
            case c4 => omega
            case c5 => simp; omega
            intro v' w3 hown' hgrow _
            have hb3 := Lib.hid (grow_put hoa.out hba.out (by simp; omega) hgrow)
            have ho3 := Lib.hid (own_snoc E2.out hown')
            have hcb : w3.cell? ⟨wr.heap.size, 0, none⟩ = some (.int .i64 f) := hgrow.cell (by simp [go_sem]) (fun e => Nat.lt_irrefl _ (ho.out.lt _ e.symm).2)
            clear hown' hgrow
            go_wp2
            go_roundw
            case rel => exact ⟨k + 1, by omega, by go_num, by rw [E1.out], hb3.out, ho3.out⟩
            case measure => simp [intOf]; omega
          · obtain ⟨e1, e2⟩ := sh_no (t := t) Hx.out hs0 Hl.out (fun h => hq h.2)
            have E1 := Lib.hid e1
            have E2 := Lib.hid e2
            clear e1 e2
            have HT := Lib.hid fun W => l5Turn_any l f W hl0 l1 f0 f1
            generalize turnN l f = D at *
            go_wp2_with (go_at_call 63; refine (HT.out _).mono ?_; rintro e w' ⟨rfl, rfl⟩)
            go_roundw
            case rel => exact ⟨k + 1, by omega, by go_num, by rw [E1.out], hba.out, by show _; rw [E2.out]; exact hoa.out⟩
            case measure => simp [intOf]; omega
        · obtain ⟨e1, e2⟩ := sh_no (t := t) Hx.out hs0 Hl.out (fun h => hl0 h.1)
          have E1 := Lib.hid e1
          have E2 := Lib.hid e2
          clear e1 e2
          go_wp2
          go_roundw
          case rel => exact ⟨k + 1, by omega, by go_num, by rw [E1.out], hba.out, by show _; rw [E2.out]; exact hoa.out⟩
          case measure => simp [intOf]; omega
    · obtain rfl : k = N := by omega
      have Ho := ho
      clear ho
      go_wp2
      exact bodyPost_ret (v := .tuple #[_, .bool true]) (by simp [results, Try.results34, go_sem]) rfl ⟨_, rfl, Ho.out, hb.out⟩
set_option maxHeartbeats 8000000 in
theorem WindShifts_yes (A : Option Addr) (c : Nat) (ps : List Wx) (t : Int) (w : World) (hs : Sl w 4 (.slice A ps.length c) ps.length (wxs ps)) (hF : foreB ps = true) (hT : inB t 1 4 = true) :
    Calls Try.prog 33 #[.slice A ps.length c, .int .i64 t] w (RetSel w (shO ps t ps.length) true) := by
  have HA := Lib.hid fun W hW => IsForecast_any _ ps W (hs.below (w' := W) hW)
  rw [hF] at HA
  obtain ⟨n1, n2⟩ := fore_len hF
  obtain ⟨t0, t1⟩ := inB_iff.1 hT
  obtain ⟨i0, hi, hz0, hz1, hz2⟩ := info_parts info_int
  have HF := Lib.hid hF
  generalize hN : ps.length = N at *
  have HN := Lib.hid hN
  have Hs := Lib.hid hs
  clear hN hs hF
  go_enter Try.func33, Try.ntmps33
  go_wp2_with fail
  with_reducible refine (HA.out _ (Below.refl _ _)).mono ?_
  rintro e w1 ⟨rfl, hb1⟩
  have ho1 : Hid ((w1.alloc (.cells #[] 3)).ownsRow w.heap.size 3 1 (.slice (some ⟨w1.heap.size, 0, none⟩) 0 0) 0 []) := by
    show World.ownsRow _ _ _ _ _ _ _
    have := World.ownsRow_lit (base := w.heap.size) (e := 3) (size := 1) w1 #[] 0 hb1.size (by unfold maxLen; omega) rfl
    simpa using this
  have hb2 := Lib.hid (grow_trans hb1 (grow_alloc w1 (.cells #[] 3)))
  clear hb1
  go_wp2_with (go_at_call 53; refine (in_any _ _ _ _).mono ?_; rintro e w' ⟨rfl, rfl⟩; rw [hT])
  go_loopw [6, 7, 21] (fun v q i wr => ∃ k : Nat, k ≤ N ∧ i = .int .i64 k ∧ q = .int .i64 (shL ps k) ∧ Hid (Below w.heap.size w wr) ∧ Hid (wr.ownsRow w.heap.size 3 1 v (shO ps t k).length (ints (shO ps t k)))) (fun _ _ i _ => N - (intOf i).toNat)
  case atStart => exact ⟨0, Nat.zero_le _, rfl, rfl, hb2, ho1⟩
  case round =>
    obtain ⟨k, hk, rfl, rfl, hb, ho⟩ := hrel
    by_cases hlt : k < N
    · obtain ⟨b, off, f, s, g, r, rfl, hx, c0, c1, c2, c3⟩ := (Hs.out.below hb.out).wx HN.out hlt
      have hw := windB_iff.1 (fore_at HF.out hx)
      obtain ⟨⟨f0, f1⟩, ⟨s0, s1⟩, _⟩ := hw
      obtain ⟨l0, l1⟩ := shL_bd HF.out k
      have hle := shO_le ps t k
      have Hx := Lib.hid hx
      have hba := Lib.hid (hb.out.alloc hb.out.size (.cells #[.int .i64 f, .int .i64 s, .int .i64 g, .int .i64 r] 53))
      have hoa := Lib.hid (ho.out.alloc (.cells #[.int .i64 f, .int .i64 s, .int .i64 g, .int .i64 r] 53))
      have hsz := hb.out.size
      clear hx
      generalize hl : shL ps k = l at *
      have Hl := Lib.hid hl
      clear hl
      by_cases hs0 : s = 0
      · subst hs0
        obtain ⟨e1, e2⟩ := sh_calm (t := t) Hx.out
        have E1 := Lib.hid (e1.trans Hl.out)
        have E2 := Lib.hid e2
        clear e1 e2
        go_wp2
        go_roundw
        case rel => exact ⟨k + 1, by omega, by go_num, by rw [E1.out], hba.out, by show _; rw [E2.out]; exact hoa.out⟩
        case measure => simp [intOf]; omega
      · by_cases hl0 : 0 ≤ l
        · by_cases hq : t ≤ turnN l f
          · obtain ⟨e1, e2⟩ := sh_yes (t := t) Hx.out hs0 Hl.out hl0 hq
            have E1 := Lib.hid e1
            have E2 := Lib.hid e2
            clear e1 e2
            have HT := Lib.hid fun W => turnBetween_any l f W hl0 l1 f0 f1
            generalize turnN l f = D at *
            go_wp2_with (first | (go_at_call 62; refine (HT.out _).mono ?_; rintro e w' ⟨rfl, rfl⟩) | (at_builtin; refine wpList_append_own _ rfl _ _ 60 rfl w.heap.size 3 i0 (.int .i64 0) 1 8 Try.underlying60 hi hz0 hz1 hz2 rfl (by decide) _ _ _ rfl (hoa.out.alloc _) ⟨wr.heap.size + 1, 0, none⟩ 1 1 [.int .i64 k] rfl rfl ?c1 ?c2 ?c3 ?c4 ?c5 ?_))
            case c1 =>
              intro j u hj
              match j, hj with
              | 0, hj => simp at hj; subst hj; simp [Addr.add]
            case c2 => intro u hu; simp at hu; subst hu; rfl
            case c3 => unfold maxLen; omega
            case c4 => omega
            case c5 => simp; omega
            intro v' w3 hown' hgrow _
            have hb3 := Lib.hid (grow_put hoa.out hba.out (by simp; omega) hgrow)
            have ho3 := Lib.hid (own_snoc E2.out hown')
            have hcb : w3.cell? ⟨wr.heap.size, 0, none⟩ = some (.int .i64 f) := hgrow.cell (by simp [go_sem]) (fun e => Nat.lt_irrefl _ (ho.out.lt _ e.symm).2)
            clear hown' hgrow
            go_wp2
            go_roundw
            case rel => exact ⟨k + 1, by omega, by go_num, by rw [E1.out], hb3.out, ho3.out⟩
            case measure => simp [intOf]; omega
          · obtain ⟨e1, e2⟩ := sh_no (t := t) Hx.out hs0 Hl.out (fun h => hq h.2)
            have E1 := Lib.hid e1
            have E2 := Lib.hid e2
            clear e1 e2
            have HT := Lib.hid fun W => turnBetween_any l f W hl0 l1 f0 f1
            generalize turnN l f = D at *
            go_wp2_with (go_at_call 62; refine (HT.out _).mono ?_; rintro e w' ⟨rfl, rfl⟩)
            go_roundw
            case rel => exact ⟨k + 1, by omega, by go_num, by rw [E1.out], hba.out, by show _; rw [E2.out]; exact hoa.out⟩
            case measure => simp [intOf]; omega
        · obtain ⟨e1, e2⟩ := sh_no (t := t) Hx.out hs0 Hl.out (fun h => hl0 h.1)
          have E1 := Lib.hid e1
          have E2 := Lib.hid e2
          clear e1 e2
          go_wp2
          go_roundw
          case rel => exact ⟨k + 1, by omega, by go_num, by rw [E1.out], hba.out, by show _; rw [E2.out]; exact hoa.out⟩
          case measure => simp [intOf]; omega
    · obtain rfl : k = N := by omega
      have Ho := ho
      clear ho
      go_wp2
      exact bodyPost_ret (v := .tuple #[_, .bool true]) (by simp [results, Try.results33, go_sem]) rfl ⟨_, rfl, Ho.out, hb.out⟩
end Go.Proofs.Ytabedcpibnnnhaa
