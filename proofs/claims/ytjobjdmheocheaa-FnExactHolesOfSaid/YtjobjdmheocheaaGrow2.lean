/- GrowRegion in the reference. Conditions: none. -/
import Derived.Test.YtjobjdmheocheaaGrow
namespace Go.Proofs.Ytjobjdmheocheaa
open Go.ChangeShapes Go.WideShapes Go.ChangeAt Go.RowKit Go.Deep
set_option linter.unusedVariables false
set_option linter.unusedSimpArgs false
set_option maxRecDepth 100000

theorem TB.kept {w w' : World} {B : Nat} {x y : Int} {u : Value} {row : Option Nat} (h : TB w B x y u) (hg : w.grownBy w' row) (hne : some B ≠ row) : TB w' B x y u :=
  ⟨hg.cell h.1 hne, hg.cell h.2.1 hne, hg.cell h.2.2 hne⟩
theorem all_take {l : List Int} {p : Int → Bool} {i : Nat} {z : Int} (h : l[i]? = some z) : (l.take (i + 1)).all p = ((l.take i).all p && p z) := by
  obtain ⟨hk, rfl⟩ := List.getElem?_eq_some_iff.1 h
  rw [List.take_succ_eq_append_getElem hk, List.all_append]; simp
theorem any_take {l : List Int} {p : Int → Bool} {i : Nat} {z : Int} (h : l[i]? = some z) : (l.take (i + 1)).any p = ((l.take i).any p || p z) := by
  obtain ⟨hk, rfl⟩ := List.getElem?_eq_some_iff.1 h
  rw [List.take_succ_eq_append_getElem hk, List.any_append]; simp
theorem Rise.lenN {l : List Int} {N : Nat} (h : Rise l) (hb : ∀ z ∈ l, 0 ≤ z ∧ z ≤ (N : Int) - 1) : l.length ≤ N := by
  have := h.len (a := 0) (b := N) (by omega) (fun z hz => by have := hb z hz; omega)
  omega
theorem selN_in {p : Nat → Bool} {N : Nat} : ∀ z ∈ selN p N, 0 ≤ z ∧ z ≤ (N : Int) - 1 := by
  intro z hz
  obtain ⟨k, hk, _, rfl⟩ := selN_mem.1 hz
  omega
theorem puts_in {xs ys : List Int} {N : Nat} (hx : ∀ z ∈ xs, 0 ≤ z ∧ z ≤ (N : Int) - 1) (hy : ∀ z ∈ ys, 0 ≤ z ∧ z ≤ (N : Int) - 1) : ∀ z ∈ putsL xs ys, 0 ≤ z ∧ z ≤ (N : Int) - 1 := by
  intro z hz
  rcases mem_putsL.1 hz with h | h
  · exact hy z h
  · exact hx z h
/-- The region with the neighbors of its first cells. -/
def growL (x : Int) (N : Nat) (xs : List Int) (k : Nat) : List Int := putsL xs ((xs.take k).flatMap fun c => selN (nearP x c) N)
theorem growL_in {x : Int} {N : Nat} {xs : List Int} {k : Nat} (hx : ∀ z ∈ xs, 0 ≤ z ∧ z ≤ (N : Int) - 1) : ∀ z ∈ growL x N xs k, 0 ≤ z ∧ z ≤ (N : Int) - 1 := by
  refine puts_in hx fun z hz => ?_
  obtain ⟨c, _, h⟩ := List.mem_flatMap.1 hz
  exact selN_in z h
theorem growL_succ {x : Int} {N : Nat} {xs : List Int} {k : Nat} {z : Int} (h : xs[k]? = some z) : growL x N xs (k + 1) = putsL (growL x N xs k) (selN (nearP x z) N) := by
  obtain ⟨hk, rfl⟩ := List.getElem?_eq_some_iff.1 h
  unfold growL
  rw [List.take_succ_eq_append_getElem hk, List.flatMap_append, putsL_append]; simp
set_option maxHeartbeats 4000000 in
theorem sGrowRegion_any (x y : Int) (u : Value) (zs : List Int) (va : Value) (xs : List Int) (w : World) (h : Sl w 1 u zs.length (ints zs)) (ha : Sl w 1 va xs.length (ints xs)) :
    Calls Try.prog 27 #[terrV x y u, va] w (RetSelQ w (selR (oneB x y zs xs) (selN (fun (k : Nat) => !(xs.all fun z => decide (1 < apartN x k z))) zs.length)) (oneB x y zs xs)) := by
  have HA := Lib.hid fun W hW => l2Set_any x y u zs va xs W (h.below (w' := W) hW) (ha.below hW)
  have Hs := Lib.hid fun W hW => ha.below (w' := W) hW
  have HO := Lib.hid fun W hW hn => l1Own_any va xs W (ha.below (w' := W) hW) hn
  have HN2 := Lib.hid fun W hW cl h1 h2 h3 h4 hn => l2Near_any x y u zs cl W (h.below (w' := W) hW) h1 h2 h3 h4 hn
  have HT : Hid (oneB x y zs xs = (terrB x y zs && setB xs 0 (zs.length - 1))) := rfl
  have HF : Hid (oneB x y zs xs = true → (1 ≤ x ∧ x ≤ 5) ∧ zs.length ≤ 25 ∧ Rise xs ∧ (∀ z ∈ xs, 0 ≤ z ∧ z ≤ (zs.length : Int) - 1) ∧ xs.length ≤ zs.length) := one_facts
  have HJ : Hid (oneB x y zs xs = true → growL x zs.length xs xs.length = selN (fun (k : Nat) => !(xs.all fun z => decide (1 < apartN x k z))) zs.length) := by
    show _ → _
    intro hT
    obtain ⟨_, _, r1, s1, _⟩ := one_facts hT
    unfold growL
    rw [List.take_length]
    exact grow_eq r1 s1
  obtain ⟨A, c, rfl⟩ := h.val
  obtain ⟨Aa, ca, rfl⟩ := ha.val
  clear h ha
  have hTB0 : Hid (TB (w.alloc (.cells #[.int .i64 x, .int .i64 y, .slice A zs.length c] 28)) w.heap.size x y (.slice A zs.length c)) := by show TB _ _ _ _ _; unfold TB; simp [go_sem]
  rw [← HT.out] at HA
  generalize oneB x y zs xs = P at *
  generalize selN (fun (k : Nat) => !(xs.all fun z => decide (1 < apartN x k z))) zs.length = L at *
  generalize zs.length = M at *
  generalize hN : xs.length = N at *
  have HN := Lib.hid hN
  clear hN HT
  have hb0 : Hid (Below w.heap.size w (w.alloc (.cells #[.int .i64 x, .int .i64 y, .slice A M c] 28))) := grow_alloc _ _
  cases P with
  | false =>
    go_enter Try.func27, Try.ntmps27
    go_wp2_with fail
    with_reducible refine (HA.out _ hb0.out).mono ?_
    rintro e w1 ⟨rfl, hb1⟩
    have hb1 := Lib.hid (grow_trans hb0.out hb1)
    go_wp2
    exact bodyPost_ret (v := .tuple #[.slice (some ⟨w1.heap.size, 0, none⟩) 0 0, .bool false]) (by simp [results, Try.results27, go_sem]) rfl ⟨_, rfl, (Qw.empty _ _).lower hb1.out.size, grow_trans hb1.out (grow_alloc _ _)⟩
  | true =>
    obtain ⟨⟨hx1, hx2⟩, hm25, r1, s1, hl1⟩ := HF.out rfl
    have hj := HJ.out rfl
    have Hj := Lib.hid hj
    have R1 := Lib.hid r1
    have S1 := Lib.hid s1
    clear HF HJ hj r1 s1
    go_enter Try.func27, Try.ntmps27
    go_wp2_with fail
    with_reducible refine (HA.out _ hb0.out).mono ?_
    rintro e w1 ⟨rfl, hb1⟩
    have hT1 := Lib.hid (hTB0.out.below hb1)
    have hb1 := Lib.hid (grow_trans hb0.out hb1)
    go_wp2_with fail
    with_reducible refine (HO.out _ hb1.out (by omega)).mono ?_
    rintro e w3 ⟨v0, rfl, hq3, hb3⟩
    have hq3 := Lib.hid (hq3.lower hb1.out.size)
    have hT3 := Lib.hid (hT1.out.below hb3)
    have hb3 := Lib.hid (grow_trans hb1.out hb3)
    have hq3' : Hid (Qw w3 w.heap.size 3 1 v0 (growL x M xs 0).length (ints (growL x M xs 0))) := by show Qw _ _ _ _ _ _ _; unfold growL; simpa [putsL, HN.out] using hq3.out
    go_wp2
    go_loopw [6, 7] (fun v i wr => ∃ k : Nat, k ≤ N ∧ i = .int .i64 k ∧ Hid (Below w.heap.size w wr) ∧ Hid (TB wr w.heap.size x y (.slice A M c)) ∧ Hid (Qw wr w.heap.size 3 1 v (growL x M xs k).length (ints (growL x M xs k)))) (fun _ i _ => N - (intOf i).toNat)
    case atStart => exact ⟨0, Nat.zero_le _, rfl, hb3.out, hT3.out, hq3'.out⟩
    case round =>
      obtain ⟨k, hk, rfl, hb, hT, hq⟩ := hrel
      by_cases hlt : k < N
      · obtain ⟨b, off, z, rfl, hz, hcell⟩ := (Hs.out _ hb.out).at1 HN.out hlt
        obtain ⟨t0, t1, t2⟩ := hT.out
        have hzb := S1.out z (List.mem_of_getElem? hz)
        have Hz := Lib.hid hz
        clear hz
        have hlt' : (k : Int) < (N : Int) := by omega
        have HC := Lib.hid (HN2.out wr.drew hb.out.drew z hx1 hx2 hzb.1 (by omega) (by omega))
        have hbd := Lib.hid hb.out.drew
        have hTd := Lib.hid (hT.out.below (grow_drew wr))
        have hqd := Lib.hid (hq.out.below (grow_drew wr))
        clear hb hT hq
        go_wp2_with fail
        go_still_tail 5, (by kernel_rfl)
        change wpList _ _ _ _ _ wr.drew
        generalize wr.drew = wd at *
        clear t0 t1 t2 hcell
        go_wp2_with fail
        with_reducible refine HC.out.mono ?_
        rintro e w4 ⟨nr, rfl, on, hb4⟩
        have on := Lib.hid (Sl.of_own on)
        have hT4 := Lib.hid (hTd.out.below hb4)
        have hq4 := Lib.hid (hqd.out.below hb4)
        have hb4 := Lib.hid (grow_trans hbd.out hb4)
        clear HC hbd hTd hqd
        have hGi := Lib.hid (growL_in (x := x) (k := k) S1.out)
        have hGr : Hid (Rise (growL x M xs k)) := R1.out.puts
        have Hsucc := Lib.hid (growL_succ (x := x) (N := M) Hz.out)
        generalize growL x M xs k = G at *
        generalize hG' : growL x M xs (k + 1) = G' at *
        have HG' := Lib.hid hG'
        clear hG'
        have hNi := Lib.hid (selN_in (p := nearP x z) (N := M))
        generalize selN (nearP x z) M = nl at *
        generalize hNL : nl.length = K at *
        have HNL := Lib.hid hNL
        clear hNL
        have hKmx := on.out.len
        unfold maxLen at hKmx
        obtain ⟨An, cn, rfl⟩ := on.out.val
        obtain ⟨wo, rfl⟩ : ∃ wo : World, wo = w4 := ⟨_, rfl⟩
        go_wp2
        go_loopw [6, 9] (fun v j wq => ∃ i : Nat, i ≤ K ∧ j = .int .i64 i ∧ Hid (Below w.heap.size w wq) ∧ Hid (Below wo.heap.size wo wq) ∧ Hid (Qw wq w.heap.size 3 1 v (putsL G (nl.take i)).length (ints (putsL G (nl.take i))))) (fun _ j _ => K - (intOf j).toNat)
        case atStart => exact ⟨0, Nat.zero_le _, rfl, hb4.out, Below.refl _ _, hq4.out⟩
        case round =>
          obtain ⟨i, hi', rfl, hbq, hbo, hqq⟩ := hrel
          by_cases hlt2 : i < K
          · obtain ⟨b2, off2, z2, hA2, hz2, hcell2⟩ := (on.out.below hbo.out).at1 HNL.out hlt2
            subst hA2
            have hlen : (putsL G (nl.take i)).length ≤ M := Rise.lenN hGr.out.puts (puts_in hGi.out (fun z hz => hNi.out z (List.mem_of_mem_take hz)))
            have Hz2 := Lib.hid (putsL_take G hz2)
            have HP := Lib.hid (l1Put_any _ _ z2 _ _ hqq.out hbq.out.size (by omega))
            clear hz2 hlen
            go_wp2_with fail
            with_reducible refine HP.out.mono ?_
            intro e w5 hr5
            unfold RetPut at hr5
            obtain ⟨v5, rfl, hq5, hb5, _⟩ := hr5
            have hq5 := Lib.hid hq5
            have hbo5 := Lib.hid (grow_trans hbo.out hb5)
            have hb5 := Lib.hid (grow_trans hbq.out hb5)
            go_wp2
            go_roundw
            case rel => exact ⟨i + 1, by omega, by go_num, hb5.out, hbo5.out, by show Qw _ _ _ _ _ _ _; rw [Hz2.out]; exact hq5.out⟩
            case measure => simp [intOf]; omega
          · obtain rfl : i = K := by omega
            have hall : nl.take i = nl := List.take_of_length_le (by have := HNL.out; omega)
            rw [hall, ← Hsucc.out] at hqq
            have hT5 := Lib.hid (hT4.out.below hbo.out)
            clear hall
            go_wp2
            go_roundw
            case rel => exact ⟨k + 1, by omega, by go_num, hbq.out, hT5.out, by show Qw _ _ _ _ _ _ _; rw [HG'.out]; exact hqq.out⟩
            case measure => simp [intOf]; omega
      · obtain rfl : k = N := by omega
        rw [Hj.out] at hq
        go_wp2
        exact bodyPost_ret (v := .tuple #[_, .bool true]) (by simp [results, Try.results27, go_sem]) rfl ⟨_, rfl, hq.out, hb.out⟩
end Go.Proofs.Ytjobjdmheocheaa
