/- The neighbors of a cell, in the program and in the reference. Conditions: as each states. -/
import Derived.Test.YtnacofmjipilhaaSel
import Derived.Test.YtnacofmjipilhaaCell2
namespace Go.Proofs.Ytnacofmjipilhaa
open Go.ChangeShapes Go.WideShapes Go.ChangeAt Go.RowKit Go.Deep
set_option linter.unusedVariables false
set_option linter.unusedSimpArgs false
set_option maxRecDepth 100000

/-- A cell is next to another one. -/
def nearP (x c : Int) (k : Nat) : Bool := decide (apartN x k c = 1)
theorem apartN_comm (x a b : Int) : apartN x a b = apartN x b a := by unfold apartN; omega
set_option maxHeartbeats 2000000 in
theorem l2Near_any (x y : Int) (u : Value) (zs : List Int) (cl : Int) (w : World) (h : Sl w 1 u zs.length (ints zs)) (h1 : 1 ≤ x) (h2 : x ≤ 5) (h3 : 0 ≤ cl) (h4 : cl ≤ 25) (hn : (zs.length : Int) ≤ 25) :
    Calls Try.prog 162 #[terrV x y u, .int .i64 cl] w (RetOwn w 3 1 (selN (nearP x cl) zs.length).length (ints (selN (nearP x cl) zs.length))) := by
  obtain ⟨A, c, rfl⟩ := h.val
  obtain ⟨i0, hi, hz0, hz1, hz2⟩ := info_parts info_int
  generalize hN : zs.length = N at *
  clear hN h
  have hs0 : Hid (w.heap.size + 1 = (w.alloc (.cells #[.int .i64 x, .int .i64 y, .slice A N c] 79)).heap.size) := by show _ = _; simp
  have ho0 : Hid (((w.alloc (.cells #[.int .i64 x, .int .i64 y, .slice A N c] 79)).alloc (.cells #[] 3)).ownsRow (w.heap.size + 1) 3 1 (.slice (some ⟨w.heap.size + 1, 0, none⟩) 0 0) 0 []) := by
    show World.ownsRow _ _ _ _ _ _ _
    have := World.ownsRow_lit (base := w.heap.size + 1) (e := 3) (size := 1) (w.alloc (.cells #[.int .i64 x, .int .i64 y, .slice A N c] 79)) #[] 0 (by simp) (by unfold maxLen; omega) rfl
    simpa using this
  have hb0 : Hid (Below (w.heap.size + 1) (w.alloc (.cells #[.int .i64 x, .int .i64 y, .slice A N c] 79)) ((w.alloc (.cells #[.int .i64 x, .int .i64 y, .slice A N c] 79)).alloc (.cells #[] 3))) := by show Below _ _ _; rw [hs0.out]; exact grow_alloc _ _
  go_enter Try.func162, Try.ntmps162
  go_wp2
  go_loopw [5, 6] (fun v i wr => ∃ k : Nat, k ≤ N ∧ i = .int .i64 k ∧ Hid (Below (w.heap.size + 1) (w.alloc (.cells #[.int .i64 x, .int .i64 y, .slice A N c] 79)) wr) ∧ Hid (wr.ownsRow (w.heap.size + 1) 3 1 v (selN (nearP x cl) k).length (ints (selN (nearP x cl) k)))) (fun _ i _ => N - (intOf i).toNat)
  case atStart => exact ⟨0, Nat.zero_le _, rfl, hb0, ho0⟩
  case round =>
    obtain ⟨k, hk, rfl, hb, ho⟩ := hrel
    have hc := (bcell hb.out).1
    have hsz := hb.out.size
    rw [← hs0.out] at hsz
    by_cases hlt : k < N
    · have hle := selN_le (nearP x cl) k
      have hA := Lib.hid (l2Apart_any x y (.slice A N c) cl k wr h1 h2 h3 h4 (by omega) (by omega))
      by_cases hq : apartN x cl k = 1
      · have Hq : Hid (nearP x cl k = true) := by show _ = _; unfold nearP; rw [apartN_comm]; simpa using hq
        have Hqq := Lib.hid hq
        clear hq
        go_wp2_with fail
        with_reducible refine hA.out.mono ?_
        rintro e w2 ⟨rfl, hb2⟩
        rw [Hqq.out]
        have hsz2 := hb2.size
        have hb2 := Lib.hid hb2
        go_wp2_with ((at_builtin; refine wpList_append_own _ rfl _ _ 67 rfl (w.heap.size + 1) 3 i0 (.int .i64 0) 1 8 Try.underlying67 hi hz0 hz1 hz2 rfl (by decide) _ _ _ rfl ((own_below ho.out hb2.out).alloc _) ⟨w2.heap.size, 0, none⟩ 1 1 [.int .i64 k] rfl rfl ?c1 ?c2 ?c3 ?c4 ?c5 ?_))
        case c1 =>
          intro j u hj
          match j, hj with
          | 0, hj => simp at hj; subst hj; simp [Addr.add]
        case c2 => intro u hu; simp at hu; subst hu; rfl
        case c3 => unfold maxLen; omega
        case c4 => omega
        case c5 => simp; omega
        intro v' w3 hown' hgrow _
        have hb3 := Lib.hid (grow_put (own_below ho.out hb2.out) (hb.out.trans (hb2.out.mono hsz)) (by omega) hgrow)
        have ho3 := Lib.hid (own_put Hq.out hown')
        clear hown' hgrow hc
        go_wp2
        go_roundw
        case rel => exact ⟨k + 1, by omega, by go_num, hb3.out, ho3.out⟩
        case measure => simp [intOf]; omega
      · have Hq : Hid (nearP x cl k = false) := by show _ = _; unfold nearP; rw [apartN_comm]; simpa using hq
        have hqq : ((apartN x cl k == 1) : Bool) = false := by simpa using hq
        go_wp2_with fail
        with_reducible refine hA.out.mono ?_
        rintro e w2 ⟨rfl, hb2⟩
        generalize apartN x cl k = D at *
        have hb2 := Lib.hid hb2
        go_wp2
        go_roundw
        case rel => exact ⟨k + 1, by omega, by go_num, hb.out.trans (hb2.out.mono hsz), by show _; rw [selN_no Hq.out]; exact own_below ho.out hb2.out⟩
        case measure => simp [intOf]; omega
    · obtain rfl : k = N := by omega
      have Ho := Lib.hid (own_base ho.out (Nat.le_succ w.heap.size))
      have hb3 := Lib.hid ((grow_alloc w _).trans (hb.out.mono (by omega)))
      clear ho
      go_wp2
      go_ret
      exact ⟨_, rfl, Ho.out, hb3.out⟩
theorem callFunc_near : ∀ args w, (callFunc 173 args).run Try.prog w = .ok (.enter 173 args) w := fun _ _ => by rfl
theorem near1_any (x y : Int) (u : Value) (cl : Int) (B : Nat) (k : Nat) (w : World) (hc0 : w.cell? ⟨B, 0, none⟩ = some (.int .i64 x)) (hc1 : w.cell? ⟨B, 1, none⟩ = some (.int .i64 y)) (hc2 : w.cell? ⟨B, 2, none⟩ = some u) (hc3 : w.cell? ⟨B + 1, 0, none⟩ = some (.int .i64 cl))
    (h1 : 1 ≤ x) (h2 : x ≤ 5) (h3 : 0 ≤ cl) (h4 : cl ≤ 25) (hk : (k : Int) ≤ 25) :
    Calls Try.prog 173 #[.int .i64 k, .pointer (some ⟨B, 0, none⟩), .pointer (some ⟨B + 1, 0, none⟩)] w fun e w' => e = .returned (.bool (nearP x cl k)) ∧ Below w.heap.size w w' := by
  have hA := Lib.hid (apart_any x y u k cl w h1 h2 (by omega) hk h3 h4)
  have Hr : Hid (nearP x cl k = (apartN x k cl == 1)) := by show _ = _; unfold nearP; exact Bool.eq_iff_iff.2 (by simp)
  generalize apartN x k cl = D at *
  go_enter Try.func173, Try.ntmps173
  go_wp2_with fail
  with_reducible refine hA.out.mono ?_
  rintro e w2 ⟨rfl, hb2⟩
  have hb2 := Lib.hid hb2
  go_wp2
  go_ret
  exact ⟨by rw [Hr.out]; rfl, hb2.out⟩
set_option maxHeartbeats 1000000 in
theorem neighbors_any (x y : Int) (u : Value) (zs : List Int) (cl : Int) (w : World) (h : Sl w 1 u zs.length (ints zs)) (h1 : 1 ≤ x) (h2 : x ≤ 5) (h3 : 0 ≤ cl) (h4 : cl ≤ 25) (hn : (zs.length : Int) ≤ 25) :
    Calls Try.prog 130 #[terrV x y u, .int .i64 cl] w (RetOwn w 3 1 (selN (nearP x cl) zs.length).length (ints (selN (nearP x cl) zs.length))) := by
  obtain ⟨A, c, rfl⟩ := h.val
  have hb0 : Below w.heap.size w ((w.alloc (.cells #[.int .i64 x, .int .i64 y, .slice A zs.length c] 79)).alloc (.cells #[.int .i64 cl] 3)) := grow_trans (grow_alloc _ _) (grow_alloc _ _)
  have Hs := Lib.hid (cellsThat_any x y (.slice A zs.length c) zs 173 #[] #[.pointer (some ⟨w.heap.size, 0, none⟩), .pointer (some ⟨w.heap.size + 1, 0, none⟩)] (nearP x cl) ((w.alloc (.cells #[.int .i64 x, .int .i64 y, .slice A zs.length c] 79)).alloc (.cells #[.int .i64 cl] 3)) (h.below hb0) (by omega) callFunc_near
    (fun W k hk hW => near1_any x y (.slice A zs.length c) cl w.heap.size k W
      (by rw [hW.cell (by simp; omega)]; simp [go_sem]) (by rw [hW.cell (by simp; omega)]; simp [go_sem]) (by rw [hW.cell (by simp; omega)]; simp [go_sem]) (by rw [hW.cell (by simp)]; simp [go_sem]) h1 h2 h3 h4 (by omega)))
  have Hb0 := Lib.hid hb0
  clear hb0 hn
  generalize selN (nearP x cl) zs.length = L at *
  generalize zs.length = N at *
  clear h
  go_enter Try.func130, Try.ntmps130
  go_wp2_with fail
  with_reducible refine Hs.out.mono ?_
  rintro e w2 ⟨v, rfl, ho, hb2⟩
  have ho := Lib.hid (own_base ho Hb0.out.size)
  have hb3 := Lib.hid (grow_trans Hb0.out hb2)
  go_wp2
  go_ret
  exact ⟨_, rfl, ho.out, hb3.out⟩
end Go.Proofs.Ytnacofmjipilhaa
