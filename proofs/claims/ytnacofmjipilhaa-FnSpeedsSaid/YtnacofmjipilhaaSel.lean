/- The cells for which a condition holds, gathered by the program's loop over a closure; the reference's loops that append. Conditions: as each states. -/
import Derived.Test.YtnacofmjipilhaaCell
namespace Go.Proofs.Ytnacofmjipilhaa
open Go.ChangeShapes Go.WideShapes Go.ChangeAt Go.RowKit Go.Deep
set_option linter.unusedVariables false
set_option linter.unusedSimpArgs false
set_option maxRecDepth 100000

/-- The numbers below k for which a condition holds. -/
def selN (p : Nat → Bool) (k : Nat) : List Int := ((List.range k).filter p).map fun (i : Nat) => (i : Int)
theorem selN_zero (p : Nat → Bool) : selN p 0 = [] := rfl
theorem selN_yes {p : Nat → Bool} {k : Nat} (h : p k = true) : selN p (k + 1) = selN p k ++ [(k : Int)] := by simp [selN, List.range_succ, List.filter_append, h]
theorem selN_no {p : Nat → Bool} {k : Nat} (h : p k = false) : selN p (k + 1) = selN p k := by simp [selN, List.range_succ, List.filter_append, h]
theorem selN_le (p : Nat → Bool) (k : Nat) : (selN p k).length ≤ k := by
  unfold selN; rw [List.length_map]; exact Nat.le_trans (List.length_filter_le _ _) (by simp)
theorem selN_congr {p q : Nat → Bool} {k : Nat} (h : ∀ j, j < k → p j = q j) : selN p k = selN q k := by
  unfold selN; rw [List.filter_congr (fun j hj => h j (List.mem_range.1 hj))]
theorem grow_put {B n : Nat} {e : TypeId} {W wr w1 : World} {u : Value} {xs : List Value} {o : Obj} (hown : wr.ownsRow B e 1 u n xs) (hb : Below B W wr) (hB : B ≤ wr.heap.size) (hgrow : (wr.alloc o).grownBy w1 u.ownBlock) : Below B W w1 :=
  (hb.alloc hB o).grown hgrow (by simp; omega) (fun j hj => (hown.lt j hj).1)
theorem own_kept {w w' : World} {base k n : Nat} {e : TypeId} {v : Value} {cs : List Value} {row : Option Nat} (h : w.ownsRow base e k v n cs) (hg : w.grownBy w' row) (hne : ∀ j, v.ownBlock = some j → some j ≠ row) : w'.ownsRow base e k v n cs := by
  refine ⟨h.1, ?_⟩
  rcases h.2 with hn | ⟨g, cap, cur, rfl, hb', hg', rest⟩
  · exact .inl hn
  · refine .inr ⟨g, cap, cur, rfl, hb', ?_, rest⟩
    rw [hg.block g (Array.getElem?_eq_some_iff.1 hg').1 (hne g rfl)]
    exact hg'
theorem own_put {B : Nat} {e : TypeId} {w1 : World} {v : Value} {p : Nat → Bool} {k : Nat} (hp : p k = true) (h : w1.ownsRow B e 1 v ((selN p k).length + 1) (ints (selN p k) ++ [.int .i64 (k : Int)])) : w1.ownsRow B e 1 v (selN p (k + 1)).length (ints (selN p (k + 1))) := by
  rw [selN_yes hp]; simpa using h
set_option maxHeartbeats 2000000 in
theorem cellsThat_any (x y : Int) (u : Value) (zs : List Int) (g : Nat) (first lb : Array Value) (p : Nat → Bool) (w : World) (h : Sl w 1 u zs.length (ints zs)) (hn : zs.length ≤ 1048576)
    (eg : ∀ args w, (callFunc g args).run Try.prog w = .ok (.enter g args) w)
    (hp : ∀ (W : World) (k : Nat), k < zs.length → Below w.heap.size w W → Calls Try.prog g (first.push (.int .i64 k) ++ lb) W fun e w' => e = .returned (.bool (p k)) ∧ Below W.heap.size W w') :
    Calls Try.prog 170 #[terrV x y u, .func (.func g) first lb] w (RetOwn w 3 1 (selN p zs.length).length (ints (selN p zs.length))) := by
  obtain ⟨A, c, rfl⟩ := h.val
  obtain ⟨i0, hi, hz0, hz1, hz2⟩ := info_parts info_int
  clear h
  generalize zs.length = N at *
  have Hp := Lib.hid hp
  clear hp
  go_enter Try.func170, Try.ntmps170
  go_wp2
  have hs0 : Hid (w.heap.size + 1 = (w.alloc (.cells #[.int .i64 x, .int .i64 y, .slice A N c] 79)).heap.size) := by show _ = _; simp
  have ho0 : ((w.alloc (.cells #[.int .i64 x, .int .i64 y, .slice A N c] 79)).alloc (.cells #[] 3)).ownsRow (w.heap.size + 1) 3 1 (.slice (some ⟨w.heap.size + 1, 0, none⟩) 0 0) 0 [] := by
    have := World.ownsRow_lit (base := w.heap.size + 1) (e := 3) (size := 1) (w.alloc (.cells #[.int .i64 x, .int .i64 y, .slice A N c] 79)) #[] 0 (by simp) (by unfold maxLen; omega) rfl
    simpa using this
  have hb0 : Below (w.heap.size + 1) (w.alloc (.cells #[.int .i64 x, .int .i64 y, .slice A N c] 79)) ((w.alloc (.cells #[.int .i64 x, .int .i64 y, .slice A N c] 79)).alloc (.cells #[] 3)) := by
    rw [hs0.out]; exact grow_alloc _ _
  go_loopw [5, 11] (fun v i wr => ∃ k : Nat, k ≤ N ∧ i = .int .i64 k ∧ Hid (Below (w.heap.size + 1) (w.alloc (.cells #[.int .i64 x, .int .i64 y, .slice A N c] 79)) wr) ∧ Hid (wr.ownsRow (w.heap.size + 1) 3 1 v (selN p k).length (ints (selN p k)))) (fun _ i _ => N - (intOf i).toNat)
  case atStart => exact ⟨0, Nat.zero_le _, rfl, hb0, ho0⟩
  case round =>
    obtain ⟨k, hk, rfl, hb, ho⟩ := hrel
    by_cases hlt : k < N
    · have hW : Below w.heap.size w wr := (grow_alloc w _).trans (hb.out.mono (by omega))
      have hsz := hb.out.size
      rw [← hs0.out] at hsz
      have hle := selN_le p k
      have hcall := Hp.out wr k hlt hW
      cases hq : p k with
      | true =>
        rw [hq] at hcall
        have Hc := Lib.hid hcall
        have Hq := Lib.hid hq
        clear hcall hq hW
        go_wp2_with fail
        refine Hc.out.mono ?_
        rintro e w1 ⟨rfl, hb1⟩
        have hsz1 := hb1.size
        go_wp2_with ((at_builtin; refine wpList_append_own _ rfl _ _ 67 rfl (w.heap.size + 1) 3 i0 (.int .i64 0) 1 8 Try.underlying67 hi hz0 hz1 hz2 rfl (by decide) _ _ _ rfl ((own_below ho.out hb1).alloc _) ⟨w1.heap.size, 0, none⟩ 1 1 [.int .i64 k] rfl rfl ?c1 ?c2 ?c3 ?c4 ?c5 ?_))
        case c1 =>
          intro j u hj
          match j, hj with
          | 0, hj => simp at hj; subst hj; simp [Addr.add]
        case c2 => intro u hu; simp at hu; subst hu; rfl
        case c3 => unfold maxLen; omega
        case c4 => omega
        case c5 => have := hb1.size; simp; omega
        intro v' w2 hown' hgrow _
        have hb2 := Lib.hid (grow_put (own_below ho.out hb1) (hb.out.trans (hb1.mono hsz)) (by have := hb1.size; omega) hgrow)
        have ho2 := Lib.hid (own_put Hq.out hown')
        clear hown' hgrow
        go_wp2
        go_roundw
        case rel => exact ⟨k + 1, by omega, by go_num, hb2.out, ho2.out⟩
        case measure => simp [intOf]; omega
      | false =>
        rw [hq] at hcall
        have Hc := Lib.hid hcall
        have Hq := Lib.hid hq
        clear hcall hq hW
        go_wp2_with fail
        refine Hc.out.mono ?_
        rintro e w1 ⟨rfl, hb1⟩
        go_wp2
        go_roundw
        case rel => exact ⟨k + 1, by omega, by go_num, hb.out.trans (hb1.mono hsz), by show _; rw [selN_no Hq.out]; exact own_below ho.out hb1⟩
        case measure => simp [intOf]; omega
    · obtain rfl : k = N := by omega
      have Ho := own_base ho.out (Nat.le_succ w.heap.size)
      have Ho := Lib.hid Ho
      clear ho
      go_wp2
      go_ret
      exact ⟨_, rfl, Ho.out, (grow_alloc w _).trans (hb.out.mono (by omega))⟩
/-- A call hands back a list in memory of its own, and a Bool. -/
def RetSel (w : World) (xs : List Int) (ok : Bool) (e : Ending) (w' : World) : Prop :=
  ∃ u, e = .returned (.tuple #[u, .bool ok]) ∧ w'.ownsRow w.heap.size 3 1 u xs.length (ints xs) ∧ Below w.heap.size w w'
def burnP (zs : List Int) (k : Nat) : Bool := decide (0 < zs.getD k 0)
/-- What a function that gathers hands back. -/
def selR (b : Bool) (xs : List Int) : List Int := if b then xs else []
end Go.Proofs.Ytnacofmjipilhaa
