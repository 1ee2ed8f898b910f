/- Marks in a list of fuels. Conditions: as each states. -/
import Derived.Test.YtnadeddkogapoaaFus
import Derived.Test.YtnadeddkogapoaaStrs
import Derived.Deep.RegionWith
namespace Go.Proofs.Ytnadeddkogapoaa
open Go.ChangeShapes Go.WideShapes Go.ChangeAt Go.RowKit Go.Deep
set_option linter.unusedVariables false
set_option linter.unusedSimpArgs false
set_option maxRecDepth 100000

/-- The marked fuels from a number on. -/
def fmk1 (m k : Nat) : Fu := ⟨((m + 5 * k : Nat) : Int), mtext (m + 5 * k + 1), ((m + 5 * k : Nat) : Int) + 2, ((m + 5 * k : Nat) : Int) + 3, ((m + 5 * k : Nat) : Int) + 4⟩
def fmk (m n : Nat) : List Fu := (List.range n).map (fmk1 m)
theorem fmk_length (m n : Nat) : (fmk m n).length = n := by simp [fmk]
theorem fmk_at (m n k : Nat) (h : k < n) : (fmk m n)[k]? = some (fmk1 m k) := by simp [fmk, h]
theorem fmk_cell (m n k : Nat) (h : k < n) (t : Nat) (u : Value) (hu : (encU (fmk1 m k))[t]? = some u) : (fus (fmk m n))[k * 5 + t]? = some u := flat_at encU_length (fmk_at m n k h) t u hu
theorem fus_length (ps : List Fu) : (fus ps).length = ps.length * 5 := flat_length encU_length ps
def RetMarkF (w : World) (r : Value) (base : Nat) (v : Value) (k n : Nat) (e : Ending) (w' : World) : Prop :=
  e = .returned r ∧ w'.ownsRow base 31 5 v n (fus (fmk k n)) ∧ w.grownBy w' v.ownBlock
theorem markT_any (q : Nat) (w : World) (hn : q ≤ 100000000) : Calls Try.prog 18 #[.int .i64 ((q : Int) + 1)] w fun e w' => e = .returned (.string (mtext (q + 1))) ∧ Below w.heap.size w w' := by
  have := markText_any (q + 1) w (by omega)
  rwa [show ((q + 1 : Nat) : Int) = (q : Int) + 1 by omega] at this
theorem own_spot {w : World} {base s n g c : Nat} {e : TypeId} {cs : List Value} (h : w.ownsRow base e s (.slice (some ⟨g, 0, none⟩) n c) n cs) (j : Nat) (hj : j < n * s) : ∃ u, w.cell? ⟨g, j, none⟩ = some u ∧ w.frozen? ⟨g, j, none⟩ = false := by
  have hl := h.1
  have h1 := h.cellAt j (by omega)
  rw [List.getElem?_eq_getElem (by omega)] at h1
  exact ⟨_, h1, h.frozenAt j⟩
set_option maxHeartbeats 4000000 in
theorem markFuelS_any (v : Value) (m n base : Nat) (cs0 : List Value) (w : World) (h : w.ownsRow base 31 5 v n cs0) (h2 : m ≤ 10000000) (hn : n ≤ 1048576) :
    Calls Try.prog 11 #[v, .int .i64 m] w (RetMarkF w (.int .i64 ((m + 5 * n : Nat) : Int)) base v m n) := by
  obtain ⟨A, c, rfl, hA⟩ := own_form h
  rcases Nat.eq_zero_or_pos n with rfl | hpos
  · have hcs0 : cs0 = [] := List.eq_nil_of_length_eq_zero (by have := h.1; omega)
    subst hcs0
    have Hh := Lib.hid h
    clear h hA
    go_enter Try.func11, Try.ntmps11
    go_wp2
    refine wp_loop_rounds 1 ?_
    rw [rounds_succ]
    go_wp2
    go_ret
    exact ⟨by simp, Hh.out, World.grownBy.refl _ _⟩
  · obtain ⟨g, rfl, hbg, hg⟩ := hA hpos
    have Hh := Lib.hid h
    clear h hA
    go_enter Try.func11, Try.ntmps11
    go_wp2
    go_loopw [1, 5] (fun q i wr => ∃ k : Nat, k ≤ n ∧ i = .int .i64 k ∧ q = .int .i64 ((m + 5 * k : Nat) : Int) ∧ Hid (w.grownBy wr (some g)) ∧ Hid (∃ cs, wr.ownsRow base 31 5 (.slice (some ⟨g, 0, none⟩) n c) n cs ∧ ∀ j, j < k * 5 → cs[j]? = (fus (fmk m n))[j]?)) (fun _ i _ => n - (intOf i).toNat)
    case atStart => exact ⟨0, Nat.zero_le _, rfl, rfl, World.grownBy.refl _ _, _, Hh.out, fun j hj => by omega⟩
    case round =>
      obtain ⟨k, hk, rfl, rfl, hgr, hcs⟩ := hrel
      by_cases hlt : k < n
      · have hF := Lib.hid (fmk_cell m n k hlt)
        unfold fmk1 encU at hF
        have hqs : Hid (((m + 5 * (k + 1) : Nat) : Int) = ((m + 5 * k : Nat) : Int) + 5) := by show _ = _; omega
        have hqb : m + 5 * k ≤ 20000000 := by omega
        generalize m + 5 * k = q at *
        have hM := Lib.hid fun W => markT_any q W (by omega)
        generalize mtext (q + 1) = M at *
        obtain ⟨cs, ho0, hp⟩ := hcs.out
        have Hp := Lib.hid hp
        have Hl := Lib.hid ho0.1
        have hk5 : k * 5 + 4 < n * 5 := by omega
        obtain ⟨u0, c0, f0⟩ := own_spot ho0 (k * 5) (by omega)
        obtain ⟨ho1, hg1⟩ := ho0.stored (k * 5) (.int .i64 (q : Int))
        have Ho1 := Lib.hid ho1
        have hgr1 := Lib.hid (grownBy_trans hgr.out hg1)
        clear hcs ho0 hp hg1 ho1
        go_wp2_with fail
        clear c0 f0
        refine (hM.out _).mono ?_
        rintro e w1 ⟨rfl, hb1⟩
        have ho2 := own_below Ho1.out hb1
        have hgr2 := Lib.hid (grownBy_trans hgr1.out (grownBy_of_below hb1))
        clear hb1 Ho1 hgr1 hgr
        obtain ⟨u1, c1, f1⟩ := own_spot ho2 (k * 5 + 1) (by omega)
        obtain ⟨ho3, g3⟩ := ho2.stored (k * 5 + 1) (.string M)
        obtain ⟨u2, c2, f2⟩ := own_spot ho3 (k * 5 + 2) (by omega)
        obtain ⟨ho4, g4⟩ := ho3.stored (k * 5 + 2) (.int .i64 ((q : Int) + 2))
        obtain ⟨u3, c3, f3⟩ := own_spot ho4 (k * 5 + 3) (by omega)
        obtain ⟨ho5, g5⟩ := ho4.stored (k * 5 + 3) (.int .i64 ((q : Int) + 3))
        obtain ⟨u4, c4, f4⟩ := own_spot ho5 (k * 5 + 4) (by omega)
        obtain ⟨ho6, g6⟩ := ho5.stored (k * 5 + 4) (.int .i64 ((q : Int) + 4))
        have hgz := Lib.hid (grownBy_trans hgr2.out (grownBy_trans g3 (grownBy_trans g4 (grownBy_trans g5 g6))))
        have Ho6 := Lib.hid ho6
        have q2 : (q : Int) + 1 + 1 = (q : Int) + 2 := by omega
        have q3 : (q : Int) + 2 + 1 = (q : Int) + 3 := by omega
        have q4 : (q : Int) + 3 + 1 = (q : Int) + 4 := by omega
        have q5 : (q : Int) + 4 + 1 = (q : Int) + 5 := by omega
        clear ho2 ho3 ho4 ho5 ho6 g3 g4 g5 g6 hgr2 hM
        go_wp2
        go_roundw
        case rel =>
          refine ⟨k + 1, by omega, by go_num, by rw [hqs.out], hgz.out, _, Ho6.out, ?_⟩
          have e0 := hF.out 0 _ rfl
          have e1 := hF.out 1 _ rfl
          have e2 := hF.out 2 _ rfl
          have e3 := hF.out 3 _ rfl
          have e4 := hF.out 4 _ rfl
          have hl := Hl.out
          have p1 := prefix_set Hp.out (by omega) e0
          have p2 := prefix_set p1 (by rw [List.length_set]; omega) e1
          have p3 := prefix_set p2 (by simp only [List.length_set]; omega) e2
          have p4 := prefix_set p3 (by simp only [List.length_set]; omega) e3
          have p5 := prefix_set p4 (by simp only [List.length_set]; omega) e4
          intro j hj
          exact p5 j (by omega)
        case measure => simp [intOf]; omega
      · obtain ⟨cs, ho, hp⟩ := hcs.out
        obtain rfl : k = n := by omega
        have hcs' : cs = fus (fmk m k) := prefix_all (n := k * 5) (fun j hj => hp j hj) (by have := ho.1; omega) (by rw [fus_length, fmk_length])
        subst hcs'
        have Ho := Lib.hid ho
        clear ho hp hcs hlt
        go_wp2
        go_ret
        exact ⟨rfl, Ho.out, hgr.out⟩
end Go.Proofs.Ytnadeddkogapoaa
