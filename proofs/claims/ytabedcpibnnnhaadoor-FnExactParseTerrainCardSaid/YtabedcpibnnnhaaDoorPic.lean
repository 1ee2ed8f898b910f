/- Pictures: a letter for each cell, a line for each row; the program's. Conditions: as each states. -/
import Derived.Test.YtabedcpibnnnhaaDoorCell2
import Derived.Test.YtabedcpibnnnhaaDoorTB
import Derived.StillTailTactics
import Derived.Test.YtabedcpibnnnhaaDoorBs
namespace Go.Proofs.YtabedcpibnnnhaaDoor
open Go.ChangeShapes Go.WideShapes Go.ChangeAt Go.RowKit Go.Deep
set_option linter.unusedVariables false
set_option linter.unusedSimpArgs false
set_option maxRecDepth 100000

/-- The picture of the first cells. -/
def pic (x : Int) (f : Nat → UInt8) (k : Nat) : List UInt8 := (List.range k).flatMap fun i => f i :: if (i : Int) % x = x - 1 then [10] else []
theorem pic_yes {x : Int} {f : Nat → UInt8} {k : Nat} (h : (k : Int) % x = x - 1) : pic x f (k + 1) = pic x f k ++ [f k] ++ [10] := by
  unfold pic; rw [List.range_succ, List.flatMap_append]; simp [h]
theorem pic_no {x : Int} {f : Nat → UInt8} {k : Nat} (h : ¬ (k : Int) % x = x - 1) : pic x f (k + 1) = pic x f k ++ [f k] := by
  unfold pic; rw [List.range_succ, List.flatMap_append]; simp [h]
theorem pic_le (x : Int) (f : Nat → UInt8) : ∀ k, (pic x f k).length ≤ 2 * k
  | 0 => by simp [pic]
  | k + 1 => by
    have := pic_le x f k
    by_cases h : (k : Int) % x = x - 1
    · rw [pic_yes h]; simp; omega
    · rw [pic_no h]; simp; omega
theorem info_byte : (Tryd.prog.info? 5).map (fun i => (i.zero, i.size, i.bytes)) = some (some (.int .u8 0), 1, 1) := by kernel_rfl
theorem byts_add {B : Nat} {e : TypeId} {w1 : World} {v : Value} {l : List UInt8} {c : UInt8} (h : Qw w1 B e 1 v (l.length + 1) (byts l ++ [.int .u8 (c.toNat : Int)])) : Qw w1 B e 1 v (l ++ [c]).length (byts (l ++ [c])) := by simpa using h
set_option maxHeartbeats 4000000 in
theorem picture_any (x y : Int) (u : Value) (zs : List Int) (g : Nat) (first lb : Array Value) (f : Nat → UInt8) (w : World) (h : Sl w 1 u zs.length (ints zs)) (h1 : 1 ≤ x) (h2 : x ≤ 5) (hn : zs.length ≤ 25)
    (eg : ∀ args w, (callFunc g args).run Tryd.prog w = .ok (.enter g args) w)
    (hp : ∀ (W : World) (k : Nat), k < zs.length → Below w.heap.size w W → Calls Tryd.prog g (first.push (.int .i64 k) ++ lb) W fun e w' => e = .returned (.int .u8 ((f k).toNat : Int)) ∧ Below W.heap.size W w') :
    Calls Tryd.prog 86 #[terrV x y u, .func (.func g) first lb] w fun e w' => e = .returned (.string (bs (pic x f zs.length))) ∧ Below w.heap.size w w' := by
  obtain ⟨A, c, rfl⟩ := h.val
  obtain ⟨j0, hj, hy0, hy1, hy2⟩ := info_parts info_byte
  clear h
  generalize zs.length = N at *
  have Hp := Lib.hid hp
  clear hp
  have hTB0 : Hid (TB ((w.alloc (.cells #[.int .i64 x, .int .i64 y, .slice A N c] 34)).alloc (.cells #[] 5)) w.heap.size x y (.slice A N c)) := by show TB _ _ _ _ _; unfold TB; simp [go_sem]
  have hq0 : Hid (Qw ((w.alloc (.cells #[.int .i64 x, .int .i64 y, .slice A N c] 34)).alloc (.cells #[] 5)) (w.heap.size + 1) 5 1 (.slice (some ⟨w.heap.size + 1, 0, none⟩) 0 0) 0 []) := Qw.emptyAt (hp2 _ _ _) (Nat.le_refl _)
  have hb0 : Hid (Below w.heap.size w ((w.alloc (.cells #[.int .i64 x, .int .i64 y, .slice A N c] 34)).alloc (.cells #[] 5))) := two_news _ _ _
  have Hcv : Hid (∀ (W : World) (v : Value) (l : List UInt8), Qw W (w.heap.size + 1) 5 1 v l.length (byts l) → (convert 22 9 v).run Tryd.prog W = .ok (.string (bs l)) W) := fun W v l hq => conv_bytes Tryd.underlying22 Tryd.underlying5 Tryd.underlying9 hq
  go_enter Tryd.func86, Tryd.ntmps86
  go_wp2
  go_loopw [5, 11] (fun v i wr => ∃ k : Nat, k ≤ N ∧ i = .int .i64 k ∧ Hid (Below w.heap.size w wr) ∧ w.heap.size + 1 < wr.heap.size ∧ Hid (TB wr w.heap.size x y (.slice A N c)) ∧ Hid (Qw wr (w.heap.size + 1) 5 1 v (pic x f k).length (byts (pic x f k)))) (fun _ i _ => N - (intOf i).toNat)
  case atStart => exact ⟨0, Nat.zero_le _, rfl, hb0.out, by simp, hTB0.out, hq0.out⟩
  case round =>
    obtain ⟨k, hk, rfl, hb, hsz, hT, hq⟩ := hrel
    by_cases hlt : k < N
    · have hle := pic_le x f k
      have Hc := Lib.hid (Hp.out wr k hlt hb.out)
      have Hy : Hid ((k : Int) % x = x - 1 → pic x f (k + 1) = pic x f k ++ [f k] ++ [10]) := pic_yes
      have Hn : Hid (¬ (k : Int) % x = x - 1 → pic x f (k + 1) = pic x f k ++ [f k]) := pic_no
      have HC1 := Lib.hid fun W => column_any x y (.slice A N c) k W h1 h2 (by omega) (by omega)
      obtain ⟨⟨p1, p2⟩, p3, p4⟩ := cell_bds (c := (k : Int)) h1 h2 (by omega) (by omega)
      generalize (k : Int) % x = km at *
      go_wp2_with fail
      refine Hc.out.mono ?_
      rintro e w1 ⟨rfl, hb1⟩
      have hs1 := hb1.size
      have hT1 := Lib.hid (hT.out.below hb1)
      have hq1 := Lib.hid (hq.out.below hb1)
      have hbb := Lib.hid (grow_trans hb.out hb1)
      generalize pic x f k = L at *
      generalize hF' : pic x f (k + 1) = L' at *
      have HF' := Lib.hid hF'
      clear hF' Hc hb1 hb hT hq
      generalize f k = fk at *
      go_wp2_with ((at_builtin; refine wpList_append_q _ rfl _ _ 22 rfl (w.heap.size + 1) 5 j0 (.int .u8 0) 1 1 Tryd.underlying22 hj hy0 hy1 hy2 rfl (by decide) _ _ _ rfl (Qw.below (hq1.out) (grow_alloc w1 _)) _ 1 [.int .u8 (fk.toNat : Int)] rfl (Sl.boxAt (hp0 w1 _)) (by intro u hu; simp at hu; subst hu; rfl) (by unfold maxLen; omega) (by omega) (by simp; omega) ?_))
      intro vA wA hqA hgA hdA
      have hb6 := Lib.hid ((hbb.out.alloc hbb.out.size _).grown hgA (by simp; omega) (fun j hj => by have := (hq1.out.lt j hj).1; omega))
      have hT6 := Lib.hid ((hT1.out.below (grow_alloc _ _)).kept hgA (fun e => by have := (hq1.out.lt _ e.symm).1; omega))
      have hq6 := Lib.hid (byts_add hqA)
      have hs6 := hgA.size
      simp at hs6
      have hs7 : w.heap.size + 1 < wA.heap.size := by omega
      clear hgA hdA hqA hq1 hT1 hbb
      have hlc := fun n : Later wA => n.cell
      obtain ⟨t0, t1, t2⟩ := hT6.out
      have hs0 : w.heap.size < wA.heap.size := by omega
      by_cases hkm : km = x - 1
      · have e1 : (km == x - 1) = true := by simpa using hkm
        have Hy := Lib.hid (Hy.out hkm)
        go_wp2_with fail
        refine wp_region_later (by kernel_rfl) (by kernel_rfl) ?_
        repeat (go_big_quiet_step ((go_at_call 102; exact later_of (HC1.out _))))
        refine wpQuiet_nil ?_
        rintro _ ⟨wq, rfl⟩
        have h8 := wq.h
        clear hlc
        generalize wq.w = wz at *
        have hb8 := Lib.hid (grow_trans hb6.out h8)
        have hT8 := Lib.hid (hT6.out.below h8)
        have hq8 := Lib.hid (hq6.out.below h8)
        have hs8 := h8.size
        clear h8 t0 t1 t2
        have hl2 : (L ++ [fk]).length ≤ 2 * k + 1 := by simp; omega
        generalize hL2 : L ++ [fk] = L2 at *
        have HL2 := Lib.hid hL2
        clear hL2
        go_wp2_with ((at_builtin; refine wpList_append_q _ rfl _ _ 22 rfl (w.heap.size + 1) 5 j0 (.int .u8 0) 1 1 Tryd.underlying22 hj hy0 hy1 hy2 rfl (by decide) _ _ _ rfl (Qw.below (hq8.out) (grow_alloc wz _)) _ 1 [.int .u8 10] rfl (Sl.boxAt (hp0 wz _)) (by intro u hu; simp at hu; subst hu; rfl) (by unfold maxLen; omega) (by omega) (by simp; omega) ?_))
        intro vA wA hqA hgA hdA
        have hb9 := Lib.hid ((hb8.out.alloc hb8.out.size _).grown hgA (by simp; omega) (fun j hj => by have := (hq8.out.lt j hj).1; omega))
        have hT9 := Lib.hid ((hT8.out.below (grow_alloc _ _)).kept hgA (fun e => by have := (hq8.out.lt _ e.symm).1; omega))
        have hq9 := Lib.hid (byts_add (c := 10) hqA)
        have hs9 := hgA.size
        simp at hs9
        have hs10 : w.heap.size + 1 < wA.heap.size := by omega
        clear hgA hdA hqA
        go_wp2
        go_roundw
        case rel => exact ⟨k + 1, by omega, by go_num, hb9.out, hs10, hT9.out, by show Qw _ _ _ _ _ _ _; rw [HF'.out, Hy.out]; exact hq9.out⟩
        case measure => simp [intOf]; omega
      · have e1 : (km == x - 1) = false := by simpa using hkm
        have Hn := Lib.hid (Hn.out hkm)
        go_wp2_with fail
        refine wp_region_later (by kernel_rfl) (by kernel_rfl) ?_
        repeat (go_big_quiet_step ((go_at_call 102; exact later_of (HC1.out _))))
        refine wpQuiet_nil ?_
        rintro _ ⟨wq, rfl⟩
        have h8 := wq.h
        clear hlc
        generalize wq.w = wz at *
        have hb8 := Lib.hid (grow_trans hb6.out h8)
        have hT8 := Lib.hid (hT6.out.below h8)
        have hq8 := Lib.hid (hq6.out.below h8)
        have hs8 := h8.size
        clear h8 t0 t1 t2
        go_wp2
        go_roundw
        case rel => exact ⟨k + 1, by omega, by go_num, hb8.out, by omega, hT8.out, by show Qw _ _ _ _ _ _ _; rw [HF'.out, Hn.out]; exact hq8.out⟩
        case measure => simp [intOf]; omega
    · obtain rfl : k = N := by omega
      have hcv := Hcv.out _ _ _ hq.out
      go_wp2
      go_ret
      exact ⟨rfl, hb.out⟩
end Go.Proofs.YtabedcpibnnnhaaDoor
