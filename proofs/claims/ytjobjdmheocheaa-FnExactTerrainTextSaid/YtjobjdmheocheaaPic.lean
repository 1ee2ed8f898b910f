/- Pictures: a letter for each cell, a line for each row; the program's. Conditions: as each states. -/
import Derived.Test.YtjobjdmheocheaaGrow2
import Derived.Laws.BytesArg
namespace Go.Proofs.Ytjobjdmheocheaa
open Go.ChangeShapes Go.WideShapes Go.ChangeAt Go.RowKit Go.Deep
set_option linter.unusedVariables false
set_option linter.unusedSimpArgs false
set_option maxRecDepth 100000

/-- A text of bytes. -/
def bs (l : List UInt8) : ByteArray := ⟨l.toArray⟩
theorem bs_size (l : List UInt8) : (bs l).size = l.length := by show l.toArray.size = _; simp
theorem bs_add (l : List UInt8) (c : UInt8) : bs l ++ { data := #[c] } = bs (l ++ [c]) := by
  show (ByteArray.mk l.toArray ++ ByteArray.mk [c].toArray) = _
  rw [ByteArray.mk_append_mk]; rfl
theorem bs_app (l m : List UInt8) : bs l ++ bs m = bs (l ++ m) := ByteArray.mk_append_mk l m
/-- Bytes as cells. -/
abbrev byts (l : List UInt8) : List Value := l.map fun c => Value.int .u8 (c.toNat : Int)
theorem byts_one (l : List UInt8) : ∀ u ∈ byts l, u.oneCell' = true := by
  intro u hu; obtain ⟨z, _, rfl⟩ := List.mem_map.1 hu; rfl
theorem strOf_byts (l : List UInt8) : strOfNums (l.map fun c => (c.toNat : Int)) = bs l := by
  unfold strOfNums bs
  congr 2
  rw [List.map_map]
  conv => rhs; rw [← List.map_id l]
  apply List.map_congr_left
  intro c _
  simp
/-- A slice of bytes as a text. -/
theorem conv_bytes {P : Program} {w : World} {base : Nat} {e t d : TypeId} {v : Value} {l : List UInt8} (hs : P.underlying t = some (.slice e)) (he : P.underlying e = some (.int .u8)) (hd : P.underlying d = some .string)
    (h : Qw w base e 1 v l.length (byts l)) : (convert t d v).run P w = .ok (.string (bs l)) w := by
  rcases h.2 with ⟨rfl, h0⟩ | ⟨g, off, cap, cur, rfl, _⟩
  · obtain rfl : l = [] := List.eq_nil_of_length_eq_zero h0
    exact run_convert_bytes_nil w t e hs he 0 0 d hd
  · have := run_convert_bytes_arg (P := P) w t e hs he g off l.length cap (l.map fun c => (c.toNat : Int)) (by simp) (fun i hi => by
      refine h.cells (spot := none) rfl i _ ?_
      simp [List.getD_eq_getElem?_getD, hi]) d hd
    rw [strOf_byts] at this
    exact this
/-- The picture of the first cells. -/
def pic (x : Int) (f : Nat → UInt8) (k : Nat) : List UInt8 := (List.range k).flatMap fun i => f i :: if (i : Int) % x = x - 1 then [10] else []
theorem pic_yes {x : Int} {f : Nat → UInt8} {k : Nat} (h : (k : Int) % x = x - 1) : pic x f (k + 1) = pic x f k ++ [f k] ++ [10] := by
  unfold pic; rw [List.range_succ, List.flatMap_append]; simp [h]
theorem pic_no {x : Int} {f : Nat → UInt8} {k : Nat} (h : ¬ (k : Int) % x = x - 1) : pic x f (k + 1) = pic x f k ++ [f k] := by
  unfold pic; rw [List.range_succ, List.flatMap_append]; simp [h]
theorem pic_le (x : Int) (f : Nat → UInt8) : ∀ k, (pic x f k).length ≤ 2 * k
  | 0 => by simp [pic]
  | k + 1 => by
    have := pic_le x f k
    by_cases h : (k : Int) % x = x - 1
    · rw [pic_yes h]; simp; omega
    · rw [pic_no h]; simp; omega
theorem info_byte : (Try.prog.info? 5).map (fun i => (i.zero, i.size, i.bytes)) = some (some (.int .u8 0), 1, 1) := by kernel_rfl
theorem byts_add {B : Nat} {e : TypeId} {w1 : World} {v : Value} {l : List UInt8} {c : UInt8} (h : Qw w1 B e 1 v (l.length + 1) (byts l ++ [.int .u8 (c.toNat : Int)])) : Qw w1 B e 1 v (l ++ [c]).length (byts (l ++ [c])) := by simpa using h
set_option maxHeartbeats 4000000 in
theorem picture_any (x y : Int) (u : Value) (zs : List Int) (g : Nat) (first lb : Array Value) (f : Nat → UInt8) (w : World) (h : Sl w 1 u zs.length (ints zs)) (h1 : 1 ≤ x) (h2 : x ≤ 5) (hn : zs.length ≤ 25)
    (eg : ∀ args w, (callFunc g args).run Try.prog w = .ok (.enter g args) w)
    (hp : ∀ (W : World) (k : Nat), k < zs.length → Below w.heap.size w W → Calls Try.prog g (first.push (.int .i64 k) ++ lb) W fun e w' => e = .returned (.int .u8 ((f k).toNat : Int)) ∧ Below W.heap.size W w') :
    Calls Try.prog 75 #[terrV x y u, .func (.func g) first lb] w fun e w' => e = .returned (.string (bs (pic x f zs.length))) ∧ Below w.heap.size w w' := by
  obtain ⟨A, c, rfl⟩ := h.val
  obtain ⟨j0, hj, hy0, hy1, hy2⟩ := info_parts info_byte
  clear h
  generalize zs.length = N at *
  have Hp := Lib.hid hp
  clear hp
  have hTB0 : Hid (TB ((w.alloc (.cells #[.int .i64 x, .int .i64 y, .slice A N c] 28)).alloc (.cells #[] 5)) w.heap.size x y (.slice A N c)) := by show TB _ _ _ _ _; unfold TB; simp [go_sem]
  have hq0 : Hid (Qw ((w.alloc (.cells #[.int .i64 x, .int .i64 y, .slice A N c] 28)).alloc (.cells #[] 5)) (w.heap.size + 1) 5 1 (.slice (some ⟨w.heap.size + 1, 0, none⟩) 0 0) 0 []) := Qw.emptyAt (hp2 _ _ _) (Nat.le_refl _)
  have hb0 : Hid (Below w.heap.size w ((w.alloc (.cells #[.int .i64 x, .int .i64 y, .slice A N c] 28)).alloc (.cells #[] 5))) := two_news _ _ _
  have Hcv : Hid (∀ (W : World) (v : Value) (l : List UInt8), Qw W (w.heap.size + 1) 5 1 v l.length (byts l) → (convert 75 9 v).run Try.prog W = .ok (.string (bs l)) W) := fun W v l hq => conv_bytes Try.underlying75 Try.underlying5 Try.underlying9 hq
  go_enter Try.func75, Try.ntmps75
  go_wp2
  go_loopw [5, 11] (fun v i wr => ∃ k : Nat, k ≤ N ∧ i = .int .i64 k ∧ Hid (Below w.heap.size w wr) ∧ w.heap.size + 1 < wr.heap.size ∧ Hid (TB wr w.heap.size x y (.slice A N c)) ∧ Hid (Qw wr (w.heap.size + 1) 5 1 v (pic x f k).length (byts (pic x f k)))) (fun _ i _ => N - (intOf i).toNat)
  case atStart => exact ⟨0, Nat.zero_le _, rfl, hb0.out, by simp, hTB0.out, hq0.out⟩
  case round =>
    obtain ⟨k, hk, rfl, hb, hsz, hT, hq⟩ := hrel
    by_cases hlt : k < N
    · have hle := pic_le x f k
      have Hc := Lib.hid (Hp.out wr k hlt hb.out)
      have Hy : Hid ((k : Int) % x = x - 1 → pic x f (k + 1) = pic x f k ++ [f k] ++ [10]) := pic_yes
      have Hn : Hid (¬ (k : Int) % x = x - 1 → pic x f (k + 1) = pic x f k ++ [f k]) := pic_no
      have HC1 := Lib.hid fun W => column_any x y (.slice A N c) k W h1 h2 (by omega) (by omega)
      obtain ⟨⟨p1, p2⟩, p3, p4⟩ := cell_bds (c := (k : Int)) h1 h2 (by omega) (by omega)
      generalize (k : Int) % x = km at *
      go_wp2_with fail
      refine Hc.out.mono ?_
      rintro e w1 ⟨rfl, hb1⟩
      have hs1 := hb1.size
      have hT1 := Lib.hid (hT.out.below hb1)
      have hq1 := Lib.hid (hq.out.below hb1)
      have hbb := Lib.hid (grow_trans hb.out hb1)
      generalize pic x f k = L at *
      generalize hF' : pic x f (k + 1) = L' at *
      have HF' := Lib.hid hF'
      clear hF' Hc hb1 hb hT hq
      generalize f k = fk at *
      go_wp2_with ((at_builtin; refine wpList_append_q _ rfl _ _ 75 rfl (w.heap.size + 1) 5 j0 (.int .u8 0) 1 1 Try.underlying75 hj hy0 hy1 hy2 rfl (by decide) _ _ _ rfl (Qw.below (hq1.out) (grow_alloc w1 _)) _ 1 [.int .u8 (fk.toNat : Int)] rfl (Sl.boxAt (hp0 w1 _)) (by intro u hu; simp at hu; subst hu; rfl) (by unfold maxLen; omega) (by omega) (by simp; omega) ?_))
      intro vA wA hqA hgA hdA
      have hb6 := Lib.hid ((hbb.out.alloc hbb.out.size _).grown hgA (by simp; omega) (fun j hj => by have := (hq1.out.lt j hj).1; omega))
      have hT6 := Lib.hid ((hT1.out.below (grow_alloc _ _)).kept hgA (fun e => by have := (hq1.out.lt _ e.symm).1; omega))
      have hq6 := Lib.hid (byts_add hqA)
      have hs6 := hgA.size
      simp at hs6
      have hs7 : w.heap.size + 1 < wA.heap.size := by omega
      clear hgA hdA hqA hq1 hT1 hbb
      have hlc := fun n : Later wA => n.cell
      obtain ⟨t0, t1, t2⟩ := hT6.out
      have hs0 : w.heap.size < wA.heap.size := by omega
      by_cases hkm : km = x - 1
      · have e1 : (km == x - 1) = true := by simpa using hkm
        have Hy := Lib.hid (Hy.out hkm)
        go_wp2_with fail
        refine wp_region_later (by kernel_rfl) (by kernel_rfl) ?_
        repeat (go_big_quiet_step ((go_at_call 98; exact later_of (HC1.out _))))
        refine wpQuiet_nil ?_
        rintro _ ⟨wq, rfl⟩
        have h8 := wq.h
        clear hlc
        generalize wq.w = wz at *
        have hb8 := Lib.hid (grow_trans hb6.out h8)
        have hT8 := Lib.hid (hT6.out.below h8)
        have hq8 := Lib.hid (hq6.out.below h8)
        have hs8 := h8.size
        clear h8 t0 t1 t2
        have hl2 : (L ++ [fk]).length ≤ 2 * k + 1 := by simp; omega
        generalize hL2 : L ++ [fk] = L2 at *
        have HL2 := Lib.hid hL2
        clear hL2
        go_wp2_with ((at_builtin; refine wpList_append_q _ rfl _ _ 75 rfl (w.heap.size + 1) 5 j0 (.int .u8 0) 1 1 Try.underlying75 hj hy0 hy1 hy2 rfl (by decide) _ _ _ rfl (Qw.below (hq8.out) (grow_alloc wz _)) _ 1 [.int .u8 10] rfl (Sl.boxAt (hp0 wz _)) (by intro u hu; simp at hu; subst hu; rfl) (by unfold maxLen; omega) (by omega) (by simp; omega) ?_))
        intro vA wA hqA hgA hdA
        have hb9 := Lib.hid ((hb8.out.alloc hb8.out.size _).grown hgA (by simp; omega) (fun j hj => by have := (hq8.out.lt j hj).1; omega))
        have hT9 := Lib.hid ((hT8.out.below (grow_alloc _ _)).kept hgA (fun e => by have := (hq8.out.lt _ e.symm).1; omega))
        have hq9 := Lib.hid (byts_add (c := 10) hqA)
        have hs9 := hgA.size
        simp at hs9
        have hs10 : w.heap.size + 1 < wA.heap.size := by omega
        clear hgA hdA hqA
        go_wp2
        go_roundw
        case rel => exact ⟨k + 1, by omega, by go_num, hb9.out, hs10, hT9.out, by show Qw _ _ _ _ _ _ _; rw [HF'.out, Hy.out]; exact hq9.out⟩
        case measure => simp [intOf]; omega
      · have e1 : (km == x - 1) = false := by simpa using hkm
        have Hn := Lib.hid (Hn.out hkm)
        go_wp2_with fail
        refine wp_region_later (by kernel_rfl) (by kernel_rfl) ?_
        repeat (go_big_quiet_step ((go_at_call 98; exact later_of (HC1.out _))))
        refine wpQuiet_nil ?_
        rintro _ ⟨wq, rfl⟩
        have h8 := wq.h
        clear hlc
        generalize wq.w = wz at *
        have hb8 := Lib.hid (grow_trans hb6.out h8)
        have hT8 := Lib.hid (hT6.out.below h8)
        have hq8 := Lib.hid (hq6.out.below h8)
        have hs8 := h8.size
        clear h8 t0 t1 t2
        go_wp2
        go_roundw
        case rel => exact ⟨k + 1, by omega, by go_num, hb8.out, by omega, hT8.out, by show Qw _ _ _ _ _ _ _; rw [HF'.out, Hn.out]; exact hq8.out⟩
        case measure => simp [intOf]; omega
    · obtain rfl : k = N := by omega
      have hcv := Hcv.out _ _ _ hq.out
      go_wp2
      go_ret
      exact ⟨rfl, hb.out⟩
end Go.Proofs.Ytjobjdmheocheaa
