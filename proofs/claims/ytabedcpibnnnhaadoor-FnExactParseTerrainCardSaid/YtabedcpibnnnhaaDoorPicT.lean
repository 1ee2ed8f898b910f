/- TerrainText in the program and in the reference. Conditions: as each states. -/
import Derived.Test.YtabedcpibnnnhaaDoorPic
import Derived.IntWalk
namespace Go.Proofs.YtabedcpibnnnhaaDoor
open Go.ChangeShapes Go.WideShapes Go.ChangeAt Go.RowKit Go.Deep
set_option linter.unusedVariables false
set_option linter.unusedSimpArgs false
set_option maxRecDepth 100000

/-- A text and whether there is one. -/
def strT (b : Bool) (l : List UInt8) : Value := if b then .tuple #[.string (bs l), .bool true] else .tuple #[.string (bs []), .bool false]
theorem strT_shape (b : Bool) (l : List UInt8) : ∃ m c, strT b l = .tuple #[.string m, .bool c] := by cases b <;> exact ⟨_, _, rfl⟩
/-- The letter of a number. -/
def letN (n : Nat) : UInt8 := if n = 0 then 46 else UInt8.ofNat (96 + n)
theorem letN_zero : letN 0 = 46 := rfl
theorem letN_pos {n : Nat} (h : n ≠ 0) (h2 : n ≤ 20) : ((letN n).toNat : Int) = 97 + (n : Int) - 1 := by
  unfold letN
  rw [if_neg h, UInt8.toNat_ofNat']
  omega
/-- The letter of a cell. -/
def terF (zs : List Int) (k : Nat) : UInt8 := letN (zs.getD k 0).toNat
theorem terr_burn {x y : Int} {zs : List Int} (h : terrB x y zs = true) : ∀ z ∈ zs, 0 ≤ z ∧ z ≤ 20 := by
  unfold terrB at h
  simp only [Bool.and_eq_true, List.all_eq_true] at h
  intro z hz
  exact inB_iff.1 (h.2 z hz)
def lets : ByteArray := ⟨#[46, 97, 98, 99, 100, 101, 102, 103, 104, 105, 106, 107, 108, 109, 110, 111, 112, 113, 114, 115, 116]⟩
theorem lets_at : ∀ n : Fin 21, (lets.extract n.val (n.val + 1)).data.toList = [letN n.val] := by decide +kernel
theorem lets_bs {n : Nat} (h : n ≤ 20) : lets.extract n (n + 1) = bs [letN n] := by
  apply ByteArray.ext
  apply Array.toList_inj.1
  exact lets_at ⟨n, by omega⟩
theorem callFunc_tpic : ∀ args w, (callFunc 87 args).run Tryd.prog w = .ok (.enter 87 args) w := fun _ _ => by rfl
theorem tpic1_any (x y : Int) (u : Value) (zs : List Int) (B k : Nat) (w : World) (hT : TB w B x y u) (h : Sl w 1 u zs.length (ints zs)) (hk : k < zs.length) (hz : ∀ z ∈ zs, 0 ≤ z ∧ z ≤ 20) :
    Calls Tryd.prog 87 #[.int .i64 k, .pointer (some ⟨B, 0, none⟩)] w fun e w' => e = .returned (.int .u8 ((terF zs k).toNat : Int)) ∧ Below w.heap.size w w' := by
  have hmx := h.len
  unfold maxLen at hmx
  obtain ⟨A, c, rfl⟩ := h.val
  obtain ⟨b, off, z, rfl, hzk, hcell⟩ := h.at1 rfl hk
  obtain ⟨hz1, hz2⟩ := hz z (List.mem_of_getElem? hzk)
  obtain ⟨n, rfl⟩ := Int.eq_ofNat_of_zero_le hz1
  have HF : Hid (terF zs k = letN n) := by
    show _ = _
    unfold terF
    rw [List.getD_eq_getElem?_getD, hzk]; simp
  obtain ⟨t0, t1, t2⟩ := hT
  clear h hzk hz
  generalize zs.length = N at *
  generalize terF zs k = R at *
  by_cases h0 : n = 0
  · subst h0
    go_enter Tryd.func87, Tryd.ntmps87
    go_wp2
    go_ret
    exact ⟨by rw [HF.out]; rfl, Below.refl _ _⟩
  · have H1 := Lib.hid (letN_pos h0 (by omega))
    have e0 : ((n : Int) == 0) = false := by simpa using h0
    have e1 : IntKind.u8.wrap (97 + (n : Int) - 1) = 97 + (n : Int) - 1 := by
      simp [IntKind.wrap, IntKind.bits, IntKind.signed]; omega
    go_enter Tryd.func87, Tryd.ntmps87
    go_wp2
    go_ret
    exact ⟨by rw [HF.out, H1.out]; simp [go_sem]; try omega, Below.refl _ _⟩
set_option maxHeartbeats 2000000 in
theorem TerrainText_any (x y : Int) (u : Value) (zs : List Int) (w : World) (h : Sl w 1 u zs.length (ints zs)) :
    Calls Tryd.prog 57 #[terrV x y u] w fun e w' => e = .returned (strT (terrB x y zs) (pic x (terF zs) zs.length)) ∧ Below w.heap.size w w' := by
  have hTB0 : Hid (TB (w.alloc (.cells #[.int .i64 x, .int .i64 y, u] 34)) w.heap.size x y u) := by show TB _ _ _ _ _; unfold TB; simp [go_sem]
  have hb0 : Hid (Below w.heap.size w (w.alloc (.cells #[.int .i64 x, .int .i64 y, u] 34))) := grow_alloc _ _
  have HR := Lib.hid fun W hW => IsTerrain_any x y u zs W (h.below (w' := W) hW)
  have HF : Hid (terrB x y zs = true → ∀ W, Below w.heap.size w W → TB W w.heap.size x y u → Calls Tryd.prog 86 #[terrV x y u, .func (.func 87) #[] #[.pointer (some ⟨w.heap.size, 0, none⟩)]] W fun e w' => e = .returned (.string (bs (pic x (terF zs) zs.length))) ∧ Below W.heap.size W w') := by
    show _ → _
    intro hT W hW hTW
    obtain ⟨⟨hx1, hx2⟩, _, _, hzl⟩ := terr_dims hT
    exact picture_any x y u zs 87 #[] #[.pointer (some ⟨w.heap.size, 0, none⟩)] (terF zs) W (h.below hW) hx1 hx2 (by omega) callFunc_tpic
      (fun W' k hk hW' => by
        have := tpic1_any x y u zs w.heap.size k W' (hTW.below hW') (h.below (grow_trans hW hW')) hk (terr_burn hT)
        simpa using this)
  obtain ⟨A, c, rfl⟩ := h.val
  clear h
  generalize terrB x y zs = T at *
  generalize pic x (terF zs) zs.length = L at *
  generalize zs.length = N at *
  cases T
  · go_enter Tryd.func57, Tryd.ntmps57
    go_wp2_with fail
    with_reducible refine (HR.out _ hb0.out).mono ?_
    rintro e w1 ⟨rfl, hb1⟩
    have hb1 := Lib.hid (grow_trans hb0.out hb1)
    go_wp2
    go_ret2
    exact ⟨rfl, hb1.out⟩
  · have HG := Lib.hid (HF.out rfl)
    clear HF
    go_enter Tryd.func57, Tryd.ntmps57
    go_wp2_with fail
    with_reducible refine (HR.out _ hb0.out).mono ?_
    rintro e w1 ⟨rfl, hb1⟩
    have hT1 := hTB0.out.below hb1
    have HC := Lib.hid (HG.out w1 (grow_trans hb0.out hb1) hT1)
    obtain ⟨t0, t1, t2⟩ := hT1
    have hb2 := Lib.hid (grow_trans hb0.out hb1)
    clear hb1
    go_wp2_with fail
    with_reducible refine HC.out.mono ?_
    rintro e w2 ⟨rfl, hb3⟩
    have hb3 := Lib.hid (grow_trans hb2.out hb3)
    go_wp2
    go_ret2
    exact ⟨rfl, hb3.out⟩
set_option maxHeartbeats 4000000 in
theorem l2Text_any (x y : Int) (u : Value) (zs : List Int) (w : World) (h : Sl w 1 u zs.length (ints zs)) (hx1 : 1 ≤ x) (hx2 : x ≤ 5) (hm25 : zs.length ≤ 25) (hz : ∀ z ∈ zs, 0 ≤ z ∧ z ≤ 20) :
    Calls Tryd.prog 55 #[terrV x y u] w fun e w' => e = .returned (.string (bs (pic x (terF zs) zs.length))) ∧ Below w.heap.size w w' := by
  have Hs := Lib.hid fun W hW => h.below (w' := W) hW
  have hTB0 : Hid (TB (w.alloc (.cells #[.int .i64 x, .int .i64 y, u] 34)) w.heap.size x y u) := by show TB _ _ _ _ _; unfold TB; simp [go_sem]
  have Hz := Lib.hid hz
  obtain ⟨A, c, rfl⟩ := h.val
  clear h hz
  generalize hN : zs.length = N at *
  have HN := Lib.hid hN
  clear hN
  have hb0 : Hid (Below w.heap.size w (w.alloc (.cells #[.int .i64 x, .int .i64 y, .slice A N c] 34))) := grow_alloc _ _
  go_enter Tryd.func55, Tryd.ntmps55
  go_wp2
  go_loopw [3, 4] (fun s i wr => ∃ k : Nat, k ≤ N ∧ i = .int .i64 k ∧ s = .string (bs (pic x (terF zs) k)) ∧ Hid (Below w.heap.size w wr) ∧ Hid (TB wr w.heap.size x y (.slice A N c))) (fun _ i _ => N - (intOf i).toNat)
  case atStart => exact ⟨0, Nat.zero_le _, rfl, rfl, hb0.out, hTB0.out⟩
  case round =>
    obtain ⟨k, hk, rfl, rfl, hb, hT⟩ := hrel
    obtain ⟨t0, t1, t2⟩ := hT.out
    by_cases hlt : k < N
    · obtain ⟨b, off, z, hA, hzk, hcell⟩ := (Hs.out wr hb.out).at1 HN.out hlt
      subst hA
      obtain ⟨hz1, hz2⟩ := Hz.out z (List.mem_of_getElem? hzk)
      obtain ⟨n, rfl⟩ := Int.eq_ofNat_of_zero_le hz1
      have HFn : Hid (terF zs k = letN n) := by
        show _ = _
        unfold terF
        rw [List.getD_eq_getElem?_getD, hzk]; simp
      have Hl := Lib.hid (lets_bs (n := n) (by omega))
      have hle := pic_le x (terF zs) k
      have Hy : Hid ((k : Int) % x = x - 1 → pic x (terF zs) (k + 1) = pic x (terF zs) k ++ [terF zs k] ++ [10]) := pic_yes
      have Hn : Hid (¬ (k : Int) % x = x - 1 → pic x (terF zs) (k + 1) = pic x (terF zs) k ++ [terF zs k]) := pic_no
      obtain ⟨⟨p1, p2⟩, p3, p4⟩ := cell_bds (c := (k : Int)) hx1 hx2 (by omega) (by omega)
      have m1 : (k : Int).tmod x = (k : Int) % x := Int.tmod_eq_emod_of_nonneg (by omega)
      have m2 : IntKind.i64.wrap ((k : Int) % x) = (k : Int) % x := IntWalk.i64_in _ (by omega)
      have m3 : IntKind.i64.wrap (x - 1) = x - 1 := IntWalk.i64_in _ (by omega)
      have hx0 : (x == 0) = false := by simpa using (show x ≠ 0 by omega)
      clear hzk
      generalize terF zs k = rk at *
      generalize pic x (terF zs) k = L at *
      generalize hF' : pic x (terF zs) (k + 1) = L' at *
      have HF' := Lib.hid hF'
      clear hF'
      have hls : (bs L).size ≤ 50 := by rw [bs_size]; omega
      have hex : (ByteArray.mk #[46, 97, 98, 99, 100, 101, 102, 103, 104, 105, 106, 107, 108, 109, 110, 111, 112, 113, 114, 115, 116]).extract n (n + 1) = bs [rk] := by rw [HFn.out]; exact Hl.out
      have ba := bs_add
      have bb := bs_app
      have hl1 : (bs (L ++ [rk])).size ≤ 51 := by rw [bs_size]; simp; omega
      have hl2 : (bs [rk]).size ≤ 1 := by rw [bs_size]; simp
      by_cases hkm : (k : Int) % x = x - 1
      · have e1 : ((k : Int) % x == x - 1) = true := by simpa using hkm
        have Hy2 := Lib.hid (Hy.out hkm)
        clear hkm
        go_wp2_with fail
        go_quiet (fail)
        go_wp2
        go_roundw
        case rel => exact ⟨k + 1, by omega, by go_num, by rw [HF'.out, Hy2.out]; simp, hb.out.trans ((grow_drewN wr _).mono hb.out.size), hT.out.below (grow_drewN wr _)⟩
        case measure => simp [intOf]; omega
      · have e1 : ((k : Int) % x == x - 1) = false := by simpa using hkm
        have Hn2 := Lib.hid (Hn.out hkm)
        clear hkm
        go_wp2_with fail
        go_quiet (fail)
        go_wp2
        go_roundw
        case rel => exact ⟨k + 1, by omega, by go_num, by rw [HF'.out, Hn2.out], hb.out.trans ((grow_drewN wr _).mono hb.out.size), hT.out.below (grow_drewN wr _)⟩
        case measure => simp [intOf]; omega
    · obtain rfl : k = N := by omega
      go_wp2
      go_ret
      exact ⟨rfl, hb.out⟩
end Go.Proofs.YtabedcpibnnnhaaDoor
