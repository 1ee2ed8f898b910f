/- The program's pieces. Conditions: as each states. -/
import Derived.Test.YtefampjmbjbhcaaRowL
import Derived.Deep.DeepCutAuto
namespace Go.Proofs.Ytefampjmbjbhcaa
open Go.ChangeShapes Go.WideShapes Go.ChangeAt Go.RowKit Go.Deep
set_option linter.unusedVariables false
set_option linter.unusedSimpArgs false
set_option maxRecDepth 100000

/-- The memory of pieces: three boxes, the marks. -/
structure Pc (w wr : World) (x y : Int) (u va fv : Value) (S N : Nat) (sb : List Bool) : Prop where
  hb : Below w.heap.size w wr
  hT : TB wr w.heap.size x y u
  hC : wr.cell? ⟨w.heap.size + 1, 0, none⟩ = some va
  hG : wr.cell? ⟨w.heap.size + 2, 0, none⟩ = some fv
  hs : wr.ownsRow (w.heap.size + 3) 4 1 (.slice (some ⟨S, 0, none⟩) N N) N (sb.map Value.bool)
theorem Pc.below {w wr w' : World} {x y : Int} {u va fv : Value} {S N : Nat} {sb : List Bool} (h : Pc w wr x y u va fv S N sb) (hb : Below wr.heap.size wr w') : Pc w w' x y u va fv S N sb :=
  ⟨grow_trans h.hb hb, h.hT.below hb, cell_below h.hC hb, cell_below h.hG hb, own_below h.hs hb⟩
theorem Pc.grown {w wr w' : World} {x y : Int} {u va fv : Value} {S N : Nat} {sb : List Bool} {row : Option Nat} (h : Pc w wr x y u va fv S N sb) (hg : wr.grownBy w' row) (hr : ∀ j, row = some j → w.heap.size + 3 ≤ j ∧ j ≠ S) : Pc w w' x y u va fv S N sb :=
  ⟨h.hb.grown hg h.hb.size (fun j hj => by have := (hr j hj).1; omega), h.hT.kept hg (fun e => by have := (hr _ e.symm).1; omega), hg.cell h.hC (fun e => by have := (hr _ e.symm).1; simp at this), hg.cell h.hG (fun e => by have := (hr _ e.symm).1; simp at this), own_kept h.hs hg (fun j hj e => by have := (hr j e.symm).2; simp [Value.ownBlock] at hj; omega)⟩
theorem Pc.S_lt {w wr : World} {x y : Int} {u va fv : Value} {S N : Nat} {sb : List Bool} (h : Pc w wr x y u va fv S N sb) : w.heap.size + 3 ≤ S ∧ S < wr.heap.size := h.hs.lt S rfl
theorem Pc.mark {w wr : World} {x y : Int} {u va fv : Value} {S N : Nat} {sb : List Bool} (h : Pc w wr x y u va fv S N sb) (k : Nat) :
    Pc w (wr.setCell ⟨S, k, none⟩ (.bool true)) x y u va fv S N (sb.set k true) ∧ wr.grownBy (wr.setCell ⟨S, k, none⟩ (.bool true)) (some S) := by
  obtain ⟨h1, h2⟩ := h.hs.stored k (.bool true)
  have hS := h.S_lt.1
  refine ⟨⟨h.hb.setCell (by show w.heap.size ≤ S; omega) _, h.hT.kept h2 (fun e => by cases e; omega), h2.cell h.hC (fun e => by simp at e; omega), h2.cell h.hG (fun e => by simp at e; omega), ?_⟩, h2⟩
  rw [List.map_set]
  exact h1
theorem Pc.cell {w wr : World} {x y : Int} {u va fv : Value} {S N : Nat} {sb : List Bool} (h : Pc w wr x y u va fv S N sb) {k : Nat} {b : Bool} (hk : sb[k]? = some b) (hl : k < N) : wr.cell? ⟨S, k, none⟩ = some (.bool b) ∧ wr.frozen? ⟨S, k, none⟩ = false := by
  refine ⟨?_, h.hs.frozenAt k⟩
  have := h.hs.cellAt k (by omega)
  rw [this]; simp [hk]
/-- The marks mark what the pieces hold. -/
def mkd (sb : List Bool) (acc : List (List Int)) : Prop := ∀ j : Nat, sb[j]? = some true ↔ acc.any (fun p => hasB p j) = true
theorem mkd_step {sb : List Bool} {acc : List (List Int)} {p : List Int} {k c : Nat} (hc : c < sb.length) (hk : p[k]? = some (c : Int)) (h : mkd sb (acc ++ [p.take k])) : mkd (sb.set c true) (acc ++ [p.take (k + 1)]) := by
  intro j
  obtain ⟨hk', e⟩ := List.getElem?_eq_some_iff.1 hk
  have hj := h j
  simp only [List.any_append, List.any_cons, List.any_nil, Bool.or_false, Bool.or_eq_true, hasB_iff] at hj ⊢
  rw [List.take_succ_eq_append_getElem hk', List.mem_append, e, List.mem_singleton, List.getElem?_set]
  by_cases hcj : c = j
  · subst hcj; simp [hc]
  · rw [if_neg hcj, hj]
    constructor
    · rintro (h | h); exact .inl h; exact .inr (.inl h)
    · rintro (h | h | h); exact .inl h; exact .inr h; omega
/-- The memory as pieces begin, in both orders. -/
theorem Pc.startA (w : World) (x y : Int) (u va fv : Value) (N : Nat) (tf : TypeId) (hN : N ≤ maxLen) :
    Pc w (((((w.alloc (.cells #[.int .i64 x, .int .i64 y, u] 28)).alloc (.cells #[va] 22)).alloc (.cells #[fv] tf)).alloc (.cells #[] 22)).alloc (.cells (madeCells #[Value.bool false] N) 4)).drew x y u va fv (w.heap.size + 1 + 1 + 1 + 1) N (List.replicate N false) ∧
    RowsV (((((w.alloc (.cells #[.int .i64 x, .int .i64 y, u] 28)).alloc (.cells #[va] 22)).alloc (.cells #[fv] tf)).alloc (.cells #[] 22)).alloc (.cells (madeCells #[Value.bool false] N) 4)).drew (w.heap.size + 3) (.slice (some ⟨w.heap.size + 1 + 1 + 1, 0, none⟩) 0 0) [] [] := by
  refine ⟨⟨(grow_trans (grow_trans (two_news _ _ _) (two_news _ _ _)) (grow_alloc _ _)).drew, by unfold TB; simp [go_sem], by simp [go_sem], by simp [go_sem], ?_⟩, RowsV.nil ?_⟩
  · have := World.ownsRow_lit (base := w.heap.size + 3) (e := 4) (size := 1) ((((w.alloc (.cells #[.int .i64 x, .int .i64 y, u] 28)).alloc (.cells #[va] 22)).alloc (.cells #[fv] tf)).alloc (.cells #[] 22)) (madeCells #[Value.bool false] N) N (by simp) hN (by unfold madeCells; simp)
    rw [made_bools] at this
    have h2 := this.drew
    simpa using h2
  · refine (Qw.below ?_ (grow_alloc _ _)).below (grow_drew _)
    refine Qw.emptyAt ?_ (by omega)
    have := hp0 (((w.alloc (.cells #[.int .i64 x, .int .i64 y, u] 28)).alloc (.cells #[va] 22)).alloc (.cells #[fv] tf)) (.cells #[] 22)
    simpa using this
theorem Pc.startB (w : World) (x y : Int) (u va fv : Value) (N : Nat) (tf : TypeId) (hN : N ≤ maxLen) :
    Pc w (((((w.alloc (.cells #[.int .i64 x, .int .i64 y, u] 28)).alloc (.cells #[va] 22)).alloc (.cells #[fv] tf)).alloc (.cells (madeCells #[Value.bool false] N) 4)).alloc (.cells #[] 22)).drew x y u va fv (w.heap.size + 1 + 1 + 1) N (List.replicate N false) ∧
    RowsV (((((w.alloc (.cells #[.int .i64 x, .int .i64 y, u] 28)).alloc (.cells #[va] 22)).alloc (.cells #[fv] tf)).alloc (.cells (madeCells #[Value.bool false] N) 4)).alloc (.cells #[] 22)).drew (w.heap.size + 3) (.slice (some ⟨w.heap.size + 1 + 1 + 1 + 1, 0, none⟩) 0 0) [] [] := by
  refine ⟨⟨(grow_trans (grow_trans (two_news _ _ _) (two_news _ _ _)) (grow_alloc _ _)).drew, by unfold TB; simp [go_sem], by simp [go_sem], by simp [go_sem], ?_⟩, RowsV.nil ?_⟩
  · have := World.ownsRow_lit (base := w.heap.size + 3) (e := 4) (size := 1) (((w.alloc (.cells #[.int .i64 x, .int .i64 y, u] 28)).alloc (.cells #[va] 22)).alloc (.cells #[fv] tf)) (madeCells #[Value.bool false] N) N (by simp) hN (by unfold madeCells; simp)
    rw [made_bools] at this
    have h2 := own_below (own_below this (grow_alloc _ (.cells #[] 22))) (grow_drew _)
    simpa using h2
  · refine Qw.below ?_ (grow_drew _)
    refine Qw.emptyAt ?_ (by omega)
    have := hp0 ((((w.alloc (.cells #[.int .i64 x, .int .i64 y, u] 28)).alloc (.cells #[va] 22)).alloc (.cells #[fv] tf)).alloc (.cells (madeCells #[Value.bool false] N) 4)) (.cells #[] 22)
    simpa using this
set_option maxHeartbeats 8000000 in
theorem pieces_any (x y : Int) (u : Value) (zs : List Int) (va : Value) (cs : List Int) (g : Nat) (first lb : Array Value) (stB : Int → Int → Bool) (w : World) (h : Sl w 1 u zs.length (ints zs)) (ha : Sl w 1 va cs.length (ints cs))
    (hm25 : zs.length ≤ 25) (hcl : cs.length ≤ 25) (hcs : ∀ z ∈ cs, 0 ≤ z ∧ z ≤ (zs.length : Int) - 1)
    (eg : ∀ args w, (callFunc g args).run Try.prog w = .ok (.enter g args) w)
    (hp : ∀ (W : World) (a b : Int), 0 ≤ a → a ≤ (zs.length : Int) - 1 → 0 ≤ b → b ≤ (zs.length : Int) - 1 → Below w.heap.size w W → Calls Try.prog g (first ++ (#[.int .i64 a, .int .i64 b] ++ lb)) W fun e w' => e = .returned (.bool (stB a b)) ∧ Below W.heap.size W w') :
    Calls Try.prog 139 #[terrV x y u, va, .func (.func g) first lb] w
      (RetRows w (pcs (fun c => rchL (fun d => d = c) (fun a b => (0 ≤ b ∧ b ≤ (zs.length : Int) - 1) ∧ (hasB cs b && stB a b) = true) zs.length) cs)) := by
  obtain ⟨i0, hi, hz0, hz1, hz2⟩ := info_parts info_ints
  obtain ⟨j0, hj, hy0, hy1, hy2⟩ := info_parts info_bool
  have Hs := Lib.hid fun W hW => ha.below (w' := W) hW
  have hR : ∀ c, (rchL (fun d => d = c) (fun a b => (0 ≤ b ∧ b ≤ (zs.length : Int) - 1) ∧ (hasB cs b && stB a b) = true) zs.length).length ≤ zs.length := fun c => rchL_le _ _ _
  have hRi : ∀ c, ∀ z ∈ rchL (fun d => d = c) (fun a b => (0 ≤ b ∧ b ≤ (zs.length : Int) - 1) ∧ (hasB cs b && stB a b) = true) zs.length, 0 ≤ z ∧ z ≤ (zs.length : Int) - 1 := fun c z hz => (mem_rchL.1 hz).1
  have HF : Hid (∀ W nv c, Below w.heap.size w W → W.cell? ⟨w.heap.size + 1, 0, none⟩ = some va → W.cell? ⟨w.heap.size + 2, 0, none⟩ = some (.func (.func g) first lb) → Sl W 1 nv 1 [.int .i64 c] → 0 ≤ c → c ≤ (zs.length : Int) - 1 →
      Calls Try.prog 175 #[terrV x y u, nv, .func (.func 176) #[] #[.pointer (some ⟨w.heap.size + 1, 0, none⟩), .pointer (some ⟨w.heap.size + 2, 0, none⟩)]] W (RetOwn W 3 1 ((fun c => rchL (fun d => d = c) (fun a b => (0 ≤ b ∧ b ≤ (zs.length : Int) - 1) ∧ (hasB cs b && stB a b) = true) zs.length) c).length (ints ((fun c => rchL (fun d => d = c) (fun a b => (0 ≤ b ∧ b ≤ (zs.length : Int) - 1) ∧ (hasB cs b && stB a b) = true) zs.length) c)))) := by
    show ∀ W, _
    intro W nv c hW hC hG hnv h0 hN
    have := flood_any x y u zs nv [c] 176 #[.pointer (some ⟨w.heap.size + 1, 0, none⟩), .pointer (some ⟨w.heap.size + 2, 0, none⟩)] (fun a b => hasB cs b && stB a b) W (h.below hW) (by simpa using hnv) hm25 (by simp) (fun z hz => (by have e : z = c := (by simpa using hz); omega)) callFunc_pcs1
      (fun W' a b ha1 ha2 hb1 hb2 hW' => by
        have hb3 := grow_trans hW hW'
        have := pcs1_any va cs g first lb (stB a b) (w.heap.size + 1) (w.heap.size + 2) a b W' (cell_below hC hW') (cell_below hG hW') (ha.below hb3) eg (fun _ => hp W' a b ha1 ha2 hb1 hb2 hb3)
        simpa using this)
    have e : rchL (fun d => d ∈ [c]) (fun a b => (0 ≤ b ∧ b ≤ (zs.length : Int) - 1) ∧ (fun a b => hasB cs b && stB a b) a b = true) zs.length = rchL (fun d => d = c) (fun a b => (0 ≤ b ∧ b ≤ (zs.length : Int) - 1) ∧ (hasB cs b && stB a b) = true) zs.length := rchL_congr (fun d => by simp) (fun a b => Iff.rfl)
    rw [e] at this
    exact this
  have Hcs := Lib.hid hcs
  obtain ⟨A, c, rfl⟩ := h.val
  obtain ⟨Aa, ca, rfl⟩ := ha.val
  clear h ha hcs hp
  have HRl : Hid (∀ c, ((fun c => rchL (fun d => d = c) (fun a b => (0 ≤ b ∧ b ≤ (zs.length : Int) - 1) ∧ (hasB cs b && stB a b) = true) zs.length) c).length ≤ zs.length) := hR
  have HRi : Hid (∀ c, ∀ z ∈ (fun c => rchL (fun d => d = c) (fun a b => (0 ≤ b ∧ b ≤ (zs.length : Int) - 1) ∧ (hasB cs b && stB a b) = true) zs.length) c, 0 ≤ z ∧ z ≤ (zs.length : Int) - 1) := hRi
  clear hR hRi
  generalize (fun c => rchL (fun d => d = c) (fun a b => (0 ≤ b ∧ b ≤ (zs.length : Int) - 1) ∧ (hasB cs b && stB a b) = true) zs.length) = R at *
  generalize zs.length = N at *
  generalize hK : cs.length = K at *
  have HK := Lib.hid hK
  clear hK
  have hNm : N ≤ maxLen := by unfold maxLen; omega
  have hmk : ∀ W, (Instr.makeSlice 157 (.int .i64 (N : Int)) (.int .i64 (N : Int))).run Try.prog W = .ok (.slice (some ⟨W.heap.size, 0, none⟩) N N) (W.alloc (.cells (madeCells #[.bool false] N) 4)) := fun W => by
    have := run_make (P := Try.prog) W 157 4 j0 (.bool false) Try.underlying157 hj hy0 .i64 .i64 N N (by omega) (Int.le_refl _) (by rw [hy2]; omega) (by omega)
    simpa [hy1, Value.cells] using this
  have hsN : (madeCells #[Value.bool false] N).toList = (List.replicate N false).map Value.bool := made_bools N
  have HsN := Lib.hid hsN
  clear hsN
  go_enter Try.func139, Try.ntmps139
  go_upto_region 1 with fail
  go_cut [7, 8] (fun o s wx => ∃ S : Nat, s = .slice (some ⟨S, 0, none⟩) N N ∧ Hid (Pc w wx x y (.slice A N c) (.slice Aa K ca) (.func (.func g) first lb) S N (List.replicate N false)) ∧ Hid (RowsV wx (w.heap.size + 3) o [] []))
  case first =>
    go_region_with (fail)
    all_goals
      go_wp2_with fail
      go_meet
      first
        | exact ⟨_, rfl, (Pc.startA w x y _ _ _ N _ hNm).1, (Pc.startA w x y _ _ _ N _ hNm).2⟩
        | exact ⟨_, rfl, (Pc.startB w x y _ _ _ N _ hNm).1, (Pc.startB w x y _ _ _ N _ hNm).2⟩
  case rest =>
    obtain ⟨S, rfl, hP0, hR0⟩ := hcut
    have hC := hP0.out.hC
    have hs0 := hP0.out.S_lt
    have hmk0 : Hid (mkd (List.replicate N false) (pcs R (cs.take 0))) := fun j => by simp [pcs, List.getElem?_replicate]
    clear hmk
    go_wp2
    clear hC
    go_loopw [7, 21] (fun o i wr => ∃ k : Nat, k ≤ K ∧ i = .int .i64 k ∧ w.heap.size + 3 < wr.heap.size ∧ ∃ (sb : List Bool) (vs : List Value), Hid (Pc w wr x y (.slice A N c) (.slice Aa K ca) (.func (.func g) first lb) S N sb) ∧ Hid (RowsV wr (w.heap.size + 3) o vs (pcs R (cs.take k))) ∧ Hid (sb.length = N) ∧ Hid (mkd sb (pcs R (cs.take k)))) (fun _ i _ => K - (intOf i).toNat)
    case atStart => exact ⟨0, Nat.zero_le _, rfl, by omega, _, [], hP0.out, hR0.out, by show _ = _; simp, hmk0.out⟩
    case round =>
      obtain ⟨k, hk, rfl, hsz, sb, vs, hP, hR, hl, hm⟩ := hrel
      by_cases hlt : k < K
      · obtain ⟨b, off, z, hA, hz, hcell⟩ := (Hs.out _ hP.out.hb).at1 HK.out hlt
        subst hA
        have hzb := Hcs.out z (List.mem_of_getElem? hz)
        obtain ⟨zk, rfl⟩ := Int.eq_ofNat_of_zero_le hzb.1
        have hzk : zk < N := by omega
        have hpl := pcs_le R cs k
        have Hpt := Lib.hid (pcs_take (R := R) hz)
        obtain ⟨bb, hbb⟩ : ∃ bb, sb[zk]? = some bb := ⟨_, List.getElem?_eq_getElem (by have := hl.out; omega)⟩
        obtain ⟨hk1, hk2⟩ := hP.out.cell hbb hzk
        have hmz := hm.out zk
        have HRln := HRl.out (zk : Int)
        have HRin := Lib.hid (HRi.out (zk : Int))
        have HFz := Lib.hid fun W nv => HF.out W nv (zk : Int)
        generalize hacc : pcs R (cs.take k) = acc at *
        have Hacc := Lib.hid hacc
        generalize hacc' : pcs R (cs.take (k + 1)) = acc' at *
        have Hacc' := Lib.hid hacc'
        clear hz hacc hacc'
        cases bb with
        | true =>
          have hany : (acc.any fun p => hasB p zk) = true := hmz.1 hbb
          have he : acc' = acc := by have := Hpt.out; rw [if_pos hany] at this; exact this
          have He := Lib.hid he
          clear hany hmz hbb he Hpt
          go_wp2
          go_roundw
          case rel => exact ⟨k + 1, by omega, by go_num, hsz, sb, vs, hP.out, by show RowsV _ _ _ _ _; rw [Hacc'.out, He.out]; exact hR.out, hl.out, by show mkd _ _; rw [Hacc'.out, He.out]; exact hm.out⟩
          case measure => simp [intOf]; omega
        | false =>
          have hany : ¬ (acc.any fun p => hasB p zk) = true := fun h => by rw [hmz.2 h] at hbb; cases hbb
          have he : acc' = acc ++ [R zk] := by have := Hpt.out; rw [if_neg hany] at this; exact this
          have He := Lib.hid he
          have hlv : vs.length ≤ k := by rw [hR.out.len]; exact hpl
          clear hany hmz hbb he Hpt
          generalize R (zk : Int) = pl at *
          obtain ⟨t0, t1, t2⟩ := hP.out.hT
          have hCC := hP.out.hC
          have hGG := hP.out.hG
          have HC := Lib.hid (HFz.out (wr.alloc (.cells #[.int .i64 zk] 3)) (.slice (some ⟨wr.heap.size, 0, none⟩) 1 1) (grow_trans hP.out.hb (grow_alloc _ _)) (cell_below hCC (grow_alloc _ _)) (cell_below hGG (grow_alloc _ _)) (Sl.boxAt (hp0 _ _)) (by omega) (by omega))
          go_wp2_with fail
          with_reducible refine HC.out.mono ?_
          rintro e w4 ⟨v4, rfl, o4, hb4⟩
          have hb4' := grow_trans (grow_alloc wr (.cells #[.int .i64 zk] 3)) hb4
          have hP4 := Lib.hid (hP.out.below hb4')
          have hR4 := Lib.hid (hR.out.below hb4')
          have hfr : Hid (∀ (i : Nat) (u : Value) (g : Nat), vs[i]? = some u → u.ownBlock = some g → g < (wr.alloc (.cells #[.int .i64 zk] 3)).heap.size) := fun i u g hu hg => Nat.lt_of_lt_of_le (hR.out.lt i u g hu hg) (by simp)
          have hBT : w.heap.size + 3 ≤ (wr.alloc (.cells #[.int .i64 zk] 3)).heap.size := by simp; omega
          have hs4 := hb4'.size
          have hm4 : Hid (mkd sb (acc ++ [pl.take 0])) := fun j => by rw [hm.out j]; simp [hasB]
          generalize (wr.alloc (.cells #[.int .i64 zk] 3)).heap.size = T at *
          clear hb4 hb4' hP hR HC t0 t1 t2 hCC hGG HFz hm hcell hk1 hk2
          generalize hPL : pl.length = PL at *
          have HPL := Lib.hid hPL
          clear hPL
          obtain ⟨A4, c4, rfl⟩ := (Sl.of_own o4).val
          have o4 := Lib.hid o4
          obtain ⟨wn, rfl⟩ : ∃ wn : World, wn = w4 := ⟨_, rfl⟩
          go_wp2
          go_loopw [36] (fun i wr => ∃ m : Nat, m ≤ PL ∧ i = .int .i64 m ∧ w.heap.size + 3 < wr.heap.size ∧ ∃ sb : List Bool, Hid (Pc w wr x y (.slice A N c) (.slice (some ⟨b, off, none⟩) K ca) (.func (.func g) first lb) S N sb) ∧ Hid (RowsV wr (w.heap.size + 3) u7 vs acc) ∧ Hid (wr.ownsRow T 3 1 (.slice A4 PL c4) PL (ints pl)) ∧ Hid (sb.length = N) ∧ Hid (mkd sb (acc ++ [pl.take m]))) (fun i _ => PL - (intOf i).toNat)
          case atStart => exact ⟨0, Nat.zero_le _, rfl, by omega, sb, hP4.out, hR4.out, o4.out, hl.out, hm4.out⟩
          case round =>
            obtain ⟨m, hmm, rfl, hsz5, sb5, hP5, hR5, o5, hl5, hm5⟩ := hrel
            by_cases hlt5 : m < PL
            · obtain ⟨b5, off5, z5, hA5, hz5, hcell5⟩ := (Sl.of_own o5.out).at1 HPL.out hlt5
              subst hA5
              have hzb5 := HRin.out z5 (List.mem_of_getElem? hz5)
              obtain ⟨zk5, rfl⟩ := Int.eq_ofNat_of_zero_le hzb5.1
              have hzk5 : zk5 < N := by omega
              have hm6 := Lib.hid (mkd_step (by have := hl5.out; omega) hz5 hm5.out)
              obtain ⟨bb5, hbb5⟩ : ∃ bb, sb5[zk5]? = some bb := ⟨_, List.getElem?_eq_getElem (by have := hl5.out; omega)⟩
              obtain ⟨hk51, hk52⟩ := hP5.out.cell hbb5 hzk5
              obtain ⟨hP6, hg6⟩ := hP5.out.mark zk5
              have hP6 := Lib.hid hP6
              have hR6 := Lib.hid (hR5.out.kept hg6 (e := 4) (fun j hj => own_kind hP5.out.hs (by simpa [Value.ownBlock] using hj)) (by decide) (by decide))
              have o6 := Lib.hid (own_kept o5.out hg6 (fun j hj e => by
                obtain ⟨c1, k1⟩ := own_kind o5.out hj
                obtain ⟨c2, k2⟩ := own_kind hP5.out.hs e.symm
                exact kind_ne k1 k2 (by decide) rfl))
              have hs6 := hg6.size
              clear hz5 hbb5 hg6
              go_wp2
              go_roundw
              case rel => exact ⟨m + 1, by omega, by go_num, by omega, sb5.set zk5 true, hP6.out, hR6.out, o6.out, by show _ = _; rw [List.length_set]; exact hl5.out, hm6.out⟩
              case measure => simp [intOf]; omega
            · obtain rfl : m = PL := by omega
              have hall : pl.take m = pl := List.take_of_length_le (by have := HPL.out; omega)
              rw [hall] at hm5
              clear hall
              go_wp2_with ((at_builtin; refine wpList_append_q _ rfl _ _ 49 rfl (w.heap.size + 3) 22 i0 (.slice none 0 0) 1 24 Try.underlying49 hi hz0 hz1 hz2 rfl (by decide) _ _ _ rfl (Qw.below hR5.out.outer (grow_alloc _ _)) _ 1 [.slice A4 m c4] rfl (Sl.boxAt (hp0 _ _)) (by intro u hu; simp at hu; subst hu; rfl) (by unfold maxLen; omega) (by omega) (by simp; omega) ?_))
              intro vA wA hqA hgA hdA
              have hkind : ∀ j, u7.ownBlock = some j → w.heap.size + 3 ≤ j ∧ j ≠ S := fun j hj => ⟨(hR5.out.outer.lt j hj).1, fun e => by
                obtain ⟨c1, k1⟩ := hR5.out.outer.kind hj
                obtain ⟨c2, k2⟩ := own_kind hP5.out.hs (j := S) rfl
                exact kind_ne k1 k2 (by decide) e⟩
              have hP7 := Lib.hid ((hP5.out.below (grow_alloc _ _)).grown hgA hkind)
              have hR7 := Lib.hid (RowsV.add (l := pl) (hR5.out.below (grow_alloc _ _)) hfr.out hBT (own_below (by rw [HPL.out]; exact o5.out) (grow_alloc _ _)) hqA hgA)
              have hs7 := hgA.size
              simp at hs7
              have hs8 : w.heap.size + 3 < wA.heap.size := by omega
              clear hgA hdA hqA hkind
              go_wp2
              go_roundw
              case rel => exact ⟨k + 1, by omega, by go_num, hs8, sb5, _, hP7.out, by show RowsV _ _ _ _ _; rw [Hacc'.out, He.out]; exact hR7.out, hl5.out, by show mkd _ _; rw [Hacc'.out, He.out]; exact hm5.out⟩
              case measure => simp [intOf]; omega
      · obtain rfl : k = K := by omega
        have hall : cs.take k = cs := List.take_of_length_le (by have := HK.out; omega)
        rw [hall] at hR
        clear hall
        go_wp2
        go_ret
        exact ⟨_, vs, rfl, hR.out.lower (by omega), hP.out.hb⟩
end Go.Proofs.Ytefampjmbjbhcaa
