/- ParseTerrain in the program and in the reference. Conditions: as each states. -/
import Derived.Test.YtabedcpibnnnhaaDoorPTerP
import Derived.Test.YtabedcpibnnnhaaDoorRowO
import Derived.Test.YtabedcpibnnnhaaDoorCurL
import Derived.Test.YtabedcpibnnnhaaDoorPInt
import Derived.Maps.AppendAt
import Derived.Deep.RegionHeldLaw
namespace Go.Proofs.YtabedcpibnnnhaaDoor
open Go.ChangeShapes Go.WideShapes Go.ChangeAt Go.RowKit Go.Deep
set_option linter.unusedVariables false
set_option linter.unusedSimpArgs false
set_option maxRecDepth 100000

section
variable {P : Program} (w : World)
/-- An append to a row of one's own at a step of a region that draws its order. -/
theorem step_append_own {ops : Array Oper} {o : Oper} {a : Act} {K : Act → World → Prop} {Q : Exit → Act → World → Prop} {E : Prop} (hgd : o.guard = none) (s x : Operand) (t : TypeId)
    (ho : o.op = .call { callee := .builtin .append, args := #[s, x], argTypes := #[t, t] })
    (base : Nat) (e : TypeId) (i : TypeInfo) (z : Value) (size bytes : Nat) (ht : P.underlying t = some (.slice e)) (hi : P.info? e = some i) (hz : i.zero = some z)
    (hsize : i.size = size) (hby : i.bytes = bytes) (hzs : z.cells.size = size) (hsz : 0 < size)
    (v : Value) (n : Nat) (xs : List Value) (hs : a.eval s = v) (hown : w.ownsRow base e size v n xs)
    (ad : Addr) (m c : Nat) (news : List Value) (hx : a.eval x = .slice (some ad) m c) (hl : news.length = m * size) (hnews : ∀ j u, news[j]? = some u → w.cell? (ad.add j) = some u) (h1 : ∀ u ∈ news, u.oneCell' = true)
    (h63 : n + m ≤ maxLen) (hbytes : (n + m) * bytes ≤ 140737488355328) (hbase : base ≤ w.heap.size)
    (h : ∀ v' w', w'.ownsRow base e size v' (n + m) (xs ++ news) → w.grownBy w' v.ownBlock → K (a.put o.dst v') w') :
    if Region.wanted o (yielded ops a.tmps) = true then Oper.wp P o a w K Q else E := by
  have hw : Region.wanted o (yielded ops a.tmps) = true := by simp [Region.wanted, hgd]
  rw [if_pos hw]
  obtain ⟨v', w', hr, h2, h3, _, _⟩ := run_append_own_at (P := P) w base t o.type e i z size bytes ht hi hz hsize hby hzs hsz v n xs hown ad m c news hl hnews h1 h63 hbytes hbase
  unfold Oper.wp execOp
  simp only [ho, resolve, invoke, builtin, Sem.run_bind, Sem.run_pure, Result.andThen_ok, List.map_toArray, List.map_cons, List.map_nil, hs, hx, hr]
  exact h v' w' h2 h3
end
abbrev teC (x y : Int) (u : Value) : List Value := [.int .i64 x, .int .i64 y, u]
theorem te_cells {W : World} {B : Nat} {x y : Int} {u : Value} (h : Bx W 34 B (teC x y u)) :
    (W.cell? ⟨B, 0, none⟩ = some (.int .i64 x) ∧ W.cell? ⟨B, 1, none⟩ = some (.int .i64 y) ∧ W.cell? ⟨B, 2, none⟩ = some u) ∧ W.frozen? ⟨B, 0, none⟩ = false ∧ W.frozen? ⟨B, 1, none⟩ = false ∧ W.frozen? ⟨B, 2, none⟩ = false :=
  ⟨⟨h.cell 0 rfl, h.cell 1 rfl, h.cell 2 rfl⟩, h.fz 0, h.fz 1, h.fz 2⟩
/-- A terrain's three cells stored. -/
def putT (W : World) (B : Nat) (x y : Int) (u : Value) : World := ((W.setCell ⟨B, 0, none⟩ (.int .i64 x)).setCell ⟨B, 1, none⟩ (.int .i64 y)).setCell ⟨B, 2, none⟩ u
theorem putT_bx {W : World} {B : Nat} {x y x' y' : Int} {u u' : Value} (h : Bx W 34 B (teC x y u)) : Bx (putT W B x' y' u') 34 B (teC x' y' u') :=
  ((h.set 0 (.int .i64 x')).set 1 (.int .i64 y')).set 2 u'
theorem putT_below {a W : World} {b B : Nat} {x y : Int} {u : Value} (h : Below b a W) (hB : b ≤ B) : Below b a (putT W B x y u) :=
  ((h.setCell (p := ⟨B, 0, none⟩) hB _).setCell (p := ⟨B, 1, none⟩) hB _).setCell (p := ⟨B, 2, none⟩) hB _
theorem putT_grow (W : World) (B : Nat) (x y : Int) (u : Value) : W.grownBy (putT W B x y u) (some B) := by
  have h : ∀ (V : World) (j : Nat) (c : Value), V.grownBy (V.setCell ⟨B, j, none⟩ c) (some B) := fun V j c => ⟨rfl, rfl, rfl, by simp, fun k _ hk => heap_setCell_other V ⟨B, j, none⟩ k c (fun e => hk (by simp [e]))⟩
  exact grownBy_trans (grownBy_trans (h _ 0 _) (h _ 1 _)) (h _ 2 _)
theorem bx_own_ne {W : World} {B base n : Nat} {vs cs : List Value} {u : Value} (hT : Bx W 34 B vs) (ho : W.ownsRow base 3 1 u n cs) : some B ≠ u.ownBlock := fun e => by
  obtain ⟨c1, k1⟩ := own_kind hT (j := B) rfl
  obtain ⟨c2, k2⟩ := own_kind ho e.symm
  exact kind_ne k1 k2 (by decide) rfl
/-- What the loop keeps: the result's box, the terrain's box, the row. -/
structure Pt (w wr : World) (T : Nat) (X Y : Int) (u : Value) (cs : List Int) : Prop where
  hb : Below w.heap.size w wr
  hR : Bx wr 34 w.heap.size (teC 0 0 (.slice none 0 0))
  hT : Bx wr 34 T (teC X Y u)
  ho : wr.ownsRow w.heap.size 3 1 u cs.length (ints cs)
  hlt : w.heap.size < T
theorem Pt.below {w wr wr' : World} {T : Nat} {X Y : Int} {u : Value} {cs : List Int} (h : Pt w wr T X Y u cs) (hb : Below wr.heap.size wr wr') : Pt w wr' T X Y u cs :=
  ⟨grow_trans h.hb hb, h.hR.below hb, h.hT.below hb, own_below h.ho hb, h.hlt⟩
/-- Behind an append, ahead of the store. -/
theorem Pt.mid {w wr wA : World} {T : Nat} {X Y : Int} {u vA : Value} {cs cs' : List Int} {z : Int} (h : Pt w wr T X Y u cs) (hown : wA.ownsRow w.heap.size 3 1 vA (cs.length + 1) (ints cs ++ [.int .i64 z])) (hg : wr.grownBy wA u.ownBlock) (hc : cs' = cs ++ [z]) :
    Bx wA 34 T (teC X Y u) ∧ Pt w (wA.setCell ⟨T, 2, none⟩ vA) T X Y vA cs' := by
  have hT := h.hT.kept hg (bx_own_ne h.hT h.ho)
  have hR := h.hR.kept hg (bx_own_ne h.hR h.ho)
  have hown' : wA.ownsRow w.heap.size 3 1 vA cs'.length (ints cs') := by rw [hc]; simpa using hown
  have hne := bx_own_ne hT hown'
  have hlt := h.hlt
  have hs : wA.grownBy (wA.setCell ⟨T, 2, none⟩ vA) (some T) := ⟨rfl, rfl, rfl, by simp, fun k _ hk => heap_setCell_other wA ⟨T, 2, none⟩ k vA (fun e => hk (by simp [e]))⟩
  refine ⟨hT, ⟨(h.hb.grown hg h.hb.size (fun j hj => (h.ho.lt j hj).1)).setCell (p := ⟨T, 2, none⟩) (by show w.heap.size ≤ T; omega) _, hR.other (by omega) 2 vA, hT.set 2 vA, own_kept hown' hs (fun j hj e => hne (by rw [hj]; exact e.symm)), hlt⟩⟩
/-- The end: the result's box written. -/
theorem Pt.fin {w wr : World} {T : Nat} {X Y : Int} {u : Value} {cs : List Int} (h : Pt w wr T X Y u cs) (x y : Int) (v : Value) :
    Bx (putT wr w.heap.size x y v) 34 w.heap.size (teC x y v) ∧ Below w.heap.size w (putT wr w.heap.size x y v) ∧ (putT wr w.heap.size x y v).ownsRow w.heap.size 3 1 u cs.length (ints cs) :=
  ⟨putT_bx h.hR, putT_below h.hb (Nat.le_refl _), own_kept h.ho (putT_grow _ _ _ _ _) (fun j hj e => bx_own_ne h.hR h.ho (by rw [hj]; exact e.symm))⟩
/-- The terrain of a text, and whether there is one. -/
def RetPT (w : World) (b : Bool) (x y : Int) (zs : List Int) (e : Ending) (w' : World) : Prop :=
  ∃ u, e = .returned (.tuple #[terrV (if b then x else 0) (if b then y else 0) u, .bool b]) ∧ w'.ownsRow w.heap.size 3 1 u (if b then zs else []).length (ints (if b then zs else [])) ∧ Below w.heap.size w w'
theorem pt_no {w w' : World} {x y : Int} {zs : List Int} (hb : Below w.heap.size w w') : RetPT w false x y zs (.returned (.tuple #[terrV 0 0 (.slice none 0 0), .bool false])) w' := ⟨_, rfl, own_nil _ _ _ _, hb⟩
theorem pt_yes {w w' : World} {x y : Int} {zs : List Int} {u : Value} (hb : Below w.heap.size w w') (ho : w'.ownsRow w.heap.size 3 1 u zs.length (ints zs)) : RetPT w true x y zs (.returned (.tuple #[terrV x y u, .bool true])) w' := ⟨u, rfl, ho, hb⟩
theorem head_at {s : ByteArray} {W : World} {A : Option Addr} {n c : Nat} (hn : n = (splitS s 10).length) (h : Sl W 1 (.slice A n c) n (strs (splitS s 10))) : ∃ b off x, A = some ⟨b, off, none⟩ ∧ W.cell? ⟨b, off, none⟩ = some (.string x) ∧ (x.size : Int) = ptX s := by
  have h0 := split_ne s 10
  obtain ⟨b, off, x, rfl, hx, hc⟩ := h.at1 hn.symm (show 0 < n by omega)
  refine ⟨b, off, x, rfl, hc, ?_⟩
  unfold ptX
  rw [List.getD_eq_getElem?_getD, hx]; rfl
theorem ptB_of {s : ByteArray} (h : s.size ≤ 40) : ptB s = (terrB (ptX s) (ptY s) (ptZ s) && decide (bs (pic (ptX s) (terF (ptZ s)) (ptZ s).length) = s)) := by unfold ptB; rw [decide_eq_true h]; rfl
theorem ptY_of {s : ByteArray} {n : Nat} (hn : n = (splitS s 10).length) : (n : Int) - 1 = ptY s := by unfold ptY; rw [hn]
theorem cv10 {c : UInt8} (h : c = 10) : cvB c = [] := by unfold cvB; rw [if_pos h]
theorem cv46 {c : UInt8} (h : c = 46) : cvB c = [0] := by unfold cvB; rw [if_neg (by rw [h]; decide), if_pos h]
theorem cvZ {c : UInt8} (h1 : c ≠ 10) (h2 : c ≠ 46) : cvB c = [(c.toNat : Int) - 97 + 1] := by unfold cvB; rw [if_neg h1, if_neg h2]
set_option maxHeartbeats 16000000 in
theorem sParseTerrain_any (s : ByteArray) (w : World) (hs : s.size ≤ 1048576) :
    Calls Tryd.prog 18 #[.string s] w (RetPT w (ptB s) (ptX s) (ptY s) (ptZ s)) := by
  have hR0 : Hid (Bx (w.alloc (.cells #[.int .i64 0, .int .i64 0, .slice none 0 0] 34)) 34 w.heap.size (teC 0 0 (.slice none 0 0))) := Bx.new w (teC 0 0 (.slice none 0 0)) _
  have hb0 : Hid (Below w.heap.size w (w.alloc (.cells #[.int .i64 0, .int .i64 0, .slice none 0 0] 34))) := grow_alloc _ _
  have HS := Lib.hid (l1Split_any s 10 (w.alloc (.cells #[.int .i64 0, .int .i64 0, .slice none 0 0] 34)) hs)
  have hX := ptX_bd s
  have hY := ptY_bd s
  have HH := Lib.hid fun (W : World) (A : Option Addr) (n c : Nat) (hn : n = (splitS s 10).length) h => head_at (s := s) (W := W) (A := A) (c := c) hn h
  have HN := Lib.hid fun (n : Nat) (hn : n = (splitS s 10).length) => ptY_of (s := s) hn
  have hle := Nat.le_trans (splitS_le s 10) (Nat.add_le_add_right hs 1)
  have hpos := split_ne s 10
  change Hid (Calls _ _ _ _ (RetQ _ _ 1 (splitS s 10).length (strs (splitS s 10)))) at HS
  have HB := Lib.hid fun (h : s.size ≤ 40) => ptB_of h
  have HL := Lib.hid fun (h : ¬ s.size ≤ 30) => ptB_long h
  generalize hX0 : ptX s = X at *
  generalize hY0 : ptY s = Y at *
  generalize hN0 : (splitS s 10).length = N at *
  have HHs := HH
  generalize strs (splitS s 10) = ss at *
  clear hX0 hY0 hN0 HHs
  by_cases hl : s.size ≤ 40
  case neg =>
    have hB := HL.out (by omega)
    rw [hB]
    have hl2 : decide ((40 : Int) < (s.size : Int)) = true := decide_eq_true (by omega)
    clear hB HB HL hl
    go_enter Tryd.func18, Tryd.ntmps18
    go_wp2_with fail
    refine HS.out.mono ?_
    rintro e w1 ⟨v, rfl, ho, hb⟩
    obtain ⟨A, c, rfl⟩ := (Sl.of_q ho).val
    obtain ⟨gb, off, x0, rfl, hx0, hxs⟩ := HH.out w1 A N c rfl (Sl.of_q ho)
    have hNY := HN.out N rfl
    have hR := Lib.hid (hR0.out.below hb)
    replace hb := Lib.hid (grow_trans hb0.out hb)
    clear ho hb0 hR0 HS HH HN
    obtain ⟨⟨c0, c1, c2⟩, f0, f1, f2⟩ := te_cells hR.out
    go_wp2
    change bodyPost _ _ _ _ _ (putT w1 w.heap.size 0 0 (.slice none 0 0))
    obtain ⟨⟨d0, d1, d2⟩, _⟩ := te_cells (putT_bx (x' := 0) (y' := 0) (u' := .slice none 0 0) hR.out)
    have hz := Lib.hid (putT_below (x := 0) (y := 0) (u := .slice none 0 0) hb.out (Nat.le_refl w.heap.size))
    generalize putT w1 w.heap.size 0 0 (.slice none 0 0) = wz at *
    exact bodyPost_ret (v := .tuple #[terrV 0 0 (.slice none 0 0), .bool false]) (by simp [results, Tryd.results18, go_sem, d0, d1, d2]) rfl (pt_no hz.out)
  case pos =>
    have hB := HB.out (by omega)
    have hl2 : decide ((40 : Int) < (s.size : Int)) = false := decide_eq_false (by omega)
    clear HB HL
    have hZ : ptZ s = celL (s.data.toList.take s.size) := by unfold ptZ; rw [List.take_of_length_le (by simp)]
    have hZl : ∀ k : Nat, k ≤ s.size → (celL (s.data.toList.take k)).length ≤ 40 := fun k hk => by have := celL_le (s.data.toList.take k); rw [List.length_take, list_le] at this; omega
    have hat : ∀ k (hk : k < s.size), s.data.toList[k]? = some s[k] := fun k hk => by rw [Array.getElem?_toList]; exact Array.getElem?_eq_getElem hk
    have HST := Lib.hid fun k (hk : k < s.size) => celL_step (hat k hk)
    generalize hBv : ptB s = Bv at *
    rw [hZ] at hB ⊢
    replace hB := Lib.hid hB
    replace hZl := Lib.hid hZl
    obtain ⟨i0, hi, hz0, hz1, hz2⟩ := info_parts info_int
    clear hBv hZ hat
    go_enter Tryd.func18, Tryd.ntmps18
    go_wp2_with fail
    refine HS.out.mono ?_
    rintro e w1 ⟨v, rfl, ho, hb⟩
    obtain ⟨A, c, rfl⟩ := (Sl.of_q ho).val
    obtain ⟨gb, off, x0, rfl, hx0, hxs⟩ := HH.out w1 A N c rfl (Sl.of_q ho)
    have hNY := HN.out N rfl
    have hR := Lib.hid (hR0.out.below hb)
    replace hb := Lib.hid (grow_trans hb0.out hb)
    clear ho hb0 hR0 HS HH HN
    subst hxs
    subst hNY
    have hP0 : Pt w ((w1.alloc (.cells #[] 3)).alloc (.cells (teC (x0.size : Int) ((N : Int) - 1) (.slice (some ⟨w1.heap.size, 0, none⟩) 0 0)).toArray 34)) (w1.heap.size + 1) (x0.size : Int) ((N : Int) - 1) (.slice (some ⟨w1.heap.size, 0, none⟩) 0 0) [] := by
      have hB1 : Below w1.heap.size w1 ((w1.alloc (.cells #[] 3)).alloc (.cells (teC (x0.size : Int) ((N : Int) - 1) (.slice (some ⟨w1.heap.size, 0, none⟩) 0 0)).toArray 34)) := two_news _ _ _
      refine ⟨grow_trans hb.out hB1, hR.out.below hB1, ?_, ?_, ?_⟩
      · have := Bx.new (w1.alloc (.cells #[] 3)) (teC (x0.size : Int) ((N : Int) - 1) (.slice (some ⟨w1.heap.size, 0, none⟩) 0 0)) 34
        rwa [World.size_alloc] at this
      · have := World.ownsRow_lit (base := w.heap.size) (e := 3) (size := 1) w1 #[] 0 hb.out.size (by unfold maxLen; omega) rfl
        exact own_below (by simpa using this) (grow_alloc _ _)
      · have := hR.out.lt; omega
    replace hP0 := Lib.hid hP0
    have hTb : Hid (w.heap.size < (w1.heap.size + 1)) := hP0.out.hlt
    have hx : (x0.size : Int) ≤ 40 := by omega
    have hN40 : (N : Int) ≤ 41 := by omega
    clear hX hY hle
    go_wp2
    go_loopw [6] (fun i wr => ∃ k : Nat, ∃ u : Value, k ≤ s.size ∧ i = .int .i64 k ∧ Hid (Pt w wr (w1.heap.size + 1) (x0.size : Int) ((N : Int) - 1) u (celL (s.data.toList.take k)))) (fun i _ => s.size - (intOf i).toNat)
    case atStart => exact ⟨0, _, Nat.zero_le _, rfl, hP0.out⟩
    case round =>
      obtain ⟨k, u, hk, rfl, hP⟩ := hrel
      clear hP0 hR hb hx0
      generalize hTT : (w1.heap.size + 1) = T at *
      clear hTT
      obtain ⟨⟨c0, c1, c2⟩, f0, f1, f2⟩ := te_cells hP.out.hT
      have hsz := hP.out.hb.size
      by_cases hlt : k < s.size
      case pos =>
        have hlz : (k : Int) < (s.size : Int) := by omega
        have hst := HST.out k hlt
        have hl1 := hZl.out k (by omega)
        have b3 : s[k].toNat < 256 := UInt8.toNat_lt _
        generalize celL (s.data.toList.take k) = cs at *
        obtain ⟨cs2, hcs2⟩ : ∃ l, celL (s.data.toList.take (k + 1)) = l := ⟨_, rfl⟩
        rw [hcs2] at hst
        have Hcs2 := Lib.hid hcs2
        clear hcs2
        clear HST hZl hB
        by_cases q46 : s[k] = 46
        case pos =>
          rw [cv46 q46] at hst
          have hst := Lib.hid hst
          have hq' : s[k].toNat = 46 := by rw [q46]; rfl
          clear q46
          go_wp2_with ((at_builtin; refine wpList_append_own _ rfl _ _ 32 rfl w.heap.size 3 i0 (.int .i64 0) 1 8 Tryd.underlying32 hi hz0 hz1 hz2 rfl (by decide) _ _ _ rfl (hP.out.ho.alloc _) ⟨wr.heap.size, 0, none⟩ 1 1 [.int .i64 0] rfl rfl ?c1 ?c2 ?c3 ?c4 ?c5 ?_))
          case c1 =>
            intro j u hj
            match j, hj with
            | 0, hj => simp at hj; subst hj; simp [Addr.add]
          case c2 => intro u hu; simp at hu; subst hu; rfl
          case c3 => unfold maxLen; omega
          case c4 => omega
          case c5 => simp; omega
          intro vA wA hown' hgrow _
          obtain ⟨AA, cA, rfl, _⟩ := own_form hown'
          obtain ⟨hTA, hPA⟩ := hP.out.mid hown' (grownBy_trans (grownBy_of_below (grow_alloc _ _)) hgrow) hst.out
          obtain ⟨⟨a0, a1, a2⟩, g0, g1, g2⟩ := te_cells hTA
          have hPA := Lib.hid hPA
          clear hTA hown' hgrow hP c0 c1 c2 f0 f1 f2
          go_wp2
          go_roundw
          case rel => exact ⟨k + 1, _, by omega, by go_num, by show Pt _ _ _ _ _ _ _; rw [Hcs2.out]; exact hPA.out⟩
          case measure => simp [intOf]; omega
        case neg =>
          have hq1 : s[k].toNat ≠ 46 := fun e => q46 (UInt8.toNat_inj.1 (by rw [e]; rfl))
          have hq2 : ¬ ((s[k].toNat : Int) = 46) := by omega
          have hq3 : ((s[k].toNat : Int) == 46) = false := by simpa using hq2
          by_cases q10 : s[k] = 10
          case pos =>
            rw [cv10 q10, List.append_nil] at hst
            have hst := Lib.hid hst
            have hq' : s[k].toNat = 10 := by rw [q10]; rfl
            clear q46 q10 hq1 hq2 hq3
            go_wp2
            go_roundw
            case rel => exact ⟨k + 1, u, by omega, by go_num, by show Pt _ _ _ _ _ _ _; rw [Hcs2.out, hst.out]; exact hP.out⟩
            case measure => simp [intOf]; omega
          case neg =>
            rw [cvZ q10 q46] at hst
            have hst := Lib.hid hst
            have hr1 : s[k].toNat ≠ 10 := fun e => q10 (UInt8.toNat_inj.1 (by rw [e]; rfl))
            have hr2 : ¬ ((s[k].toNat : Int) = 10) := by omega
            have hr3 : ((s[k].toNat : Int) == 10) = false := by simpa using hr2
            have hr4 : ((s[k].toNat : Int) != 10) = true := by simpa using hr2
            have e0 : IntKind.i64.wrap (s[k].toNat : Int) = (s[k].toNat : Int) := IntWalk.i64_in _ (by omega)
            have e1 : IntKind.i64.wrap ((s[k].toNat : Int) - 97) = (s[k].toNat : Int) - 97 := IntWalk.i64_in _ (by omega)
            have e2 : IntKind.i64.wrap ((s[k].toNat : Int) - 97 + 1) = (s[k].toNat : Int) - 97 + 1 := IntWalk.i64_in _ (by omega)
            clear q46 q10
            go_wp2_with fail
            replace hP := hP.out.below (grow_drew _)
            clear c0 c1 c2 f0 f1 f2 hsz
            refine wp_region_held_drew (S := fun W => True) (by kernel_rfl) trivial (fun hHeld => ?_)
            generalize wr.drew = Wd at *
            have hsz := hP.hb.size
            obtain ⟨⟨c0, c1, c2⟩, f0, f1, f2⟩ := te_cells hP.hT
            refine wpAnyH_take (i := 0) (v := ?_) rfl (by kernel_rfl) (by kernel_rfl) (by kernel_rfl) (fun _ _ _ h => h) (Or.inl ⟨by rfl, ?_⟩) (by assumption) ?_
            rotate_left
            · intro w hSw
              try dsimp only at hSw
              go_simp
              try (with_reducible rfl)
            try simp only [Act.put, List.setIfInBounds_toArray, List.set_cons_zero, List.set_cons_succ]
            refine wpAnyH_take (i := 2) (v := ?_) rfl (by kernel_rfl) (by kernel_rfl) (by kernel_rfl) (fun _ _ _ h => h) (Or.inl ⟨by rfl, ?_⟩) (by assumption) ?_
            rotate_left
            · intro w hSw
              try dsimp only at hSw
              go_simp
              try (with_reducible rfl)
            try simp only [Act.put, List.setIfInBounds_toArray, List.set_cons_zero, List.set_cons_succ]
            refine wpAnyH_take (i := 3) (v := ?_) rfl (by kernel_rfl) (by kernel_rfl) (by kernel_rfl) (fun _ _ _ h => h) (Or.inl ⟨by rfl, ?_⟩) (by assumption) ?_
            rotate_left
            · intro w hSw
              try dsimp only at hSw
              go_simp
              try (with_reducible rfl)
            try simp only [Act.put, List.setIfInBounds_toArray, List.set_cons_zero, List.set_cons_succ]
            refine wpAnyH_take (i := 4) (v := ?_) rfl (by kernel_rfl) (by kernel_rfl) (by kernel_rfl) (fun _ _ _ h => h) (Or.inl ⟨by rfl, ?_⟩) (by assumption) ?_
            rotate_left
            · intro w hSw
              try dsimp only at hSw
              go_simp
              try (with_reducible rfl)
            try simp only [Act.put, List.setIfInBounds_toArray, List.set_cons_zero, List.set_cons_succ]
            refine wpAnyH_take (i := 5) (v := ?_) rfl (by kernel_rfl) (by kernel_rfl) (by kernel_rfl) (fun _ _ _ h => h) (Or.inl ⟨by rfl, ?_⟩) (by assumption) ?_
            rotate_left
            · intro w hSw
              try dsimp only at hSw
              go_simp
              try (with_reducible rfl)
            try simp only [Act.put, List.setIfInBounds_toArray, List.set_cons_zero, List.set_cons_succ]
            refine wpAnyH_take (i := 6) (v := ?_) rfl (by kernel_rfl) (by kernel_rfl) (by kernel_rfl) (fun _ _ _ h => h) (Or.inl ⟨by rfl, ?_⟩) (by assumption) ?_
            rotate_left
            · intro w hSw
              try dsimp only at hSw
              go_simp
              try (with_reducible rfl)
            try simp only [Act.put, List.setIfInBounds_toArray, List.set_cons_zero, List.set_cons_succ]
            refine wpAnyH_take (i := 7) (v := ?_) rfl (by kernel_rfl) (by kernel_rfl) (by kernel_rfl) (fun _ _ _ h => h) (Or.inl ⟨by rfl, ?_⟩) (by assumption) ?_
            rotate_left
            · intro w hSw
              try dsimp only at hSw
              go_simp
              try (with_reducible rfl)
            try simp only [Act.put, List.setIfInBounds_toArray, List.set_cons_zero, List.set_cons_succ]
            refine wpAnyH_ready (rs := [1, 8]) (by kernel_rfl) (by simp) ?_
            refine AllReadyH.cons rfl (fun K hK => ?_) (AllReadyH.cons rfl (fun K hK => ?_) AllReadyH.nil)
            · skip
              go_simp
              refine hK.out _ _ trivial (fun hHeld => ?_)
              clear hK K
              refine wpAnyH_ready (rs := [8]) (by kernel_rfl) (by simp) (AllReadyH.cons rfl (fun K hK => ?_) AllReadyH.nil)
              go_simp
              refine hK.out _ _ trivial (fun hHeld => ?_)
              clear hK K
              refine wpAnyH_ready (rs := [9]) (by kernel_rfl) (by simp) (AllReadyH.cons rfl (fun K hK => ?_) AllReadyH.nil)
              refine step_append_own _ rfl _ _ 32 rfl w.heap.size 3 i0 (.int .i64 0) 1 8 Tryd.underlying32 hi hz0 hz1 hz2 rfl (by decide) u cs.length (ints cs) rfl (hP.ho.alloc (.cells #[.int .i64 ((s[k].toNat : Int) - 97 + 1)] 3)) ⟨Wd.heap.size, 0, none⟩ 1 1 [.int .i64 ((s[k].toNat : Int) - 97 + 1)] rfl rfl ?c1 ?c2 ?c3 ?c4 ?c5 ?_
              case c1 =>
                intro j u hj
                match j, hj with
                | 0, hj => simp at hj; subst hj; simp [Addr.add]
              case c2 => intro u hu; simp at hu; subst hu; rfl
              case c3 => unfold maxLen; omega
              case c4 => omega
              case c5 => simp; omega
              intro vA wA hown' hgrow
              obtain ⟨AA, cA, rfl, _⟩ := own_form hown'
              obtain ⟨hTA, hPA⟩ := hP.mid hown' (grownBy_trans (grownBy_of_below (grow_alloc _ _)) hgrow) hst.out
              obtain ⟨⟨a0, a1, a2⟩, g0, g1, g2⟩ := te_cells hTA
              clear hTA hown' hgrow hP c0 c1 c2 f0 f1 f2
              refine hK.out _ _ trivial (fun hHeld => ?_)
              clear hK K
              refine wpAnyH_take (i := 10) (v := ?_) rfl (by kernel_rfl) (by kernel_rfl) (by kernel_rfl) (fun _ _ _ h => h) (Or.inl ⟨by rfl, ?_⟩) (by assumption) ?_
              rotate_left
              · intro w hSw
                try dsimp only at hSw
                go_simp
                try (with_reducible rfl)
              try simp only [Act.put, List.setIfInBounds_toArray, List.set_cons_zero, List.set_cons_succ]
              refine wpAnyH_ready (rs := [11]) (by kernel_rfl) (by simp) (AllReadyH.cons rfl (fun K hK => ?_) AllReadyH.nil)
              go_simp
              refine hK.out _ _ trivial (fun hHeld => ?_)
              clear hK K
              refine wpAnyH_done (by kernel_rfl) ?_ _
              replace hPA := Lib.hid hPA
              go_wp2
              go_roundw
              case rel => exact ⟨k + 1, _, by omega, by go_num, by show Pt _ _ _ _ _ _ _; rw [Hcs2.out]; exact hPA.out⟩
              case measure => simp [intOf]; omega
            · skip
              go_simp
              refine hK.out _ _ trivial (fun hHeld => ?_)
              clear hK K
              have c2b := (te_cells (hP.hT.below (grow_alloc Wd (.cells #[.int .i64 ((s[k].toNat : Int) - 97 + 1)] 3)))).1.2.2
              refine wpAnyH_ready (rs := [1]) (by kernel_rfl) (by simp) (AllReadyH.cons rfl (fun K hK => ?_) AllReadyH.nil)
              go_simp
              refine hK.out _ _ trivial (fun hHeld => ?_)
              clear hK K
              clear c2b
              refine wpAnyH_ready (rs := [9]) (by kernel_rfl) (by simp) (AllReadyH.cons rfl (fun K hK => ?_) AllReadyH.nil)
              refine step_append_own _ rfl _ _ 32 rfl w.heap.size 3 i0 (.int .i64 0) 1 8 Tryd.underlying32 hi hz0 hz1 hz2 rfl (by decide) u cs.length (ints cs) rfl (hP.ho.alloc (.cells #[.int .i64 ((s[k].toNat : Int) - 97 + 1)] 3)) ⟨Wd.heap.size, 0, none⟩ 1 1 [.int .i64 ((s[k].toNat : Int) - 97 + 1)] rfl rfl ?c1 ?c2 ?c3 ?c4 ?c5 ?_
              case c1 =>
                intro j u hj
                match j, hj with
                | 0, hj => simp at hj; subst hj; simp [Addr.add]
              case c2 => intro u hu; simp at hu; subst hu; rfl
              case c3 => unfold maxLen; omega
              case c4 => omega
              case c5 => simp; omega
              intro vA wA hown' hgrow
              obtain ⟨AA, cA, rfl, _⟩ := own_form hown'
              obtain ⟨hTA, hPA⟩ := hP.mid hown' (grownBy_trans (grownBy_of_below (grow_alloc _ _)) hgrow) hst.out
              obtain ⟨⟨a0, a1, a2⟩, g0, g1, g2⟩ := te_cells hTA
              clear hTA hown' hgrow hP c0 c1 c2 f0 f1 f2
              refine hK.out _ _ trivial (fun hHeld => ?_)
              clear hK K
              refine wpAnyH_take (i := 10) (v := ?_) rfl (by kernel_rfl) (by kernel_rfl) (by kernel_rfl) (fun _ _ _ h => h) (Or.inl ⟨by rfl, ?_⟩) (by assumption) ?_
              rotate_left
              · intro w hSw
                try dsimp only at hSw
                go_simp
                try (with_reducible rfl)
              try simp only [Act.put, List.setIfInBounds_toArray, List.set_cons_zero, List.set_cons_succ]
              refine wpAnyH_ready (rs := [11]) (by kernel_rfl) (by simp) (AllReadyH.cons rfl (fun K hK => ?_) AllReadyH.nil)
              go_simp
              refine hK.out _ _ trivial (fun hHeld => ?_)
              clear hK K
              refine wpAnyH_done (by kernel_rfl) ?_ _
              replace hPA := Lib.hid hPA
              go_wp2
              go_roundw
              case rel => exact ⟨k + 1, _, by omega, by go_num, by show Pt _ _ _ _ _ _ _; rw [Hcs2.out]; exact hPA.out⟩
              case measure => simp [intOf]; omega
      case neg =>
        obtain rfl : k = s.size := by omega
        generalize celL (s.data.toList.take s.size) = cs at *
        clear HST hZl
        have hSl := fun W (hW : Below wr.heap.size wr W) => (Sl.of_own hP.out.ho).below hW
        obtain ⟨A, c, rfl⟩ := (Sl.of_own hP.out.ho).val
        cases hT : terrB (x0.size : Int) ((N : Int) - 1) cs with
        | false =>
          obtain rfl : Bv = false := by rw [hB.out, hT]; rfl
          have HG := Lib.hid (l2Good_any (x0.size : Int) ((N : Int) - 1) _ cs wr (hSl wr (Below.refl _ _)))
          rw [hT] at HG
          clear hSl hB
          go_wp2_with fail
          refine HG.out.mono ?_
          rintro e w2 ⟨rfl, hb2⟩
          replace hP := Lib.hid (hP.out.below hb2)
          clear hb2 HG c0 c1 c2 f0 f1 f2
          obtain ⟨⟨j0, j1, j2⟩, g0, g1, g2⟩ := te_cells hP.out.hR
          obtain ⟨⟨c0, c1, c2⟩, _⟩ := te_cells hP.out.hT
          obtain ⟨hfb, hfz, _⟩ := hP.out.fin 0 0 (.slice none 0 0)
          obtain ⟨⟨d0, d1, d2⟩, _⟩ := te_cells hfb
          have hz := Lib.hid hfz
          clear hfb hfz hP
          go_wp2
          change bodyPost _ _ _ _ _ (putT _ w.heap.size 0 0 (.slice none 0 0))
          generalize putT _ w.heap.size 0 0 (.slice none 0 0) = wz at *
          exact bodyPost_ret (v := .tuple #[terrV 0 0 (.slice none 0 0), .bool false]) (by simp [results, Tryd.results18, go_sem, d0, d1, d2]) rfl (pt_no hz.out)
        | true =>
          obtain ⟨⟨tx1, tx2⟩, _, _, tz⟩ := terr_dims hT
          have HG := Lib.hid (l2Good_any (x0.size : Int) ((N : Int) - 1) _ cs wr (hSl wr (Below.refl _ _)))
          have HX := Lib.hid fun W hW => l2Text_any (x0.size : Int) ((N : Int) - 1) _ cs W (hSl W hW) tx1 tx2 (by omega) (terr_burn hT)
          rw [hT] at HG hB
          have hpl := pic_le (x0.size : Int) (terF cs) cs.length
          have hml : (bs (pic (x0.size : Int) (terF cs) cs.length)).size ≤ 50 := by rw [bs_size]; omega
          generalize bs (pic (x0.size : Int) (terF cs) cs.length) = m at *
          clear hSl hpl
          go_wp2_with fail
          refine HG.out.mono ?_
          rintro e w2 ⟨rfl, hb2⟩
          have hb3 := Lib.hid hb2
          replace hP := Lib.hid (hP.out.below hb2)
          clear hb2 HG c0 c1 c2 f0 f1 f2
          obtain ⟨⟨c0, c1, c2⟩, _⟩ := te_cells hP.out.hT
          go_wp2_with fail
          refine (HX.out _ hb3.out).mono ?_
          rintro e w3 ⟨rfl, hb2⟩
          replace hP := Lib.hid (hP.out.below hb2)
          clear hb2 HX c0 c1 c2
          clear hb3
          by_cases hms : m = s
          case pos =>
            have hq' : (m.toList == s.toList) = true := by rw [hms]; simp
            obtain rfl : Bv = true := by rw [hB.out, decide_eq_true hms]; rfl
            clear hB hms
            obtain ⟨⟨j0, j1, j2⟩, g0, g1, g2⟩ := te_cells hP.out.hR
            obtain ⟨⟨c0, c1, c2⟩, _⟩ := te_cells hP.out.hT
            obtain ⟨hfb, hfz, hfo⟩ := hP.out.fin (x0.size : Int) ((N : Int) - 1) (.slice A cs.length c)
            obtain ⟨⟨d0, d1, d2⟩, _⟩ := te_cells hfb
            have hz := Lib.hid hfz
            have ho := Lib.hid hfo
            clear hfb hfz hP hfo
            go_wp2
            change bodyPost _ _ _ _ _ (putT _ w.heap.size (x0.size : Int) ((N : Int) - 1) (.slice A cs.length c))
            generalize putT _ w.heap.size _ _ (.slice A cs.length c) = wz at *
            exact bodyPost_ret (v := .tuple #[terrV (x0.size : Int) ((N : Int) - 1) (.slice A cs.length c), .bool true]) (by simp [results, Tryd.results18, go_sem, d0, d1, d2]) rfl (pt_yes hz.out ho.out)
          case neg =>
            have hne := bytes_ne hms
            obtain rfl : Bv = false := by rw [hB.out, decide_eq_false hms]; rfl
            clear hB hms
            obtain ⟨⟨j0, j1, j2⟩, g0, g1, g2⟩ := te_cells hP.out.hR
            obtain ⟨⟨c0, c1, c2⟩, _⟩ := te_cells hP.out.hT
            obtain ⟨hfb, hfz, _⟩ := hP.out.fin 0 0 (.slice none 0 0)
            obtain ⟨⟨d0, d1, d2⟩, _⟩ := te_cells hfb
            have hz := Lib.hid hfz
            clear hfb hfz hP
            go_wp2
            change bodyPost _ _ _ _ _ (putT _ w.heap.size 0 0 (.slice none 0 0))
            generalize putT _ w.heap.size 0 0 (.slice none 0 0) = wz at *
            exact bodyPost_ret (v := .tuple #[terrV 0 0 (.slice none 0 0), .bool false]) (by simp [results, Tryd.results18, go_sem, d0, d1, d2]) rfl (pt_no hz.out)
set_option maxHeartbeats 16000000 in
theorem ParseTerrain_any (s : ByteArray) (w : World) (hs : s.size ≤ 1048576) (hm : LenIs w) :
    Calls Tryd.prog 19 #[.string s] w (RetPT w (ptB s) (ptX s) (ptY s) (ptZ s)) := by
  have hR0 : Hid (Bx (w.alloc (.cells #[.int .i64 0, .int .i64 0, .slice none 0 0] 34)) 34 w.heap.size (teC 0 0 (.slice none 0 0))) := Bx.new w (teC 0 0 (.slice none 0 0)) _
  have hb0 : Hid (Below w.heap.size w (w.alloc (.cells #[.int .i64 0, .int .i64 0, .slice none 0 0] 34))) := grow_alloc _ _
  have HS := Lib.hid (Split_any s 10 _ hs (hm.below hb0.out))
  have hX := ptX_bd s
  have hY := ptY_bd s
  have HH := Lib.hid fun (W : World) (A : Option Addr) (n c : Nat) (hn : n = (splitS s 10).length) h => head_at (s := s) (W := W) (A := A) (c := c) hn h
  have HN := Lib.hid fun (n : Nat) (hn : n = (splitS s 10).length) => ptY_of (s := s) hn
  have hle := Nat.le_trans (splitS_le s 10) (Nat.add_le_add_right hs 1)
  have hpos := split_ne s 10
  change Hid (Calls _ _ _ _ (RetOwn _ _ 1 (splitS s 10).length (strs (splitS s 10)))) at HS
  have HB := Lib.hid fun (h : s.size ≤ 40) => ptB_of h
  have HL := Lib.hid fun (h : ¬ s.size ≤ 30) => ptB_long h
  generalize hX0 : ptX s = X at *
  generalize hY0 : ptY s = Y at *
  generalize hN0 : (splitS s 10).length = N at *
  have HHs := HH
  generalize strs (splitS s 10) = ss at *
  clear hX0 hY0 hN0 hm HHs
  by_cases hl : s.size ≤ 30
  case neg =>
    have hB := HL.out hl
    rw [hB]
    have hl2 : decide ((30 : Int) < (s.size : Int)) = true := decide_eq_true (by omega)
    clear hB HB HL hl
    go_enter Tryd.func19, Tryd.ntmps19
    go_wp2_with fail
    refine HS.out.mono ?_
    rintro e w1 ⟨v, rfl, ho, hb⟩
    obtain ⟨A, c, rfl⟩ := (Sl.of_own ho).val
    obtain ⟨gb, off, x0, rfl, hx0, hxs⟩ := HH.out w1 A N c rfl (Sl.of_own ho)
    have hNY := HN.out N rfl
    have hR := Lib.hid (hR0.out.below hb)
    replace hb := Lib.hid (grow_trans hb0.out hb)
    clear ho hb0 hR0 HS HH HN
    subst hxs
    subst hNY
    have hbx := grow_alloc w1 (.cells #[.int .i64 (x0.size : Int), .int .i64 ((N : Int) - 1), .slice none 0 0] 34)
    have hR2 := Lib.hid (hR.out.below hbx)
    have hb2 := Lib.hid (grow_trans hb.out hbx)
    obtain ⟨⟨c0, c1, c2⟩, f0, f1, f2⟩ := te_cells hR2.out
    clear hbx
    go_wp2
    obtain ⟨⟨d0, d1, d2⟩, _⟩ := te_cells (putT_bx (x' := 0) (y' := 0) (u' := .slice none 0 0) hR2.out)
    have hz := Lib.hid (putT_below (x := 0) (y := 0) (u := .slice none 0 0) hb2.out (Nat.le_refl w.heap.size))
    change bodyPost _ _ _ _ _ (putT (w1.alloc (.cells #[.int .i64 (x0.size : Int), .int .i64 ((N : Int) - 1), .slice none 0 0] 34)) w.heap.size 0 0 (.slice none 0 0))
    generalize putT _ w.heap.size 0 0 (.slice none 0 0) = wz at *
    exact bodyPost_ret (v := .tuple #[terrV 0 0 (.slice none 0 0), .bool false]) (by simp [results, Tryd.results19, go_sem, d0, d1, d2]) rfl (pt_no hz.out)
  case pos =>
    have hB := HB.out (by omega)
    have hl2 : decide ((30 : Int) < (s.size : Int)) = false := decide_eq_false (by omega)
    clear HB HL
    have hZ : ptZ s = celL (s.data.toList.take s.size) := by unfold ptZ; rw [List.take_of_length_le (by simp)]
    have hZl : ∀ k : Nat, k ≤ s.size → (celL (s.data.toList.take k)).length ≤ 40 := fun k hk => by have := celL_le (s.data.toList.take k); rw [List.length_take, list_le] at this; omega
    have hat : ∀ k (hk : k < s.size), s.data.toList[k]? = some s[k] := fun k hk => by rw [Array.getElem?_toList]; exact Array.getElem?_eq_getElem hk
    have HST := Lib.hid fun k (hk : k < s.size) => celL_step (hat k hk)
    generalize hBv : ptB s = Bv at *
    rw [hZ] at hB ⊢
    replace hB := Lib.hid hB
    replace hZl := Lib.hid hZl
    obtain ⟨i0, hi, hz0, hz1, hz2⟩ := info_parts info_int
    clear hBv hZ hat
    go_enter Tryd.func19, Tryd.ntmps19
    go_wp2_with fail
    refine HS.out.mono ?_
    rintro e w1 ⟨v, rfl, ho, hb⟩
    obtain ⟨A, c, rfl⟩ := (Sl.of_own ho).val
    obtain ⟨gb, off, x0, rfl, hx0, hxs⟩ := HH.out w1 A N c rfl (Sl.of_own ho)
    have hNY := HN.out N rfl
    have hR := Lib.hid (hR0.out.below hb)
    replace hb := Lib.hid (grow_trans hb0.out hb)
    clear ho hb0 hR0 HS HH HN
    subst hxs
    subst hNY
    have hP0 : Pt w (w1.alloc (.cells (teC (x0.size : Int) ((N : Int) - 1) (.slice none 0 0)).toArray 34)) w1.heap.size (x0.size : Int) ((N : Int) - 1) (.slice none 0 0) [] := by
      have hB1 : Below w1.heap.size w1 (w1.alloc (.cells (teC (x0.size : Int) ((N : Int) - 1) (.slice none 0 0)).toArray 34)) := grow_alloc _ _
      refine ⟨grow_trans hb.out hB1, hR.out.below hB1, ?_, ?_, ?_⟩
      · exact Bx.new w1 (teC (x0.size : Int) ((N : Int) - 1) (.slice none 0 0)) 34
      · exact own_nil _ _ _ _
      · exact hR.out.lt
    replace hP0 := Lib.hid hP0
    have hTb : Hid (w.heap.size < w1.heap.size) := hP0.out.hlt
    have hx : (x0.size : Int) ≤ 40 := by omega
    have hN40 : (N : Int) ≤ 41 := by omega
    clear hX hY hle
    go_wp2
    go_loopw [25] (fun i wr => ∃ k : Nat, ∃ u : Value, k ≤ s.size ∧ i = .int .i64 k ∧ Hid (Pt w wr w1.heap.size (x0.size : Int) ((N : Int) - 1) u (celL (s.data.toList.take k)))) (fun i _ => s.size - (intOf i).toNat)
    case atStart => exact ⟨0, _, Nat.zero_le _, rfl, hP0.out⟩
    case round =>
      obtain ⟨k, u, hk, rfl, hP⟩ := hrel
      clear hP0 hR hb hx0
      generalize hTT : w1.heap.size = T at *
      clear hTT
      obtain ⟨⟨c0, c1, c2⟩, f0, f1, f2⟩ := te_cells hP.out.hT
      have hsz := hP.out.hb.size
      by_cases hlt : k < s.size
      case pos =>
        have hlz : (k : Int) < (s.size : Int) := by omega
        have hst := HST.out k hlt
        have hl1 := hZl.out k (by omega)
        have b3 : s[k].toNat < 256 := UInt8.toNat_lt _
        generalize celL (s.data.toList.take k) = cs at *
        obtain ⟨cs2, hcs2⟩ : ∃ l, celL (s.data.toList.take (k + 1)) = l := ⟨_, rfl⟩
        rw [hcs2] at hst
        have Hcs2 := Lib.hid hcs2
        clear hcs2
        clear HST hZl hB
        by_cases q46 : s[k] = 46
        case pos =>
          rw [cv46 q46] at hst
          have hst := Lib.hid hst
          have hq' : s[k].toNat = 46 := by rw [q46]; rfl
          clear q46
          go_wp2_with ((at_builtin; refine wpList_append_own _ rfl _ _ 32 rfl w.heap.size 3 i0 (.int .i64 0) 1 8 Tryd.underlying32 hi hz0 hz1 hz2 rfl (by decide) _ _ _ rfl (hP.out.ho.alloc _) ⟨wr.heap.size, 0, none⟩ 1 1 [.int .i64 0] rfl rfl ?c1 ?c2 ?c3 ?c4 ?c5 ?_))
          case c1 =>
            intro j u hj
            match j, hj with
            | 0, hj => simp at hj; subst hj; simp [Addr.add]
          case c2 => intro u hu; simp at hu; subst hu; rfl
          case c3 => unfold maxLen; omega
          case c4 => omega
          case c5 => simp; omega
          intro vA wA hown' hgrow _
          obtain ⟨AA, cA, rfl, _⟩ := own_form hown'
          obtain ⟨hTA, hPA⟩ := hP.out.mid hown' (grownBy_trans (grownBy_of_below (grow_alloc _ _)) hgrow) hst.out
          obtain ⟨⟨a0, a1, a2⟩, g0, g1, g2⟩ := te_cells hTA
          have hPA := Lib.hid hPA
          clear hTA hown' hgrow hP c0 c1 c2 f0 f1 f2
          go_wp2
          go_roundw
          case rel => exact ⟨k + 1, _, by omega, by go_num, by show Pt _ _ _ _ _ _ _; rw [Hcs2.out]; exact hPA.out⟩
          case measure => simp [intOf]; omega
        case neg =>
          have hq1 : s[k].toNat ≠ 46 := fun e => q46 (UInt8.toNat_inj.1 (by rw [e]; rfl))
          have hq2 : ¬ ((s[k].toNat : Int) = 46) := by omega
          have hq3 : ((s[k].toNat : Int) == 46) = false := by simpa using hq2
          by_cases q10 : s[k] = 10
          case pos =>
            rw [cv10 q10, List.append_nil] at hst
            have hst := Lib.hid hst
            have hq' : s[k].toNat = 10 := by rw [q10]; rfl
            clear q46 q10 hq1 hq2 hq3
            go_wp2
            go_roundw
            case rel => exact ⟨k + 1, u, by omega, by go_num, by show Pt _ _ _ _ _ _ _; rw [Hcs2.out, hst.out]; exact hP.out⟩
            case measure => simp [intOf]; omega
          case neg =>
            rw [cvZ q10 q46] at hst
            have hst := Lib.hid hst
            have hr1 : s[k].toNat ≠ 10 := fun e => q10 (UInt8.toNat_inj.1 (by rw [e]; rfl))
            have hr2 : ¬ ((s[k].toNat : Int) = 10) := by omega
            have hr3 : ((s[k].toNat : Int) == 10) = false := by simpa using hr2
            have hr4 : ((s[k].toNat : Int) != 10) = true := by simpa using hr2
            have e0 : IntKind.i64.wrap (s[k].toNat : Int) = (s[k].toNat : Int) := IntWalk.i64_in _ (by omega)
            have e1 : IntKind.i64.wrap ((s[k].toNat : Int) - 97) = (s[k].toNat : Int) - 97 := IntWalk.i64_in _ (by omega)
            have e2 : IntKind.i64.wrap ((s[k].toNat : Int) - 97 + 1) = (s[k].toNat : Int) - 97 + 1 := IntWalk.i64_in _ (by omega)
            clear q46 q10
            go_wp2_with fail
            replace hP := hP.out.below (grow_drew _)
            clear c0 c1 c2 f0 f1 f2 hsz
            refine wp_region_held_drew (S := fun W => True) (by kernel_rfl) trivial (fun hHeld => ?_)
            generalize wr.drew = Wd at *
            have hsz := hP.hb.size
            obtain ⟨⟨c0, c1, c2⟩, f0, f1, f2⟩ := te_cells hP.hT
            refine wpAnyH_take (i := 0) (v := ?_) rfl (by kernel_rfl) (by kernel_rfl) (by kernel_rfl) (fun _ _ _ h => h) (Or.inl ⟨by rfl, ?_⟩) (by assumption) ?_
            rotate_left
            · intro w hSw
              try dsimp only at hSw
              go_simp
              try (with_reducible rfl)
            try simp only [Act.put, List.setIfInBounds_toArray, List.set_cons_zero, List.set_cons_succ]
            refine wpAnyH_take (i := 2) (v := ?_) rfl (by kernel_rfl) (by kernel_rfl) (by kernel_rfl) (fun _ _ _ h => h) (Or.inl ⟨by rfl, ?_⟩) (by assumption) ?_
            rotate_left
            · intro w hSw
              try dsimp only at hSw
              go_simp
              try (with_reducible rfl)
            try simp only [Act.put, List.setIfInBounds_toArray, List.set_cons_zero, List.set_cons_succ]
            refine wpAnyH_take (i := 3) (v := ?_) rfl (by kernel_rfl) (by kernel_rfl) (by kernel_rfl) (fun _ _ _ h => h) (Or.inl ⟨by rfl, ?_⟩) (by assumption) ?_
            rotate_left
            · intro w hSw
              try dsimp only at hSw
              go_simp
              try (with_reducible rfl)
            try simp only [Act.put, List.setIfInBounds_toArray, List.set_cons_zero, List.set_cons_succ]
            refine wpAnyH_take (i := 4) (v := ?_) rfl (by kernel_rfl) (by kernel_rfl) (by kernel_rfl) (fun _ _ _ h => h) (Or.inl ⟨by rfl, ?_⟩) (by assumption) ?_
            rotate_left
            · intro w hSw
              try dsimp only at hSw
              go_simp
              try (with_reducible rfl)
            try simp only [Act.put, List.setIfInBounds_toArray, List.set_cons_zero, List.set_cons_succ]
            refine wpAnyH_take (i := 5) (v := ?_) rfl (by kernel_rfl) (by kernel_rfl) (by kernel_rfl) (fun _ _ _ h => h) (Or.inl ⟨by rfl, ?_⟩) (by assumption) ?_
            rotate_left
            · intro w hSw
              try dsimp only at hSw
              go_simp
              try (with_reducible rfl)
            try simp only [Act.put, List.setIfInBounds_toArray, List.set_cons_zero, List.set_cons_succ]
            refine wpAnyH_take (i := 6) (v := ?_) rfl (by kernel_rfl) (by kernel_rfl) (by kernel_rfl) (fun _ _ _ h => h) (Or.inl ⟨by rfl, ?_⟩) (by assumption) ?_
            rotate_left
            · intro w hSw
              try dsimp only at hSw
              go_simp
              try (with_reducible rfl)
            try simp only [Act.put, List.setIfInBounds_toArray, List.set_cons_zero, List.set_cons_succ]
            refine wpAnyH_take (i := 7) (v := ?_) rfl (by kernel_rfl) (by kernel_rfl) (by kernel_rfl) (fun _ _ _ h => h) (Or.inl ⟨by rfl, ?_⟩) (by assumption) ?_
            rotate_left
            · intro w hSw
              try dsimp only at hSw
              go_simp
              try (with_reducible rfl)
            try simp only [Act.put, List.setIfInBounds_toArray, List.set_cons_zero, List.set_cons_succ]
            refine wpAnyH_ready (rs := [1, 8]) (by kernel_rfl) (by simp) ?_
            refine AllReadyH.cons rfl (fun K hK => ?_) (AllReadyH.cons rfl (fun K hK => ?_) AllReadyH.nil)
            · skip
              go_simp
              refine hK.out _ _ trivial (fun hHeld => ?_)
              clear hK K
              refine wpAnyH_ready (rs := [8]) (by kernel_rfl) (by simp) (AllReadyH.cons rfl (fun K hK => ?_) AllReadyH.nil)
              go_simp
              refine hK.out _ _ trivial (fun hHeld => ?_)
              clear hK K
              refine wpAnyH_ready (rs := [9]) (by kernel_rfl) (by simp) (AllReadyH.cons rfl (fun K hK => ?_) AllReadyH.nil)
              refine step_append_own _ rfl _ _ 32 rfl w.heap.size 3 i0 (.int .i64 0) 1 8 Tryd.underlying32 hi hz0 hz1 hz2 rfl (by decide) u cs.length (ints cs) rfl (hP.ho.alloc (.cells #[.int .i64 ((s[k].toNat : Int) - 97 + 1)] 3)) ⟨Wd.heap.size, 0, none⟩ 1 1 [.int .i64 ((s[k].toNat : Int) - 97 + 1)] rfl rfl ?c1 ?c2 ?c3 ?c4 ?c5 ?_
              case c1 =>
                intro j u hj
                match j, hj with
                | 0, hj => simp at hj; subst hj; simp [Addr.add]
              case c2 => intro u hu; simp at hu; subst hu; rfl
              case c3 => unfold maxLen; omega
              case c4 => omega
              case c5 => simp; omega
              intro vA wA hown' hgrow
              obtain ⟨AA, cA, rfl, _⟩ := own_form hown'
              obtain ⟨hTA, hPA⟩ := hP.mid hown' (grownBy_trans (grownBy_of_below (grow_alloc _ _)) hgrow) hst.out
              obtain ⟨⟨a0, a1, a2⟩, g0, g1, g2⟩ := te_cells hTA
              clear hTA hown' hgrow hP c0 c1 c2 f0 f1 f2
              refine hK.out _ _ trivial (fun hHeld => ?_)
              clear hK K
              refine wpAnyH_take (i := 10) (v := ?_) rfl (by kernel_rfl) (by kernel_rfl) (by kernel_rfl) (fun _ _ _ h => h) (Or.inl ⟨by rfl, ?_⟩) (by assumption) ?_
              rotate_left
              · intro w hSw
                try dsimp only at hSw
                go_simp
                try (with_reducible rfl)
              try simp only [Act.put, List.setIfInBounds_toArray, List.set_cons_zero, List.set_cons_succ]
              refine wpAnyH_ready (rs := [11]) (by kernel_rfl) (by simp) (AllReadyH.cons rfl (fun K hK => ?_) AllReadyH.nil)
              go_simp
              refine hK.out _ _ trivial (fun hHeld => ?_)
              clear hK K
              refine wpAnyH_done (by kernel_rfl) ?_ _
              replace hPA := Lib.hid hPA
              go_wp2
              go_roundw
              case rel => exact ⟨k + 1, _, by omega, by go_num, by show Pt _ _ _ _ _ _ _; rw [Hcs2.out]; exact hPA.out⟩
              case measure => simp [intOf]; omega
            · skip
              go_simp
              refine hK.out _ _ trivial (fun hHeld => ?_)
              clear hK K
              have c2b := (te_cells (hP.hT.below (grow_alloc Wd (.cells #[.int .i64 ((s[k].toNat : Int) - 97 + 1)] 3)))).1.2.2
              refine wpAnyH_ready (rs := [1]) (by kernel_rfl) (by simp) (AllReadyH.cons rfl (fun K hK => ?_) AllReadyH.nil)
              go_simp
              refine hK.out _ _ trivial (fun hHeld => ?_)
              clear hK K
              clear c2b
              refine wpAnyH_ready (rs := [9]) (by kernel_rfl) (by simp) (AllReadyH.cons rfl (fun K hK => ?_) AllReadyH.nil)
              refine step_append_own _ rfl _ _ 32 rfl w.heap.size 3 i0 (.int .i64 0) 1 8 Tryd.underlying32 hi hz0 hz1 hz2 rfl (by decide) u cs.length (ints cs) rfl (hP.ho.alloc (.cells #[.int .i64 ((s[k].toNat : Int) - 97 + 1)] 3)) ⟨Wd.heap.size, 0, none⟩ 1 1 [.int .i64 ((s[k].toNat : Int) - 97 + 1)] rfl rfl ?c1 ?c2 ?c3 ?c4 ?c5 ?_
              case c1 =>
                intro j u hj
                match j, hj with
                | 0, hj => simp at hj; subst hj; simp [Addr.add]
              case c2 => intro u hu; simp at hu; subst hu; rfl
              case c3 => unfold maxLen; omega
              case c4 => omega
              case c5 => simp; omega
              intro vA wA hown' hgrow
              obtain ⟨AA, cA, rfl, _⟩ := own_form hown'
              obtain ⟨hTA, hPA⟩ := hP.mid hown' (grownBy_trans (grownBy_of_below (grow_alloc _ _)) hgrow) hst.out
              obtain ⟨⟨a0, a1, a2⟩, g0, g1, g2⟩ := te_cells hTA
              clear hTA hown' hgrow hP c0 c1 c2 f0 f1 f2
              refine hK.out _ _ trivial (fun hHeld => ?_)
              clear hK K
              refine wpAnyH_take (i := 10) (v := ?_) rfl (by kernel_rfl) (by kernel_rfl) (by kernel_rfl) (fun _ _ _ h => h) (Or.inl ⟨by rfl, ?_⟩) (by assumption) ?_
              rotate_left
              · intro w hSw
                try dsimp only at hSw
                go_simp
                try (with_reducible rfl)
              try simp only [Act.put, List.setIfInBounds_toArray, List.set_cons_zero, List.set_cons_succ]
              refine wpAnyH_ready (rs := [11]) (by kernel_rfl) (by simp) (AllReadyH.cons rfl (fun K hK => ?_) AllReadyH.nil)
              go_simp
              refine hK.out _ _ trivial (fun hHeld => ?_)
              clear hK K
              refine wpAnyH_done (by kernel_rfl) ?_ _
              replace hPA := Lib.hid hPA
              go_wp2
              go_roundw
              case rel => exact ⟨k + 1, _, by omega, by go_num, by show Pt _ _ _ _ _ _ _; rw [Hcs2.out]; exact hPA.out⟩
              case measure => simp [intOf]; omega
      case neg =>
        obtain rfl : k = s.size := by omega
        generalize celL (s.data.toList.take s.size) = cs at *
        clear HST hZl
        have hSl := fun W (hW : Below wr.heap.size wr W) => (Sl.of_own hP.out.ho).below hW
        obtain ⟨A, c, rfl⟩ := (Sl.of_own hP.out.ho).val
        cases hT : terrB (x0.size : Int) ((N : Int) - 1) cs with
        | false =>
          obtain rfl : Bv = false := by rw [hB.out, hT]; rfl
          have HG := Lib.hid (TerrainText_any (x0.size : Int) ((N : Int) - 1) _ cs wr (hSl wr (Below.refl _ _)))
          rw [hT] at HG
          rw [show ∀ l, strT false l = .tuple #[.string (bs []), .bool false] from fun _ => rfl] at HG
          clear hSl hB
          go_wp2_with fail
          refine HG.out.mono ?_
          rintro e w2 ⟨rfl, hb2⟩
          replace hP := Lib.hid (hP.out.below hb2)
          clear hb2 HG c0 c1 c2 f0 f1 f2
          obtain ⟨⟨j0, j1, j2⟩, g0, g1, g2⟩ := te_cells hP.out.hR
          obtain ⟨⟨c0, c1, c2⟩, _⟩ := te_cells hP.out.hT
          obtain ⟨hfb, hfz, _⟩ := hP.out.fin 0 0 (.slice none 0 0)
          obtain ⟨⟨d0, d1, d2⟩, _⟩ := te_cells hfb
          have hz := Lib.hid hfz
          clear hfb hfz hP
          go_wp2
          change bodyPost _ _ _ _ _ (putT _ w.heap.size 0 0 (.slice none 0 0))
          generalize putT _ w.heap.size 0 0 (.slice none 0 0) = wz at *
          exact bodyPost_ret (v := .tuple #[terrV 0 0 (.slice none 0 0), .bool false]) (by simp [results, Tryd.results19, go_sem, d0, d1, d2]) rfl (pt_no hz.out)
        | true =>
          obtain ⟨⟨tx1, tx2⟩, _, _, tz⟩ := terr_dims hT
          have HG := Lib.hid (TerrainText_any (x0.size : Int) ((N : Int) - 1) _ cs wr (hSl wr (Below.refl _ _)))
          rw [hT] at HG hB
          have hpl := pic_le (x0.size : Int) (terF cs) cs.length
          have hml : (bs (pic (x0.size : Int) (terF cs) cs.length)).size ≤ 50 := by rw [bs_size]; omega
          rw [show strT true (pic (x0.size : Int) (terF cs) cs.length) = .tuple #[.string (bs (pic (x0.size : Int) (terF cs) cs.length)), .bool true] from rfl] at HG
          generalize bs (pic (x0.size : Int) (terF cs) cs.length) = m at *
          clear hSl hpl
          go_wp2_with fail
          refine HG.out.mono ?_
          rintro e w2 ⟨rfl, hb2⟩
          have hb3 := Lib.hid hb2
          replace hP := Lib.hid (hP.out.below hb2)
          clear hb2 HG c0 c1 c2 f0 f1 f2
          clear hb3
          by_cases hms : m = s
          case pos =>
            have hq' : (m.toList == s.toList) = true := by rw [hms]; simp
            obtain rfl : Bv = true := by rw [hB.out, decide_eq_true hms]; rfl
            clear hB hms
            obtain ⟨⟨j0, j1, j2⟩, g0, g1, g2⟩ := te_cells hP.out.hR
            obtain ⟨⟨c0, c1, c2⟩, _⟩ := te_cells hP.out.hT
            obtain ⟨hfb, hfz, hfo⟩ := hP.out.fin (x0.size : Int) ((N : Int) - 1) (.slice A cs.length c)
            obtain ⟨⟨d0, d1, d2⟩, _⟩ := te_cells hfb
            have hz := Lib.hid hfz
            have ho := Lib.hid hfo
            clear hfb hfz hP hfo
            go_wp2
            change bodyPost _ _ _ _ _ (putT _ w.heap.size (x0.size : Int) ((N : Int) - 1) (.slice A cs.length c))
            generalize putT _ w.heap.size _ _ (.slice A cs.length c) = wz at *
            exact bodyPost_ret (v := .tuple #[terrV (x0.size : Int) ((N : Int) - 1) (.slice A cs.length c), .bool true]) (by simp [results, Tryd.results19, go_sem, d0, d1, d2]) rfl (pt_yes hz.out ho.out)
          case neg =>
            have hne := bytes_ne hms
            obtain rfl : Bv = false := by rw [hB.out, decide_eq_false hms]; rfl
            clear hB hms
            obtain ⟨⟨j0, j1, j2⟩, g0, g1, g2⟩ := te_cells hP.out.hR
            obtain ⟨⟨c0, c1, c2⟩, _⟩ := te_cells hP.out.hT
            obtain ⟨hfb, hfz, _⟩ := hP.out.fin 0 0 (.slice none 0 0)
            obtain ⟨⟨d0, d1, d2⟩, _⟩ := te_cells hfb
            have hz := Lib.hid hfz
            clear hfb hfz hP
            go_wp2
            change bodyPost _ _ _ _ _ (putT _ w.heap.size 0 0 (.slice none 0 0))
            generalize putT _ w.heap.size 0 0 (.slice none 0 0) = wz at *
            exact bodyPost_ret (v := .tuple #[terrV 0 0 (.slice none 0 0), .bool false]) (by simp [results, Tryd.results19, go_sem, d0, d1, d2]) rfl (pt_no hz.out)
end Go.Proofs.YtabedcpibnnnhaaDoor
