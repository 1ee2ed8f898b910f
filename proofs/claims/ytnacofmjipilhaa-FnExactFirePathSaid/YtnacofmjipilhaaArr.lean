/- The reference's arrival times. Conditions: as each states. -/
import Derived.Test.YtnacofmjipilhaaFire
import Derived.Test.YtnacofmjipilhaaTB
import Derived.Deep.LoopGhost
namespace Go.Proofs.Ytnacofmjipilhaa
open Go.ChangeShapes Go.WideShapes Go.ChangeAt Go.RowKit Go.Deep
set_option linter.unusedVariables false
set_option linter.unusedSimpArgs false
set_option maxRecDepth 100000

/-- The first table, so far. -/
def iniL (zs srcs : List Int) (s : Int) (k : Nat) : List Int := (List.range k).map fun i => if burnP zs i && hasB srcs i then s else -1
theorem iniL_length (zs srcs : List Int) (s : Int) (k : Nat) : (iniL zs srcs s k).length = k := by simp [iniL]
theorem iniL_yes {zs srcs : List Int} {s : Int} {k : Nat} (h : (burnP zs k && hasB srcs k) = true) : iniL zs srcs s (k + 1) = iniL zs srcs s k ++ [s] := by
  simp only [iniL, List.range_succ, List.map_append, List.map_cons, List.map_nil]; rw [if_pos h]
theorem iniL_no {zs srcs : List Int} {s : Int} {k : Nat} (h : (burnP zs k && hasB srcs k) = false) : iniL zs srcs s (k + 1) = iniL zs srcs s k ++ [-1] := by
  simp only [iniL, List.range_succ, List.map_append, List.map_cons, List.map_nil]; rw [if_neg (by rw [h]; simp)]
theorem iniL_tm (zs srcs : List Int) (s : Int) (k c : Nat) : tm (iniL zs srcs s k) c = if c < k ∧ (burnP zs c && hasB srcs c) = true then s else -1 := by
  rcases Nat.lt_or_ge c k with h | h
  · have : (iniL zs srcs s k)[c]? = some (if burnP zs c && hasB srcs c then s else -1) := by simp [iniL, h]
    rw [tm_at this]
    by_cases h2 : (burnP zs c && hasB srcs c) = true
    · rw [if_pos h2, if_pos ⟨h, h2⟩]
    · rw [if_neg h2, if_neg (fun e => h2 e.2)]
  · rw [tm_out (by rw [iniL_length]; exact h), if_neg (by omega)]
theorem ini_inv {x y : Int} {zs srcs : List Int} (ps : List (Int × Int)) {s : Int} (h : terrB x y zs = true) (h0 : 0 ≤ s) (h1 : s ≤ 1000) : BInv zs.length (fireSr zs srcs) (fireSt x zs) (fireD x zs ps) s (iniL zs srcs s zs.length) := by
  refine BInv.begin (fireX ps h h0 h1) (iniL_length _ _ _ _) (fun c hc => ?_) (fun c hc => ?_)
  · rw [iniL_tm, if_pos ⟨hc.1, by rw [hc.2.1, hc.2.2]; rfl⟩]
  · rw [iniL_tm, if_neg fun e => hc ⟨e.1, by have := e.2; rw [Bool.and_eq_true] at this; exact ⟨this.2, this.1⟩⟩]
theorem own_snoc {B : Nat} {e : TypeId} {w1 : World} {v : Value} {xs ys : List Int} {x : Int} (hy : ys = xs ++ [x]) (h : w1.ownsRow B e 1 v (xs.length + 1) (ints xs ++ [.int .i64 x])) : w1.ownsRow B e 1 v ys.length (ints ys) := by
  rw [hy]; simpa using h
/-- A table in memory, behind a terrain's box. -/
structure Bl (w wr : World) (x y : Int) (u : Value) (g c N : Nat) (L : List Int) : Prop where
  hb : Below w.heap.size w wr
  hT : TB wr w.heap.size x y u
  ho : wr.ownsRow (w.heap.size + 1) 3 1 (.slice (some ⟨g, 0, none⟩) N c) N (ints L)
theorem Bl.below {w wr w' : World} {x y : Int} {u : Value} {g c N : Nat} {L : List Int} (h : Bl w wr x y u g c N L) (hb : Below wr.heap.size wr w') : Bl w w' x y u g c N L :=
  ⟨grow_trans h.hb hb, h.hT.below hb, own_below h.ho hb⟩
theorem Bl.base {w wr : World} {x y : Int} {u : Value} {g c N : Nat} {L : List Int} (h : Bl w wr x y u g c N L) : w.heap.size + 1 ≤ g := (h.ho.lt g rfl).1
theorem Bl.put {w wr : World} {x y : Int} {u : Value} {g c N : Nat} {L : List Int} (h : Bl w wr x y u g c N L) (k : Nat) (z : Int) : Bl w (wr.setCell ⟨g, k, none⟩ (.int .i64 z)) x y u g c N (L.set k z) := by
  obtain ⟨h1, h2⟩ := h.ho.stored k (.int .i64 z)
  have hg := h.base
  refine ⟨h.hb.setCell (by show w.heap.size ≤ g; omega) _, h.hT.kept h2 (fun e => by cases e; omega), ?_⟩
  rw [show ints (L.set k z) = (ints L).set k (.int .i64 z) from List.map_set]
  exact h1
theorem Bl.cell {w wr : World} {x y : Int} {u : Value} {g c N : Nat} {L : List Int} (h : Bl w wr x y u g c N L) {k : Nat} (hl : L.length = N) (hk : k < N) : wr.cell? ⟨g, k, none⟩ = some (.int .i64 (tm L k)) ∧ wr.frozen? ⟨g, k, none⟩ = false := by
  refine ⟨?_, h.ho.frozenAt k⟩
  rw [h.ho.cellAt k (by omega)]
  simp [tm_get (show k < L.length by omega)]
theorem near_mem {x : Int} {zs : List Int} {a b : Nat} (h : fireSt x zs a b) : (b : Int) ∈ selN (nearP x a) zs.length := by
  unfold selN
  rw [List.mem_map]
  exact ⟨b, List.mem_filter.2 ⟨List.mem_range.2 h.1, h.2.1⟩, rfl⟩
theorem near_at {x : Int} {N a k : Nat} {z : Int} (h : (selN (nearP x a) N)[k]? = some z) : ∃ b : Nat, z = b ∧ b < N ∧ nearP x a b = true := by
  have := List.mem_of_getElem? h
  unfold selN at this
  obtain ⟨b, hb, rfl⟩ := List.mem_map.1 this
  obtain ⟨h1, h2⟩ := List.mem_filter.1 hb
  exact ⟨b, rfl, List.mem_range.1 h1, h2⟩
theorem wp_some {α : Type} {P : α → Prop} (h : ∀ a, P a) : ∀ a, P a := h
/-- A call hands back the table of the least ticks. -/
def RetArr (w : World) (x : Int) (zs : List Int) (ps : List (Int × Int)) (srcs : List Int) (s : Int) (e : Ending) (w' : World) : Prop :=
  RetOwn w 3 1 zs.length (ints (arrL x zs ps srcs s)) e w' ∧ LstF x zs ps srcs s (arrL x zs ps srcs s) ∧ ∀ c, -1 ≤ tm (arrL x zs ps srcs s) c ∧ tm (arrL x zs ps srcs s) c ≤ 4000
set_option maxHeartbeats 16000000 in
theorem l4Arrivals_any (x y : Int) (u : Value) (zs : List Int) (v : Value) (ps : List (Int × Int)) (r : Value) (srcs : List Int) (s : Int) (w : World) (h : Sl w 1 u zs.length (ints zs)) (hps : Sl w 2 v ps.length (phs ps)) (hr : Sl w 1 r srcs.length (ints srcs))
    (ht : terrB x y zs = true) (hp : phB ps = true) (hs0 : 0 ≤ s) (hs1 : s ≤ 1000) :
    Calls Try.prog 115 #[terrV x y u, v, r, .int .i64 s] w (RetArr w x zs ps srcs s) := by
  obtain ⟨⟨hx1, hx2⟩, ⟨hy1, hy2⟩, hxy, h25⟩ := terr_dims ht
  have hpos : 0 < zs.length := by
    have : 0 < x * y := Int.mul_pos (by omega) (by omega)
    omega
  have HX := Lib.hid (fireX (srcs := srcs) ps ht hs0 hs1)
  have HI := Lib.hid (ini_inv (srcs := srcs) ps ht hs0 hs1)
  have HY : Hid (∀ k, (burnP zs k && hasB srcs k) = true → iniL zs srcs s (k + 1) = iniL zs srcs s k ++ [s]) := fun k => iniL_yes
  have HNo : Hid (∀ k, (burnP zs k && hasB srcs k) = false → iniL zs srcs s (k + 1) = iniL zs srcs s k ++ [-1]) := fun k => iniL_no
  have HIl := Lib.hid (iniL_length zs srcs s)
  have Hu := Lib.hid fun W hW => h.below (w' := W) hW
  have Hr := Lib.hid fun W hW => hr.below (w' := W) hW
  have Hps := Lib.hid fun W hW => hps.below (w' := W) hW
  have HNear := Lib.hid fun W hW cl h3 h4 => l2Near_any x y u zs cl W (h.below (w' := W) hW) hx1 hx2 h3 h4 h25
  have HHas := Lib.hid fun W hW k => l1Has_any r srcs k W (hr.below (w' := W) hW)
  have HWk := Lib.hid fun W hW a b ha hb => l4Work_any x y u zs a b W (h.below (w' := W) hW) ht ha hb
  have HDn := Lib.hid fun W hW t z h1 h2 h3 h4 => l4Done_any v ps t z W (hps.below (w' := W) hW) hp h1 h2 h3 h4
  have HWb := Lib.hid fun a b => wrk_bd ht a b
  have HBz : Hid (∀ k z, zs[k]? = some z → burnP zs k = decide (0 < z)) := fun k z hz => by
    unfold burnP; rw [List.getD_eq_getElem?_getD, hz]; rfl
  have HVz : Hid (∀ (k : Nat) (z : Int), zs[k]? = some z → 0 ≤ z) := fun k z hz => by
    have := (terr_vals ht k).1
    rwa [List.getD_eq_getElem?_getD, hz] at this
  -- the plain law's steps
  have PB : Hid (∀ L, BInv zs.length (fireSr zs srcs) (fireSt x zs) (fireD x zs ps) s L → BF zs.length (fireSr zs srcs) (fireSt x zs) (fireD x zs ps) s (mes L) false 0 L) := fun L hL => BF.begin hL
  have PP : Hid (∀ m0 again a L, BF zs.length (fireSr zs srcs) (fireSt x zs) (fireD x zs ps) s m0 again a L → tm L a = -1 → BF zs.length (fireSr zs srcs) (fireSt x zs) (fireD x zs ps) s m0 again (a + 1) L) := fun _ _ _ _ h => h.pass
  have PE : Hid (∀ m0 again a L, BF zs.length (fireSr zs srcs) (fireSt x zs) (fireD x zs ps) s m0 again a L → tm L a ≠ -1 → BK zs.length (fireSr zs srcs) (fireSt x zs) (fireD x zs ps) s m0 again a (selN (nearP x a) zs.length) 0 L) := fun _ _ _ _ h => h.enter
  have PL : Hid (∀ m0 again a L, BK zs.length (fireSr zs srcs) (fireSt x zs) (fireD x zs ps) s m0 again a (selN (nearP x a) zs.length) (selN (nearP x a) zs.length).length L → BF zs.length (fireSr zs srcs) (fireSt x zs) (fireD x zs ps) s m0 again (a + 1) L) := fun _ _ _ _ h => h.leave rfl (fun b hb => near_mem hb)
  have PS : Hid (∀ m0 again a k (b : Nat) L, BK zs.length (fireSr zs srcs) (fireSt x zs) (fireD x zs ps) s m0 again a (selN (nearP x a) zs.length) k L → (selN (nearP x a) zs.length)[k]? = some (b : Int) → (burnP zs b = false ∨ (tm L b ≠ -1 ∧ tm L b ≤ doneF ps (tm L a) (wrkF x zs a b))) → BK zs.length (fireSr zs srcs) (fireSt x zs) (fireD x zs ps) s m0 again a (selN (nearP x a) zs.length) (k + 1) L) :=
    fun _ _ _ _ _ _ h hk hb => h.pass hk fun hs => by rcases hb with hb | hb; rw [hs.2.2] at hb; cases hb; exact hb
  have PU : Hid (∀ m0 again a k (b : Nat) L, BK zs.length (fireSr zs srcs) (fireSt x zs) (fireD x zs ps) s m0 again a (selN (nearP x a) zs.length) k L → b < zs.length → nearP x a b = true → burnP zs b = true → (tm L b = -1 ∨ doneF ps (tm L a) (wrkF x zs a b) < tm L b) → BK zs.length (fireSr zs srcs) (fireSt x zs) (fireD x zs ps) s m0 true a (selN (nearP x a) zs.length) (k + 1) (L.set b (doneF ps (tm L a) (wrkF x zs a b)))) :=
    fun _ _ _ _ _ _ h h1 h2 h3 hc => h.put HX.out ⟨h1, h2, h3⟩ hc
  have PX : Hid (∀ m0 L, BF zs.length (fireSr zs srcs) (fireSt x zs) (fireD x zs ps) s m0 false zs.length L → LstF x zs ps srcs s L) := fun _ _ h => h.ends HX.out
  have PI : Hid (∀ m0 again a L, BF zs.length (fireSr zs srcs) (fireSt x zs) (fireD x zs ps) s m0 again a L → BInv zs.length (fireSr zs srcs) (fireSt x zs) (fireD x zs ps) s L ∧ (again = true → mes L < m0) ∧ mes L ≤ m0) := fun _ _ _ _ h => ⟨h.inv, h.lt, h.le⟩
  have PK : Hid (∀ m0 again a k L, BK zs.length (fireSr zs srcs) (fireSt x zs) (fireD x zs ps) s m0 again a (selN (nearP x a) zs.length) k L → BInv zs.length (fireSr zs srcs) (fireSt x zs) (fireD x zs ps) s L ∧ tm L a ≠ -1) := fun _ _ _ _ _ h => ⟨h.bf.inv, h.ha⟩
  have PD : Hid (∀ L, BInv zs.length (fireSr zs srcs) (fireSt x zs) (fireD x zs ps) s L → L.length = zs.length ∧ (∀ c, -1 ≤ tm L c ∧ tm L c ≤ 4000) ∧ ∀ c, tm L c ≠ -1 → 0 ≤ tm L c) := fun L h => ⟨h.len, fun c => h.bd HX.out c, fun c hc => (h.pos HX.out hc).1⟩
  have PA : Hid (∀ L, LstF x zs ps srcs s L → L = arrL x zs ps srcs s) := fun L h => h.eq
  have hRA : Hid (∀ e w', RetOwn w 3 1 zs.length (ints (arrL x zs ps srcs s)) e w' → LstF x zs ps srcs s (arrL x zs ps srcs s) → (∀ c, -1 ≤ tm (arrL x zs ps srcs s) c ∧ tm (arrL x zs ps srcs s) c ≤ 4000) → RetArr w x zs ps srcs s e w') := fun e w' h1 h2 h3 => ⟨h1, h2, h3⟩
  obtain ⟨A, c, rfl⟩ := h.val
  obtain ⟨Ar, cr, rfl⟩ := hr.val
  obtain ⟨i0, hi, hz0, hz1, hz2⟩ := info_parts info_int
  have hT0 : Hid (TB ((w.alloc (.cells #[.int .i64 x, .int .i64 y, .slice A zs.length c] 79)).alloc (.cells #[] 3)) w.heap.size x y (.slice A zs.length c)) := by show TB _ _ _ _ _; unfold TB; simp [go_sem]
  have hb0 : Hid (Below w.heap.size w ((w.alloc (.cells #[.int .i64 x, .int .i64 y, .slice A zs.length c] 79)).alloc (.cells #[] 3))) := two_news _ _ _
  have ho0 : Hid (((w.alloc (.cells #[.int .i64 x, .int .i64 y, .slice A zs.length c] 79)).alloc (.cells #[] 3)).ownsRow (w.heap.size + 1) 3 1 (.slice (some ⟨w.heap.size + 1, 0, none⟩) 0 0) 0 []) := by
    show World.ownsRow _ _ _ _ _ _ _
    have := World.ownsRow_lit (base := w.heap.size + 1) (e := 3) (size := 1) (w.alloc (.cells #[.int .i64 x, .int .i64 y, .slice A zs.length c] 79)) #[] 0 (by simp) (by unfold maxLen; omega) rfl
    simpa using this
  have hmr := hr.len
  unfold maxLen at hmr
  clear h hr hps ht hp hxy
  generalize BF zs.length (fireSr zs srcs) (fireSt x zs) (fireD x zs ps) s = BFp at *
  generalize BK zs.length (fireSr zs srcs) (fireSt x zs) (fireD x zs ps) s = BKp at *
  generalize BInv zs.length (fireSr zs srcs) (fireSt x zs) (fireD x zs ps) s = BI at *
  clear HX
  generalize hN : zs.length = N at *
  have HN := Lib.hid hN
  generalize arrL x zs ps srcs s = R at *
  clear hN
  go_enter Try.func115, Try.ntmps115
  go_wp2
  go_loopw [9, 10] (fun o i wr => ∃ k : Nat, k ≤ N ∧ i = .int .i64 k ∧ Hid (Below w.heap.size w wr) ∧ Hid (TB wr w.heap.size x y (.slice A N c)) ∧ Hid (wr.ownsRow (w.heap.size + 1) 3 1 o (iniL zs srcs s k).length (ints (iniL zs srcs s k))) ∧ w.heap.size + 1 ≤ wr.heap.size) (fun _ i _ => N - (intOf i).toNat)
  case atStart => exact ⟨0, Nat.zero_le _, rfl, hb0.out, hT0.out, ho0.out, by simp⟩
  case round =>
    obtain ⟨k, hk, rfl, hb, hT, ho, hsz⟩ := hrel
    obtain ⟨t0, t1, t2⟩ := hT.out
    have hil := Lib.hid (HIl.out k)
    by_cases hlt : k < N
    · obtain ⟨b, off, z, rfl, hz, hcell⟩ := (Hu.out wr hb.out).at1 HN.out hlt
      have Hbz := Lib.hid (HBz.out k z hz)
      have hlz : (k : Int) < (N : Int) := by omega
      clear hz
      by_cases hq : 0 < z
      · have HH := HHas.out wr hb.out k
        cases hq2 : hasB srcs k with
        | true =>
          have Hy := Lib.hid (HY.out k (by rw [Hbz.out, hq2]; simpa using hq))
          rw [hq2] at HH
          have HH := Lib.hid HH
          go_wp2_with fail
          with_reducible refine HH.out.mono ?_
          rintro e w2 ⟨rfl, rfl⟩
          go_wp2_with ((at_builtin; refine wpList_append_own _ rfl _ _ 67 rfl (w.heap.size + 1) 3 i0 (.int .i64 0) 1 8 Try.underlying67 hi hz0 hz1 hz2 rfl (by decide) _ _ _ rfl (ho.out.alloc _) ⟨wr.heap.size, 0, none⟩ 1 1 [.int .i64 s] rfl rfl ?c1 ?c2 ?c3 ?c4 ?c5 ?_))
          try (case c1 => (intro j u hj; match j, hj with | 0, hj => simp at hj; subst hj; simp [Addr.add]))
          case c2 => first | rfl | (intro u hu; simp at hu; subst hu; rfl)
          case c3 => have := hil.out; unfold maxLen; omega
          case c4 => have := hil.out; omega
          case c5 => have := hil.out; simp; omega
          intro v' w2 hown' hgrow _
          have hb2 := Lib.hid ((hb.out.alloc hb.out.size _).grown hgrow (by simp; omega) (fun j hj => by have := (ho.out.lt j hj).1; omega))
          have hT2 := Lib.hid ((hT.out.below (grow_alloc wr (.cells #[.int .i64 s] 3))).kept hgrow (fun e => by have := (ho.out.lt _ e.symm).1; omega))
          have ho2 := Lib.hid (own_snoc Hy.out hown')
          have hs2 := hgrow.size
          simp at hs2
          clear hown' hgrow
          go_wp2
          go_roundw
          case rel => exact ⟨k + 1, by omega, by go_num, hb2.out, hT2.out, ho2.out, by omega⟩
          case measure => simp [intOf]; omega
        | false =>
          have Hy := Lib.hid (HNo.out k (by rw [hq2]; simp))
          rw [hq2] at HH
          have HH := Lib.hid HH
          go_wp2_with fail
          with_reducible refine HH.out.mono ?_
          rintro e w2 ⟨rfl, rfl⟩
          go_wp2_with ((at_builtin; refine wpList_append_own _ rfl _ _ 67 rfl (w.heap.size + 1) 3 i0 (.int .i64 0) 1 8 Try.underlying67 hi hz0 hz1 hz2 rfl (by decide) _ _ _ rfl (ho.out.alloc _) ⟨wr.heap.size, 0, none⟩ 1 1 [.int .i64 (-1)] rfl rfl ?c1 ?c2 ?c3 ?c4 ?c5 ?_))
          try (case c1 => (intro j u hj; match j, hj with | 0, hj => simp at hj; subst hj; simp [Addr.add]))
          case c2 => first | rfl | (intro u hu; simp at hu; subst hu; rfl)
          case c3 => have := hil.out; unfold maxLen; omega
          case c4 => have := hil.out; omega
          case c5 => have := hil.out; simp; omega
          intro v' w2 hown' hgrow _
          have hb2 := Lib.hid ((hb.out.alloc hb.out.size _).grown hgrow (by simp; omega) (fun j hj => by have := (ho.out.lt j hj).1; omega))
          have hT2 := Lib.hid ((hT.out.below (grow_alloc wr (.cells #[.int .i64 (-1)] 3))).kept hgrow (fun e => by have := (ho.out.lt _ e.symm).1; omega))
          have ho2 := Lib.hid (own_snoc Hy.out hown')
          have hs2 := hgrow.size
          simp at hs2
          clear hown' hgrow
          go_wp2
          go_roundw
          case rel => exact ⟨k + 1, by omega, by go_num, hb2.out, hT2.out, ho2.out, by omega⟩
          case measure => simp [intOf]; omega
      · have Hy := Lib.hid (HNo.out k (by rw [Hbz.out]; simp [hq]))
        go_wp2_with ((at_builtin; refine wpList_append_own _ rfl _ _ 67 rfl (w.heap.size + 1) 3 i0 (.int .i64 0) 1 8 Try.underlying67 hi hz0 hz1 hz2 rfl (by decide) _ _ _ rfl (ho.out.alloc _) ⟨wr.heap.size, 0, none⟩ 1 1 [.int .i64 (-1)] rfl rfl ?c1 ?c2 ?c3 ?c4 ?c5 ?_))
        try (case c1 => (intro j u hj; match j, hj with | 0, hj => simp at hj; subst hj; simp [Addr.add]))
        case c2 => first | rfl | (intro u hu; simp at hu; subst hu; rfl)
        case c3 => have := hil.out; unfold maxLen; omega
        case c4 => have := hil.out; omega
        case c5 => have := hil.out; simp; omega
        intro v' w2 hown' hgrow _
        have hb2 := Lib.hid ((hb.out.alloc hb.out.size _).grown hgrow (by simp; omega) (fun j hj => by have := (ho.out.lt j hj).1; omega))
        have hT2 := Lib.hid ((hT.out.below (grow_alloc wr (.cells #[.int .i64 (-1)] 3))).kept hgrow (fun e => by have := (ho.out.lt _ e.symm).1; omega))
        have ho2 := Lib.hid (own_snoc Hy.out hown')
        have hs2 := hgrow.size
        simp at hs2
        clear hown' hgrow
        go_wp2
        go_roundw
        case rel => exact ⟨k + 1, by omega, by go_num, hb2.out, hT2.out, ho2.out, by omega⟩
        case measure => simp [intOf]; omega
    · obtain rfl : k = N := by omega
      rw [hil.out] at ho
      obtain ⟨_, c0, rfl, hg⟩ := own_form ho.out
      obtain ⟨g, rfl, hg1, hg2⟩ := hg hpos
      have hB := Lib.hid (Bl.mk hb.out hT.out ho.out)
      obtain ⟨hL1, hL2, hL3⟩ := PD.out _ HI.out
      have HI := HI
      generalize iniL zs srcs s k = L0 at *
      clear HY HNo HIl hil ho hT hb hL1 hL2 hL3 hT0 hb0 ho0 HHas hsz
      obtain ⟨wo, rfl⟩ : ∃ wo : World, wo = wr := ⟨_, rfl⟩
      go_wp2
      go_loopg [11] (mes L0 + 1) (fun gk q wr => ∃ (again : Bool) (L : List Int), q = .bool again ∧ Hid (mes L + (if again then 1 else 0) ≤ gk) ∧ Hid (Bl w wr x y (.slice A k c) g c0 k L) ∧ Hid (BI L) ∧ Hid (again = false → LstF x zs ps srcs s L))
      case atStart => exact ⟨true, L0, rfl, Nat.le_refl _, hB.out, HI.out, fun h => by cases h⟩
      case round =>
        obtain ⟨again, L, rfl, hgk, hB, hBI, hLs⟩ := hrel
        cases again with
        | false =>
          have hL := PA.out L (hLs.out rfl)
          have hlf := Lib.hid (hLs.out rfl)
          have hbd := Lib.hid (PD.out L hBI.out).2.1
          subst hL
          have Ho := Lib.hid (own_base hB.out.ho (Nat.le_succ _))
          go_wp2
          go_ret
          exact hRA.out _ _ ⟨_, rfl, Ho.out, hB.out.hb⟩ hlf.out hbd.out
        | true =>
          have hgk : Hid (mes L + 1 ≤ gk) := hgk.out
          have hF := Lib.hid (PB.out L hBI.out)
          generalize mes L = m0 at *
          clear hBI hLs
          obtain ⟨wn, rfl⟩ : ∃ wn : World, wn = wr := ⟨_, rfl⟩
          go_wp2
          go_loopw [11, 12] (fun q i wr => ∃ (again : Bool) (a : Nat) (L : List Int), q = .bool again ∧ i = .int .i64 a ∧ a ≤ k ∧ Hid (Bl w wr x y (.slice A k c) g c0 k L) ∧ Hid (BFp m0 again a L)) (fun _ i _ => k - (intOf i).toNat)
          case atStart => exact ⟨false, 0, L, rfl, rfl, Nat.zero_le _, hB.out, hF.out⟩
          case round =>
            obtain ⟨again, a, L2, rfl, rfl, hak, hB2, hF2⟩ := hrel
            obtain ⟨b1, b2, b3⟩ := PI.out _ _ _ _ hF2.out
            obtain ⟨l1, l2, l3⟩ := PD.out _ b1
            have hla := l2 a
            by_cases hlt : a < k
            · have haz : (a : Int) < (k : Int) := by omega
              obtain ⟨ca, fa⟩ := hB2.out.cell l1 hlt
              obtain ⟨t0, t1, t2⟩ := hB2.out.hT
              by_cases hna : tm L2 a = -1
              · have hF3 := Lib.hid (PP.out _ _ _ _ hF2.out hna)
                rw [hna] at ca
                clear b1 b2 b3 l1 l2 l3 hF2
                go_wp2
                go_roundw
                case rel => exact ⟨again, a + 1, L2, rfl, by go_num, by omega, hB2.out, hF3.out⟩
                case measure => simp [intOf]; omega
              · have hK := Lib.hid (PE.out _ _ _ _ hF2.out hna)
                have hna' : (tm L2 a == -1) = false := by simpa using hna
                have HC := Lib.hid (HNear.out wr hB2.out.hb a (by omega) (by omega))
                have hnl := selN_le (nearP x a) k
                have Hnat : Hid (∀ (j : Nat) (z : Int), (selN (nearP x a) k)[j]? = some z → ∃ b : Nat, z = b ∧ b < k ∧ nearP x a b = true) := fun (j : Nat) (z : Int) hz => near_at (x := x) (N := k) (a := a) hz
                have PS2 := Lib.hid fun m0 again j b L => PS.out m0 again a j b L
                have PU2 := Lib.hid fun m0 again j b L => PU.out m0 again a j b L
                have PL2 := Lib.hid fun m0 again L => PL.out m0 again a L
                have PK2 := Lib.hid fun m0 again j L => PK.out m0 again a j L
                generalize tm L2 a = ta0 at ca hna hna' hla
                generalize selN (nearP x a) k = nl at *
                clear b1 b2 b3 l1 l2 l3 hF2
                go_wp2_with fail
                with_reducible refine HC.out.mono ?_
                rintro e w4 ⟨nv, rfl, on, hb4⟩
                have hB4 := Lib.hid (hB2.out.below hb4)
                have hgB : g < wr.heap.size := (hB2.out.ho.lt g rfl).2
                obtain ⟨An, cn, rfl⟩ := (Sl.of_own on).val
                generalize wr.heap.size = Bn at on hgB
                have on := Lib.hid on
                clear hb4 hB2 ca fa t0 t1 t2 HC
                obtain ⟨t0, t1, t2⟩ := hB4.out.hT
                clear t0 t1 t2
                obtain ⟨wm, rfl⟩ : ∃ wm : World, wm = w4 := ⟨_, rfl⟩
                go_wp2
                go_loopw [11, 14] (fun q i wr => ∃ (again : Bool) (j : Nat) (L : List Int), q = .bool again ∧ i = .int .i64 j ∧ j ≤ nl.length ∧ Hid (Bl w wr x y (.slice A k c) g c0 k L) ∧ Hid (wr.ownsRow Bn 3 1 (.slice An nl.length cn) nl.length (ints nl)) ∧ Hid (BKp m0 again a nl j L)) (fun _ i _ => nl.length - (intOf i).toNat)
                case atStart => exact ⟨again, 0, L2, rfl, rfl, Nat.zero_le _, hB4.out, on.out, hK.out⟩
                case round =>
                  obtain ⟨again3, j, L3, rfl, rfl, hj, hB5, hn5, hK5⟩ := hrel
                  by_cases hjl : j < nl.length
                  · have hjz : (j : Int) < (nl.length : Int) := by omega
                    obtain ⟨bn, ofn, z, rfl, hz, hcz⟩ := (Sl.of_own hn5.out).at1 rfl hjl
                    obtain ⟨b, rfl, hb1, hb2⟩ := Hnat.out j z hz
                    obtain ⟨bb, ofb, zb, hAe, hzb, hcb⟩ := (Hu.out wr hB5.out.hb).at1 HN.out hb1
                    subst hAe
                    have hbz : (b : Int) < (k : Int) := by omega
                    have hm2 := (Hu.out wr hB5.out.hb).len
                    unfold maxLen at hm2
                    have Hbz := Lib.hid (HBz.out b zb hzb)
                    have hz0 := HVz.out b zb hzb
                    obtain ⟨b1, hta⟩ := PK2.out _ _ _ _ hK5.out
                    obtain ⟨l1, l2, l3⟩ := PD.out _ b1
                    have hla2 := l2 a
                    have hta0 := l3 a hta
                    have hlb2 := l2 b
                    obtain ⟨ca, fa⟩ := hB5.out.cell l1 hlt
                    obtain ⟨cb, fb⟩ := hB5.out.cell l1 hb1
                    obtain ⟨t0, t1, t2⟩ := hB5.out.hT
                    have hS := Lib.hid (PS2.out _ _ _ _ _ hK5.out hz)
                    have hU := Lib.hid (PU2.out _ _ _ _ _ hK5.out hb1 hb2)
                    clear b1 l1 l2 l3
                    by_cases hzb0 : zb = 0
                    · subst hzb0
                      have hK6 := Lib.hid (hS.out (.inl (by rw [Hbz.out]; simp)))
                      clear hU hS
                      go_wp2
                      go_roundw
                      case rel => exact ⟨again3, j + 1, L3, rfl, by go_num, by omega, hB5.out, hn5.out, hK6.out⟩
                      case measure => simp [intOf]; omega
                    · have hzb1 : (zb == 0) = false := by simpa using hzb0
                      have hU := Lib.hid (hU.out (by rw [Hbz.out]; simp; omega))
                      have hwb := HWb.out a b
                      have HW2 := Lib.hid fun W hW => HWk.out W hW a b hlt hb1
                      have HD2 := Lib.hid fun W hW => HDn.out W hW (tm L3 a) (wrkF x zs a b) hta0 (by omega) (by omega) (by omega)
                      generalize wrkF x zs a b = wk at *
                      generalize doneF ps (tm L3 a) wk = X at *
                      have hq := fun n : Later wr => n.cell
                      have hgs : g < wr.heap.size := (hB5.out.ho.lt g rfl).2
                      have hws : w.heap.size < wr.heap.size := by have := hB5.out.base; omega
                      have l1 := (PD.out _ (PK2.out _ _ _ _ hK5.out).1).1
                      have L1 := Lib.hid l1
                      clear l1
                      go_wp2_with fail
                      refine wp_region_later (by kernel_rfl) (by kernel_rfl) ?_
                      repeat (go_big_quiet_step ((first | (go_at_call 164; exact later_of (HW2.out _ (grow_trans hB5.out.hb (Later.h _)))) | (go_at_call 163; exact later_of (HD2.out _ (grow_trans hB5.out.hb (Later.h _)))))))
                      refine wpQuiet_nil ?_
                      rintro _ ⟨wl, rfl⟩
                      have hbl := wl.h
                      have hB6 := Lib.hid (hB5.out.below hbl)
                      have hn6 := Lib.hid (own_below hn5.out hbl)
                      clear hq ca cb fa fb t0 t1 t2 hcz hcb
                      generalize wl.w = w6 at hbl hB6 hn6 ⊢
                      obtain ⟨cb, fb⟩ := hB6.out.cell L1.out hb1
                      clear hbl
                      by_cases hnb : tm L3 b = -1
                      · rw [hnb] at cb
                        have hK6 := Lib.hid (hU.out (.inl hnb))
                        have hB7 := Lib.hid (hB6.out.put b X)
                        have hn7 := Lib.hid (own_kept hn6.out (hB6.out.ho.stored b (.int .i64 X)).2 (fun j hj e => by have := (hn6.out.lt j hj).1; cases e; omega))
                        clear hU hS
                        go_wp2
                        go_roundw
                        case rel => exact ⟨true, j + 1, L3.set b X, rfl, by go_num, by omega, hB7.out, hn7.out, hK6.out⟩
                        case measure => simp [intOf]; omega
                      · have hnb' : (tm L3 b == -1) = false := by simpa using hnb
                        by_cases hxb : X < tm L3 b
                        · have hu := hU.out (.inr hxb)
                          generalize tm L3 b = tb at cb hnb hnb' hxb
                          have hK6 := Lib.hid hu
                          clear hu
                          have hB7 := Lib.hid (hB6.out.put b X)
                          have hn7 := Lib.hid (own_kept hn6.out (hB6.out.ho.stored b (.int .i64 X)).2 (fun j hj e => by have := (hn6.out.lt j hj).1; cases e; omega))
                          clear hU hS
                          go_wp2
                          go_roundw
                          case rel => exact ⟨true, j + 1, L3.set b X, rfl, by go_num, by omega, hB7.out, hn7.out, hK6.out⟩
                          case measure => simp [intOf]; omega
                        · have hK6 := Lib.hid (hS.out (.inr ⟨hnb, by omega⟩))
                          generalize tm L3 b = tb at cb hnb hnb' hxb
                          clear hU hS
                          go_wp2
                          go_roundw
                          case rel => exact ⟨again3, j + 1, L3, rfl, by go_num, by omega, hB6.out, hn6.out, hK6.out⟩
                          case measure => simp [intOf]; omega
                  · obtain rfl : j = nl.length := by omega
                    have hF6 := Lib.hid (PL2.out _ _ _ hK5.out)
                    go_wp2
                    go_roundw
                    case rel => exact ⟨again3, a + 1, L3, rfl, by go_num, by omega, hB5.out, hF6.out⟩
                    case measure => simp [intOf]; omega
            · obtain rfl : a = k := by omega
              have b2' := Lib.hid b2
              clear b2
              go_wp2
              go_roundg (mes L2 + (if again then 1 else 0))
              case measure =>
                have h1 : m0 + 1 ≤ gk := hgk.out
                cases again with
                | false => simp; omega
                | true => have := b2'.out rfl; simp; omega
              case rel => exact ⟨again, L2, rfl, Nat.le_refl _, hB2.out, b1, fun h => PX.out _ _ (h ▸ hF2.out)⟩
end Go.Proofs.Ytnacofmjipilhaa
