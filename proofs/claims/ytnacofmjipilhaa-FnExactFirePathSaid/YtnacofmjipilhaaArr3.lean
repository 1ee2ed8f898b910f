/- The program's arrival times. Conditions: as each states. -/
import Derived.Test.YtnacofmjipilhaaArr2
namespace Go.Proofs.Ytnacofmjipilhaa
open Go.ChangeShapes Go.WideShapes Go.ChangeAt Go.RowKit Go.Deep
set_option linter.unusedVariables false
set_option linter.unusedSimpArgs false
set_option maxRecDepth 100000

set_option maxHeartbeats 16000000 in
theorem arrivals_any (x y : Int) (u : Value) (zs : List Int) (v : Value) (ps : List (Int × Int)) (r : Value) (srcs : List Int) (s : Int) (w : World) (h : Sl w 1 u zs.length (ints zs)) (hps : Sl w 2 v ps.length (phs ps)) (hr : Sl w 1 r srcs.length (ints srcs))
    (ht : terrB x y zs = true) (hp : phB ps = true) (hs0 : 0 ≤ s) (hs1 : s ≤ 1000) (hsr : ∀ z ∈ srcs, 0 ≤ z ∧ z ≤ (zs.length : Int) - 1) (hsl : srcs.length ≤ 1048576) :
    Calls Try.prog 119 #[terrV x y u, v, r, .int .i64 s] w (RetArr w x zs ps srcs s) := by
  obtain ⟨⟨hx1, hx2⟩, ⟨hy1, hy2⟩, hxy, h25⟩ := terr_dims ht
  have hpos : 0 < zs.length := by
    have : 0 < x * y := Int.mul_pos (by omega) (by omega)
    omega
  have HX := Lib.hid (fireX (srcs := srcs) ps ht hs0 hs1)
  have HI := Lib.hid (ini2_inv ps ht hsr hs0 hs1)
  have Hu := Lib.hid fun W hW => h.below (w' := W) hW
  have Hr := Lib.hid fun W hW => hr.below (w' := W) hW
  have HNear := Lib.hid fun W hW cl h3 h4 => neighbors_any x y u zs cl W (h.below (w' := W) hW) hx1 hx2 h3 h4 h25
  have HFl := Lib.hid fun W hW => filter_any r srcs 131 #[terrV x y u] #[] (fun z => burnP zs z.toNat) W (hr.below (w' := W) hW) hsl callFunc_burns (fun W' z hz hW' => by
    have hb := hsr z hz
    obtain ⟨zk, rfl⟩ := Int.eq_ofNat_of_zero_le hb.1
    have := burns_any x y u zs zk W' (h.below (hW.trans (hW'.mono hW.size))) (by omega)
    simpa using this)
  have HBr := Lib.hid fun W hW k hk => burns_any x y u zs k W (h.below (w' := W) hW) hk
  have HWk := Lib.hid fun W hW a b ha hb => work_any x y u zs a b W (h.below (w' := W) hW) ht ha hb
  have HDn := Lib.hid fun W hW t z h1 h2 h3 h4 => done_any v ps t z W (hps.below (w' := W) hW) hp h1 h2 h3 h4
  have HWb := Lib.hid fun a b => wrk_bd ht a b
  have HFb : Hid (∀ z ∈ srcs.filter (fun z => burnP zs z.toNat), 0 ≤ z ∧ z ≤ (zs.length : Int) - 1) := fun z hz => hsr z (List.mem_filter.1 hz).1
  have HP0 : Hid (∀ (l L : List Int), (putS s l L).length = L.length) := putS_length s
  have HPt : Hid (∀ (l L : List Int) (k : Nat) (c : Int), l[k]? = some c → putS s (l.take (k + 1)) L = (putS s (l.take k) L).set c.toNat s) := fun l L k c hc => putS_take hc
  have Hini : Hid (ini2 zs srcs s = putS s (srcs.filter fun z => burnP zs z.toNat) (List.replicate zs.length (-1))) := rfl
  -- the plain law's steps
  have PB : Hid (∀ L F, BInv zs.length (fireSr zs srcs) (fireSt x zs) (fireD x zs ps) s L → F.length = zs.length → (∀ c, fx F c = false) → DInv zs.length (fireSr zs srcs) (fireSt x zs) (fireD x zs ps) s L F) := fun L F hL hF h0 => DInv.begin hL hF h0
  have PX : Hid (∀ L F, DInv zs.length (fireSr zs srcs) (fireSt x zs) (fireD x zs ps) s L F → BSt L F zs.length (-1) → L = arrL x zs ps srcs s ∧ LstF x zs ps srcs s L ∧ ∀ c, -1 ≤ tm L c ∧ tm L c ≤ 4000) := fun L F hD hb => ⟨(hD.ends HX.out hb).eq, hD.ends HX.out hb, fun c => hD.inv.bd HX.out c⟩
  have hRA : Hid (∀ e w', RetOwn w 3 1 zs.length (ints (arrL x zs ps srcs s)) e w' → LstF x zs ps srcs s (arrL x zs ps srcs s) → (∀ c, -1 ≤ tm (arrL x zs ps srcs s) c ∧ tm (arrL x zs ps srcs s) c ≤ 4000) → RetArr w x zs ps srcs s e w') := fun e w' h1 h2 h3 => ⟨h1, h2, h3⟩
  have PT : Hid (∀ L F (b0 : Nat), DInv zs.length (fireSr zs srcs) (fireSt x zs) (fireD x zs ps) s L F → BSt L F zs.length b0 → DMid zs.length (fireSr zs srcs) (fireSt x zs) (fireD x zs ps) s b0 (selN (nearP x b0) zs.length) 0 L (F.set b0 true) ∧ b0 < zs.length ∧ fx F b0 = false ∧ tm L b0 ≠ -1) := fun L F b0 hD hb => hD.take HX.out hb
  have PE : Hid (∀ L F (b0 : Nat), DMid zs.length (fireSr zs srcs) (fireSt x zs) (fireD x zs ps) s b0 (selN (nearP x b0) zs.length) (selN (nearP x b0) zs.length).length L F → DInv zs.length (fireSr zs srcs) (fireSt x zs) (fireD x zs ps) s L F) := fun L F b0 hM => hM.ends HX.out rfl (fun b hb => near_mem hb)
  have PS : Hid (∀ L F (b0 k c : Nat), DMid zs.length (fireSr zs srcs) (fireSt x zs) (fireD x zs ps) s b0 (selN (nearP x b0) zs.length) k L F → (selN (nearP x b0) zs.length)[k]? = some (c : Int) → (burnP zs c = false ∨ fx F c = true ∨ (tm L c ≠ -1 ∧ tm L c ≤ doneF ps (tm L b0) (wrkF x zs b0 c))) → DMid zs.length (fireSr zs srcs) (fireSt x zs) (fireD x zs ps) s b0 (selN (nearP x b0) zs.length) (k + 1) L F) :=
    fun L F b0 k c hM hk hc => hM.pass HX.out hk fun hs => by
      rcases hc with hc | hc | hc
      · rw [hs.2.2] at hc; cases hc
      · exact .inl hc
      · exact .inr hc
  have PU : Hid (∀ L F (b0 k c : Nat), DMid zs.length (fireSr zs srcs) (fireSt x zs) (fireD x zs ps) s b0 (selN (nearP x b0) zs.length) k L F → (selN (nearP x b0) zs.length)[k]? = some (c : Int) → c < zs.length → nearP x b0 c = true → burnP zs c = true → fx F c = false → (tm L c = -1 ∨ doneF ps (tm L b0) (wrkF x zs b0 c) < tm L c) → DMid zs.length (fireSr zs srcs) (fireSt x zs) (fireD x zs ps) s b0 (selN (nearP x b0) zs.length) (k + 1) (L.set c (doneF ps (tm L b0) (wrkF x zs b0 c))) F) :=
    fun L F b0 k c hM hk h1 h2 h3 hf hc => hM.put HX.out hk ⟨h1, h2, h3⟩ hf hc
  have PD : Hid (∀ L F, DInv zs.length (fireSr zs srcs) (fireSt x zs) (fireD x zs ps) s L F → L.length = zs.length ∧ F.length = zs.length) := fun L F hD => ⟨hD.inv.len, hD.flen⟩
  have PM : Hid (∀ L F (b0 k : Nat), DMid zs.length (fireSr zs srcs) (fireSt x zs) (fireD x zs ps) s b0 (selN (nearP x b0) zs.length) k L F → L.length = zs.length ∧ F.length = zs.length ∧ (∀ c, -1 ≤ tm L c ∧ tm L c ≤ 4000) ∧ 0 ≤ tm L b0) := fun L F b0 k hM => ⟨hM.inv.len, hM.flen, fun c => hM.inv.bd HX.out c, (hM.inv.pos HX.out (hM.fnn b0 hM.f0)).1⟩
  have PO : Hid (∀ (F : List Bool) (b : Nat), b < F.length → fx F b = false → opn (F.set b true) < opn F) := fun F b h1 h2 => opn_set h1 h2
  obtain ⟨A, c, rfl⟩ := h.val
  obtain ⟨Ar, cr, rfl⟩ := hr.val
  obtain ⟨i0, hi, hz0, hz1, hz2⟩ := info_parts info_int
  have hT0 : Hid (TB (w.alloc (.cells #[.int .i64 x, .int .i64 y, .slice A zs.length c] 79)) w.heap.size x y (.slice A zs.length c)) := by show TB _ _ _ _ _; unfold TB; simp [go_sem]
  have hb0 : Hid (Below w.heap.size w (w.alloc (.cells #[.int .i64 x, .int .i64 y, .slice A zs.length c] 79))) := grow_alloc _ _
  have hmr := hr.len
  unfold maxLen at hmr
  clear h hr hps ht hp hxy hsr
  generalize DInv zs.length (fireSr zs srcs) (fireSt x zs) (fireD x zs ps) s = DI at *
  generalize DMid zs.length (fireSr zs srcs) (fireSt x zs) (fireD x zs ps) s = DM at *
  generalize BInv zs.length (fireSr zs srcs) (fireSt x zs) (fireD x zs ps) s = BI at *
  clear HX
  generalize hfl : srcs.filter (fun z => burnP zs z.toNat) = fl at *
  generalize hN : zs.length = N at *
  have HN := Lib.hid hN
  generalize arrL x zs ps srcs s = R at *
  generalize ini2 zs srcs s = L0 at *
  clear hN hfl
  have mkI := fun W => (mk_ints (w := W) N (by omega)).1
  have mkB := fun W => (mk_bools (w := W) N (by omega)).1
  have MI := Lib.hid fun W => (mk_ints (w := W) N (by omega)).2
  have MB := Lib.hid fun W => (mk_bools (w := W) N (by omega)).2
  generalize mkW Try.prog 67 N = fI at *
  generalize mkW Try.prog 156 N = fB at *
  have cI : ∀ (W : World) b o, b < W.heap.size → (fI W).cell? ⟨b, o, none⟩ = W.cell? ⟨b, o, none⟩ := fun W b o hb => (MI.out W).2.cell (p := ⟨b, o, none⟩) hb
  have cB : ∀ (W : World) b o, b < W.heap.size → (fB W).cell? ⟨b, o, none⟩ = W.cell? ⟨b, o, none⟩ := fun W b o hb => (MB.out W).2.cell (p := ⟨b, o, none⟩) hb
  go_enter Try.func119, Try.ntmps119
  go_wp2_with fail
  go_region_held_law (fun w' => w'.cell? ⟨w.heap.size, 2, none⟩ = some (.slice A N c) ∧ w.heap.size < w'.heap.size) (((try dsimp only at *); (try go_split_ands); first | exact ⟨(cI _ _ _ (by assumption)).trans (by assumption), Nat.lt_of_lt_of_le (by assumption) (MI.out _).2.size⟩ | exact ⟨(cB _ _ _ (by assumption)).trans (by assumption), Nat.lt_of_lt_of_le (by assumption) (MB.out _).2.size⟩ | (simp [go_sem]; done))) (fail)
  have hz0 : ((w.alloc (.cells #[.int .i64 x, .int .i64 y, .slice A N c] 79)).drew).heap.size = w.heap.size + 1 := by simp
  have HZ0 := Lib.hid hz0
  clear hz0
  have hD : Hid (Dl w (fB (fI (w.alloc (.cells #[.int .i64 x, .int .i64 y, .slice A N c] 79)).drew)) x y (.slice A N c) (w.heap.size + 1) (fI (w.alloc (.cells #[.int .i64 x, .int .i64 y, .slice A N c] 79)).drew).heap.size N (List.replicate N 0) (List.replicate N false)) := by
    obtain ⟨oi, bi⟩ := MI.out (w.alloc (.cells #[.int .i64 x, .int .i64 y, .slice A N c] 79)).drew
    obtain ⟨ob, bb⟩ := MB.out (fI (w.alloc (.cells #[.int .i64 x, .int .i64 y, .slice A N c] 79)).drew)
    have hg := (oi.lt _ rfl).2
    rw [HZ0.out] at oi hg
    exact ⟨grow_trans (grow_trans hb0.out.drew bi) bb, ((hT0.out.below (grow_drew _)).below bi).below bb, own_below oi bb, own_base ob (Nat.le_of_lt hg), Nat.ne_of_lt hg⟩
  generalize fB (fI (w.alloc (.cells #[.int .i64 x, .int .i64 y, .slice A N c] 79)).drew) = w1 at hD ⊢
  generalize (fI (w.alloc (.cells #[.int .i64 x, .int .i64 y, .slice A N c] 79)).drew).heap.size = f0 at hD ⊢
  generalize w.heap.size + 1 = g0 at hD ⊢
  rotate_left
  have hz0 : ((w.alloc (.cells #[.int .i64 x, .int .i64 y, .slice A N c] 79)).drew).heap.size = w.heap.size + 1 := by simp
  have HZ0 := Lib.hid hz0
  clear hz0
  have hD : Hid (Dl w (fI (fB (w.alloc (.cells #[.int .i64 x, .int .i64 y, .slice A N c] 79)).drew)) x y (.slice A N c) (fB (w.alloc (.cells #[.int .i64 x, .int .i64 y, .slice A N c] 79)).drew).heap.size (w.heap.size + 1) N (List.replicate N 0) (List.replicate N false)) := by
    obtain ⟨ob, bb⟩ := MB.out (w.alloc (.cells #[.int .i64 x, .int .i64 y, .slice A N c] 79)).drew
    obtain ⟨oi, bi⟩ := MI.out (fB (w.alloc (.cells #[.int .i64 x, .int .i64 y, .slice A N c] 79)).drew)
    have hg := (ob.lt _ rfl).2
    rw [HZ0.out] at ob hg
    exact ⟨grow_trans (grow_trans hb0.out.drew bb) bi, ((hT0.out.below (grow_drew _)).below bb).below bi, own_base oi (Nat.le_of_lt hg), own_below ob bi, (Nat.ne_of_lt hg).symm⟩
  generalize fI (fB (w.alloc (.cells #[.int .i64 x, .int .i64 y, .slice A N c] 79)).drew) = w1 at hD ⊢
  generalize (fB (w.alloc (.cells #[.int .i64 x, .int .i64 y, .slice A N c] 79)).drew).heap.size = g0 at hD ⊢
  generalize w.heap.size + 1 = f0 at hD ⊢
  rotate_left
  all_goals
    clear cI cB MI MB mkI mkB hb0 hT0
    go_wp2
    go_loopw [30] (fun i wr => ∃ (k : Nat) (L : List Int), k ≤ N ∧ i = .int .i64 k ∧ Hid (L.length = N) ∧ Hid (Dl w wr x y (.slice A N c) g0 f0 N L (List.replicate N false)) ∧ Hid (∀ j, j < k → L[j]? = some (-1))) (fun i _ => N - (intOf i).toNat)
    case atStart => exact ⟨0, List.replicate N 0, Nat.zero_le _, rfl, by show _ = _; simp, hD.out, fun j hj => by omega⟩
    case round =>
      obtain ⟨k, L, hk, rfl, hl, hD2, hpre⟩ := hrel
      by_cases hlt : k < N
      · have hlz : (k : Int) < (N : Int) := by omega
        obtain ⟨ca, fa⟩ := hD2.out.cell hl.out hlt
        have hD3 := Lib.hid (hD2.out.put k (-1))
        go_wp2
        go_roundw
        case rel =>
          refine ⟨k + 1, L.set k (-1), by omega, by go_num, by show _ = _; rw [List.length_set]; exact hl.out, hD3.out, fun j hj => ?_⟩
          rw [List.getElem?_set]
          have := hl.out
          by_cases e : k = j
          · subst e; rw [if_pos rfl, if_pos (by omega)]
          · rw [if_neg e]; exact hpre.out j (by omega)
        case measure => simp [intOf]; omega
      · obtain rfl : k = N := by omega
        have hLr : L = List.replicate k (-1) := by
          apply List.ext_getElem?
          intro j
          rcases Nat.lt_or_ge j k with hj | hj
          · rw [hpre.out j hj]; simp [hj]
          · rw [List.getElem?_eq_none (by rw [hl.out]; exact hj), List.getElem?_eq_none (by simpa using hj)]
        subst hLr
        have HC := Lib.hid (HFl.out wr hD2.out.hb)
        obtain ⟨t0, t1, t2⟩ := hD2.out.hT
        clear hpre hl hD HFl
        generalize List.replicate k (-1 : Int) = Lm at *
        go_wp2_with fail
        with_reducible refine HC.out.mono ?_
        rintro e w4 ⟨fv, rfl, ofl, hb4⟩
        have hB4 := Lib.hid (hD2.out.below hb4)
        have hgB := hD2.out.base.2.2.1
        obtain ⟨Af, cf, rfl⟩ := (Sl.of_own ofl).val
        generalize wr.heap.size = Bf at ofl hgB
        have ofl := Lib.hid ofl
        have hmf := (Sl.of_own ofl.out).len
        unfold maxLen at hmf
        clear hb4 hD2 t0 t1 t2 HC
        obtain ⟨wm, rfl⟩ : ∃ wm : World, wm = w4 := ⟨_, rfl⟩
        go_wp2
        go_loopw [42] (fun i wr => ∃ (j : Nat), j ≤ fl.length ∧ i = .int .i64 j ∧ Hid (Dl w wr x y (.slice A k c) g0 f0 k (putS s (fl.take j) Lm) (List.replicate k false)) ∧ Hid (wr.ownsRow Bf 3 1 (.slice Af fl.length cf) fl.length (ints fl))) (fun i _ => fl.length - (intOf i).toNat)
        case atStart => exact ⟨0, Nat.zero_le _, rfl, hB4.out, ofl.out⟩
        case round =>
          obtain ⟨j, hj, rfl, hB5, hn5⟩ := hrel
          by_cases hjl : j < fl.length
          · have hjz : (j : Int) < (fl.length : Int) := by omega
            obtain ⟨bn, ofn, z, rfl, hz, hcz⟩ := (Sl.of_own hn5.out).at1 rfl hjl
            have hzb := HFb.out z (List.mem_of_getElem? hz)
            obtain ⟨zk, rfl⟩ := Int.eq_ofNat_of_zero_le hzb.1
            have hzk : zk < k := by omega
            have hzk2 : (zk : Int) < (k : Int) := by omega
            have HT := Lib.hid (HPt.out fl Lm j zk hz)
            have hll : (putS s (fl.take j) Lm).length = k := by rw [HP0.out]; have := HP0.out [] Lm; have h3 := hB5.out.ho.1; simp at h3; rw [HP0.out] at h3; omega
            obtain ⟨ca, fa⟩ := hB5.out.cell hll hzk
            have hB6 := Lib.hid (hB5.out.put zk s)
            have hn6 := Lib.hid (own_kept hn5.out (hB5.out.ho.stored zk (.int .i64 s)).2 (fun j hj e => by have := (hn5.out.lt j hj).1; cases e; omega))
            clear hz hll
            go_wp2
            go_roundw
            case rel => exact ⟨j + 1, by omega, by go_num, by show Dl _ _ _ _ _ _ _ _ _ _; rw [HT.out, Int.toNat_natCast]; exact hB6.out, hn6.out⟩
            case measure => simp [intOf]; omega
          · obtain rfl : j = fl.length := by omega
            rw [List.take_length] at hB5
            rw [← Hini.out] at hB5
            have hD6 := Lib.hid (PB.out L0 (List.replicate k false) HI.out (by simp) (fx_rep k))
            generalize List.replicate k false = Fm at *
            clear HP0 HPt Hini HFb hB4 hn5 ofl HI
            obtain ⟨wp, rfl⟩ : ∃ wp : World, wp = wr := ⟨_, rfl⟩
            go_wp2
            go_loopg [] (opn Fm) (fun gk wr => ∃ (L : List Int) (F : List Bool), Hid (opn F ≤ gk) ∧ Hid (Dl w wr x y (.slice A k c) g0 f0 k L F) ∧ Hid (DI L F))
            case atStart => exact ⟨L0, Fm, Nat.le_refl _, hB5.out, hD6.out⟩
            case round =>
              obtain ⟨L, F, hgk, hB, hDI⟩ := hrel
              obtain ⟨l1, l2⟩ := PD.out _ _ hDI.out
              have L1 := Lib.hid l1
              have L2 := Lib.hid l2
              clear l1 l2
              obtain ⟨wq, rfl⟩ : ∃ wq : World, wq = wr := ⟨_, rfl⟩
              go_wp2
              go_loop [14, 53] (fun b i => ∃ (best : Int) (q : Nat), b = .int .i64 best ∧ i = .int .i64 q ∧ q ≤ k ∧ BSt L F q best ∧ (-1 ≤ best ∧ best ≤ k)) (fun _ i => k - (intOf i).toNat)
              case atStart => exact ⟨-1, 0, rfl, rfl, Nat.zero_le _, BSt.begin, by omega, by omega⟩
              case round =>
                obtain ⟨best, q, rfl, rfl, hq, hbs, hbr⟩ := hrel
                have hbs := Lib.hid hbs
                by_cases hql : q < k
                · have hqz : (q : Int) < (k : Int) := by omega
                  obtain ⟨cq, fq⟩ := hB.out.cell L1.out hql
                  obtain ⟨dq, eq⟩ := hB.out.cellB L2.out hql
                  cases hfq : fx F q with
                  | true =>
                    rw [hfq] at dq
                    have hP := Lib.hid (hbs.out.pass (Or.inl hfq))
                    clear hfq
                    go_wp2
                    go_round
                    case rel => exact ⟨best, q + 1, rfl, by go_num, by omega, hP.out, hbr⟩
                    case measure => simp [intOf]; omega
                  | false =>
                    rw [hfq] at dq
                    by_cases htq : tm L q = -1
                    · have hP := Lib.hid (hbs.out.pass (Or.inr (Or.inl htq)))
                      rw [htq] at cq
                      clear hfq
                      go_wp2
                      go_round
                      case rel => exact ⟨best, q + 1, rfl, by go_num, by omega, hP.out, hbr⟩
                      case measure => simp [intOf]; omega
                    · have htq' : (tm L q == -1) = false := by simpa using htq
                      by_cases hb0 : best < 0
                      · have hP := Lib.hid (hbs.out.take hfq htq (Or.inl hb0))
                        clear hfq
                        generalize tm L q = tq at cq htq htq'
                        go_wp2
                        go_round
                        case rel => exact ⟨(q : Nat), q + 1, rfl, by go_num, by omega, hP.out, by omega, by omega⟩
                        case measure => simp [intOf]; omega
                      · obtain ⟨b, rfl⟩ := Int.eq_ofNat_of_zero_le (show 0 ≤ best by omega)
                        have hbk : b < k := by
                          rcases hbs.out with ⟨e, _⟩ | ⟨b', e, h1, _⟩ <;> omega
                        have hbz : (b : Int) < (k : Int) := by omega
                        have hb0' : decide ((b : Int) < 0) = false := by simp
                        obtain ⟨cb, fb⟩ := hB.out.cell L1.out hbk
                        by_cases hlt2 : tm L q < tm L b
                        · have hP := Lib.hid (hbs.out.take hfq htq (Or.inr ⟨b, rfl, hlt2⟩))
                          clear hfq
                          generalize tm L b = tb at cb hlt2
                          generalize tm L q = tq at cq htq htq' hlt2
                          go_wp2
                          go_round
                          case rel => exact ⟨(q : Nat), q + 1, rfl, by go_num, by omega, hP.out, by omega, by omega⟩
                          case measure => simp [intOf]; omega
                        · have hP := Lib.hid (hbs.out.pass (Or.inr (Or.inr ⟨b, rfl, by omega⟩)))
                          clear hfq
                          generalize tm L b = tb at cb hlt2
                          generalize tm L q = tq at cq htq htq' hlt2
                          go_wp2
                          go_round
                          case rel => exact ⟨(b : Nat), q + 1, rfl, by go_num, by omega, hP.out, hbr⟩
                          case measure => simp [intOf]; omega
                · obtain rfl : q = k := by omega
                  by_cases hb0 : best < 0
                  · obtain rfl : best = -1 := by omega
                    obtain ⟨hLR, hlf, hbd⟩ := PX.out L F hDI.out hbs.out
                    have hlf := Lib.hid hlf
                    have hbd := Lib.hid hbd
                    subst hLR
                    have Ho := Lib.hid (own_base hB.out.ho (Nat.le_succ _))
                    go_wp2
                    go_ret
                    exact hRA.out _ _ ⟨_, rfl, Ho.out, hB.out.hb⟩ hlf.out hbd.out
                  · obtain ⟨b, rfl⟩ := Int.eq_ofNat_of_zero_le (show 0 ≤ best by omega)
                    obtain ⟨hM, hbk, hfb, htb⟩ := PT.out L F b hDI.out hbs.out
                    have hbz : (b : Int) < (q : Int) := by omega
                    obtain ⟨db, eb⟩ := hB.out.cellB L2.out hbk
                    have hB8 := Lib.hid (hB.out.mark b)
                    have hop : Hid (opn (F.set b true) < gk) := Nat.lt_of_lt_of_le (PO.out F b (by rw [L2.out]; exact hbk) hfb) hgk.out
                    obtain ⟨t0, t1, t2⟩ := hB8.out.hT
                    have HC := Lib.hid (HNear.out _ hB8.out.hb b (by omega) (by omega))
                    have hnl := selN_le (nearP x b) q
                    have Hnat : Hid (∀ (j : Nat) (z : Int), (selN (nearP x b) q)[j]? = some z → ∃ d : Nat, z = d ∧ d < q ∧ nearP x b d = true) := fun (j : Nat) (z : Int) hz => near_at (x := x) (N := q) (a := b) hz
                    have PS2 := Lib.hid fun L F j c => PS.out L F b j c
                    have PU2 := Lib.hid fun L F j c => PU.out L F b j c
                    have PE2 := Lib.hid fun L F => PE.out L F b
                    have PM2 := Lib.hid fun L F j => PM.out L F b j
                    have hM := Lib.hid hM
                    generalize selN (nearP x b) q = nl at *
                    generalize F.set b true = F2 at *
                    clear hbs hDI hfb htb L1 L2 hgk
                    go_wp2_with fail
                    with_reducible refine HC.out.mono ?_
                    rintro e w8 ⟨nv, rfl, on, hb8⟩
                    have hB9 := Lib.hid (hB8.out.below hb8)
                    have hgB2 := hB8.out.base.2.2.1
                    obtain ⟨An, cn, rfl⟩ := (Sl.of_own on).val
                    have hon : ∃ Bn, g0 < Bn ∧ w8.ownsRow Bn 3 1 (.slice An nl.length cn) nl.length (ints nl) := ⟨_, hgB2, on⟩
                    clear on hgB2
                    obtain ⟨Bn, hgB2, on⟩ := hon
                    have on := Lib.hid on
                    clear hb8 hB8 t0 t1 t2 HC hB db eb
                    obtain ⟨wm2, rfl⟩ : ∃ wm : World, wm = w8 := ⟨_, rfl⟩
                    go_wp2
                    go_loopw [91] (fun i wr => ∃ (j : Nat) (L : List Int), i = .int .i64 j ∧ j ≤ nl.length ∧ Hid (Dl w wr x y (.slice A q c) g0 f0 q L F2) ∧ Hid (wr.ownsRow Bn 3 1 (.slice An nl.length cn) nl.length (ints nl)) ∧ Hid (DM b nl j L F2)) (fun i _ => nl.length - (intOf i).toNat)
                    case atStart => exact ⟨0, L, rfl, Nat.zero_le _, hB9.out, on.out, hM.out⟩
                    case round =>
                      obtain ⟨j2, L3, rfl, hj2, hB5, hn5, hM5⟩ := hrel
                      by_cases hjl2 : j2 < nl.length
                      · have hjz2 : (j2 : Int) < (nl.length : Int) := by omega
                        obtain ⟨bn2, ofn2, z, rfl, hz, hcz⟩ := (Sl.of_own hn5.out).at1 rfl hjl2
                        obtain ⟨cz, rfl, hc1, hc2⟩ := Hnat.out j2 z hz
                        have hczq : (cz : Int) < (q : Int) := by omega
                        obtain ⟨l1, l2, l3, l4⟩ := PM2.out _ _ _ hM5.out
                        have hlb := l3 b
                        have hlc := l3 cz
                        obtain ⟨ca, fa⟩ := hB5.out.cell l1 hbk
                        obtain ⟨cc, fc⟩ := hB5.out.cell l1 hc1
                        obtain ⟨dc, ec⟩ := hB5.out.cellB l2 hc1
                        obtain ⟨t0, t1, t2⟩ := hB5.out.hT
                        have hS := Lib.hid (PS2.out _ _ _ _ hM5.out hz)
                        have hU := Lib.hid (PU2.out _ _ _ _ hM5.out hz hc1 hc2)
                        have HB2 := HBr.out wr hB5.out.hb cz hc1
                        have L1 := Lib.hid l1
                        have L2 := Lib.hid l2
                        clear l1 l2 l3 hz
                        cases hbu : burnP zs cz with
                        | false =>
                          have hM6 := Lib.hid (hS.out (.inl hbu))
                          rw [hbu] at HB2
                          have HB2 := Lib.hid HB2
                          clear hU hS hbu
                          go_wp2_with fail
                          with_reducible refine HB2.out.mono ?_
                          rintro e w9 ⟨rfl, hb9⟩
                          have hB6 := Lib.hid (hB5.out.below hb9)
                          have hn6 := Lib.hid (own_below hn5.out hb9)
                          clear hb9
                          go_wp2
                          go_roundw
                          case rel => exact ⟨j2 + 1, L3, by go_num, by omega, hB6.out, hn6.out, hM6.out⟩
                          case measure => simp [intOf]; omega
                        | true =>
                          rw [hbu] at HB2
                          have HB2 := Lib.hid HB2
                          have hU := Lib.hid (hU.out hbu)
                          cases hfc : fx F2 cz with
                          | true =>
                            have hM6 := Lib.hid (hS.out (.inr (.inl hfc)))
                            clear hU hS hbu
                            go_wp2_with fail
                            with_reducible refine HB2.out.mono ?_
                            rintro e w9 ⟨rfl, hb9⟩
                            have hB6 := Lib.hid (hB5.out.below hb9)
                            have hn6 := Lib.hid (own_below hn5.out hb9)
                            obtain ⟨dc, ec⟩ := hB6.out.cellB L2.out hc1
                            rw [hfc] at dc
                            clear hb9 hfc
                            go_wp2
                            go_roundw
                            case rel => exact ⟨j2 + 1, L3, by go_num, by omega, hB6.out, hn6.out, hM6.out⟩
                            case measure => simp [intOf]; omega
                          | false =>
                            have hU := Lib.hid (hU.out hfc)
                            have hwb := HWb.out b cz
                            have HW2 := Lib.hid fun W hW => HWk.out W hW b cz hbk hc1
                            have HD2 := Lib.hid fun W hW => HDn.out W hW (tm L3 b) (wrkF x zs b cz) l4 (by omega) (by omega) (by omega)
                            generalize wrkF x zs b cz = wk at *
                            generalize doneF ps (tm L3 b) wk = X at *
                            clear hbu ca fa cc fc dc ec
                            go_wp2_with fail
                            with_reducible refine HB2.out.mono ?_
                            rintro e w9 ⟨rfl, hb9⟩
                            have hB5 := Lib.hid (hB5.out.below hb9)
                            have hn5 := Lib.hid (own_below hn5.out hb9)
                            clear hb9 t0 t1 t2 hcz HB2
                            obtain ⟨ca, fa⟩ := hB5.out.cell L1.out hbk
                            obtain ⟨dc, ec⟩ := hB5.out.cellB L2.out hc1
                            obtain ⟨t0, t1, t2⟩ := hB5.out.hT
                            rw [hfc] at dc
                            obtain ⟨hgs1, hgs2, hgs3, hgs4⟩ := hB5.out.base
                            have hws : w.heap.size < w9.heap.size := by omega
                            have hq := fun n : Later w9 => n.cell
                            clear hfc
                            go_wp2_with fail
                            refine wp_region_later (by kernel_rfl) (by kernel_rfl) ?_
                            repeat (go_big_quiet_step ((first | (go_at_call 133; exact later_of (HW2.out _ (grow_trans hB5.out.hb (Later.h _)))) | (go_at_call 132; exact later_of (HD2.out _ (grow_trans hB5.out.hb (Later.h _)))))))
                            refine wpQuiet_nil ?_
                            rintro _ ⟨wl, rfl⟩
                            have hbl := wl.h
                            have hB6 := Lib.hid (hB5.out.below hbl)
                            have hn6 := Lib.hid (own_below hn5.out hbl)
                            clear hq ca fa dc ec t0 t1 t2
                            generalize wl.w = w6 at hbl hB6 hn6 ⊢
                            obtain ⟨cb, fb⟩ := hB6.out.cell L1.out hc1
                            clear hbl
                            by_cases hnb : tm L3 cz = -1
                            · rw [hnb] at cb
                              have hM6 := Lib.hid (hU.out (.inl hnb))
                              have hB7 := Lib.hid (hB6.out.put cz X)
                              have hn7 := Lib.hid (own_kept hn6.out (hB6.out.ho.stored cz (.int .i64 X)).2 (fun j hj e => by have := (hn6.out.lt j hj).1; cases e; omega))
                              clear hU hS
                              go_wp2
                              go_roundw
                              case rel => exact ⟨j2 + 1, L3.set cz X, by go_num, by omega, hB7.out, hn7.out, hM6.out⟩
                              case measure => simp [intOf]; omega
                            · have hnb' : (tm L3 cz == -1) = false := by simpa using hnb
                              by_cases hxb : X < tm L3 cz
                              · have hu := hU.out (.inr hxb)
                                generalize tm L3 cz = tb at cb hnb hnb' hxb
                                have hM6 := Lib.hid hu
                                have hB7 := Lib.hid (hB6.out.put cz X)
                                have hn7 := Lib.hid (own_kept hn6.out (hB6.out.ho.stored cz (.int .i64 X)).2 (fun j hj e => by have := (hn6.out.lt j hj).1; cases e; omega))
                                clear hU hS hu
                                go_wp2
                                go_roundw
                                case rel => exact ⟨j2 + 1, L3.set cz X, by go_num, by omega, hB7.out, hn7.out, hM6.out⟩
                                case measure => simp [intOf]; omega
                              · have hM6 := Lib.hid (hS.out (.inr (.inr ⟨hnb, by omega⟩)))
                                generalize tm L3 cz = tb at cb hnb hnb' hxb
                                clear hU hS
                                go_wp2
                                go_roundw
                                case rel => exact ⟨j2 + 1, L3, by go_num, by omega, hB6.out, hn6.out, hM6.out⟩
                                case measure => simp [intOf]; omega
                      · obtain rfl : j2 = nl.length := by omega
                        have hD7 := Lib.hid (PE2.out _ _ hM5.out)
                        go_wp2
                        go_roundg (opn F2)
                        case measure => exact hop.out
                        case rel => exact ⟨L3, F2, Nat.le_refl _, hB5.out, hD7.out⟩
end Go.Proofs.Ytnacofmjipilhaa
