/- The cells that fire reaches, in the reference. Conditions: as each states. -/
import Derived.Test.YtjobjdmheocheaaGrow2
import Derived.Test.YtjobjdmheocheaaBfs
import Derived.Test.YtjobjdmheocheaaBurn1
import Derived.Deep.LoopGhost
namespace Go.Proofs.Ytjobjdmheocheaa
open Go.ChangeShapes Go.WideShapes Go.ChangeAt Go.RowKit Go.Deep
set_option linter.unusedVariables false
set_option linter.unusedSimpArgs false
set_option maxRecDepth 100000

/-- A number is that of a cell that burns. -/
def burnZ (zs : List Int) (z : Int) : Bool := burnP zs z.toNat
/-- The steps of fire. -/
def fireT (x : Int) (zs : List Int) (a b : Int) : Prop := (0 ≤ b ∧ b ≤ (zs.length : Int) - 1) ∧ apartN x b a = 1 ∧ burnZ zs b = true
/-- Where fire begins. -/
def fireS (zs cs : List Int) (c : Int) : Prop := c ∈ cs ∧ burnZ zs c = true
/-- What is known of a search's two lists in memory. -/
structure Two (w : World) (B : Nat) (v q : Value) (out next : List Int) : Prop where
  ho : Qw w B 3 1 v out.length (ints out)
  hn : Qw w B 3 1 q next.length (ints next)
  ap : ∀ j, v.ownBlock = some j → q.ownBlock ≠ some j
theorem Two.below {w w' : World} {B : Nat} {v q : Value} {out next : List Int} (h : Two w B v q out next) (hb : Below w.heap.size w w') : Two w' B v q out next := ⟨h.ho.below hb, h.hn.below hb, h.ap⟩
/-- The first list replaced by a put. -/
theorem Two.put {w w' : World} {B : Nat} {v q u : Value} {out next : List Int} {z : Int} (h : Two w B v q out next) (hr : RetPut w B v (putL out z) (.returned u) w') : Two w' B u q (putL out z) next := by
  obtain ⟨u', e, hq, hb, hu⟩ := hr
  cases e
  refine ⟨hq, h.hn.below hb, fun j hj => ?_⟩
  rcases hu with e | hu
  · subst e; exact h.ap j hj
  · intro e2
    have h1 := hu j hj
    have h2 := (h.hn.lt j e2).2
    omega
/-- Something appended to the second list. -/
theorem Two.add {w w' : World} {B : Nat} {v q q' : Value} {out next nb : List Int} (h : Two w B v q out next) (hq : Qw w' B 3 1 q' (next.length + nb.length) (ints next ++ ints nb)) (hg : w.grownBy w' q.ownBlock) (hd : q'.ownBlock = q.ownBlock ∨ q'.ownBlock = some w.heap.size) : Two w' B v q' out (next ++ nb) := by
  refine ⟨h.ho.kept hg (fun j hj e => h.ap j hj e.symm), by simpa using hq, fun j hj e => ?_⟩
  rcases hd with e2 | e2
  · exact h.ap j hj (e2 ▸ e)
  · rw [e2] at e
    have := (h.ho.lt j hj).2
    cases e
    omega
/-- The second list's head taken. -/
theorem Two.pop {w : World} {B : Nat} {v q : Value} {out rest : List Int} {a : Int} (h : Two w B v q out (a :: rest)) :
    ∃ g off c, q = .slice (some ⟨g, off, none⟩) (rest.length + 1) c ∧ rest.length + 1 ≤ c ∧ c ≤ maxLen ∧ w.cell? ⟨g, off, none⟩ = some (.int .i64 a) ∧ Two w B v (.slice (if c = 1 then some ⟨g, off, none⟩ else some ⟨g, off + 1, none⟩) rest.length (c - 1)) out rest := by
  have hn : Qw w B 3 1 q (rest.length + 1) (ints (a :: rest)) := h.hn
  obtain ⟨A, c, rfl, h1, h2, h3⟩ := hn.tail
  obtain ⟨b, off, z, rfl, hz, hc⟩ := (Sl.of_q hn).at1 (xs := a :: rest) rfl (Nat.succ_pos _)
  have hza : z = a := by simpa using hz.symm
  subst hza
  have hq : Qw w B 3 1 (.slice (if c = 1 then some ⟨b, off, none⟩ else some ⟨b, off + 1, none⟩) rest.length (c - 1)) rest.length (ints rest) := by
    simpa [Addr.add_lit] using h3
  refine ⟨b, off, c, rfl, h1, h2, by simpa using hc, h.ho, hq, fun j hj e => h.ap j hj ?_⟩
  rw [← e]
  split <;> rfl
theorem Two.pop2 {w : World} {B : Nat} {v q : Value} {out rest : List Int} {a : Int} (h : Two w B v q out (a :: rest)) :
    ∃ g off c, q = .slice (some ⟨g, off, none⟩) (rest.length + 1) c ∧ rest.length + 1 ≤ c ∧ c ≤ 9223372036854775807 ∧ w.cell? ⟨g, off, none⟩ = some (.int .i64 a) ∧
      ((c = 1 ∧ rest = [] ∧ Two w B v (.slice (some ⟨g, off, none⟩) 0 0) out rest) ∨ (¬ c = 1 ∧ Two w B v (.slice (some ⟨g, off + 1, none⟩) rest.length (c - 1)) out rest)) := by
  obtain ⟨g, off, c, rfl, h1, h2, hc, ht⟩ := h.pop
  refine ⟨g, off, c, rfl, h1, by unfold maxLen at h2; omega, hc, ?_⟩
  by_cases e : c = 1
  · left
    have hr : rest = [] := List.eq_nil_of_length_eq_zero (by omega)
    subst hr
    subst e
    exact ⟨rfl, rfl, by simpa using ht⟩
  · right
    rw [if_neg e] at ht
    exact ⟨e, ht⟩
set_option maxHeartbeats 4000000 in
theorem l2Reach_any (x y : Int) (u : Value) (zs : List Int) (va : Value) (cs : List Int) (w : World) (h : Sl w 1 u zs.length (ints zs)) (ha : Sl w 1 va cs.length (ints cs)) (h1 : 1 ≤ x) (h2 : x ≤ 5) (hm25 : zs.length ≤ 25) (hcl : cs.length ≤ 25) (hcs : ∀ z ∈ cs, 0 ≤ z ∧ z ≤ (zs.length : Int) - 1) (hbr : ∀ z ∈ zs, 0 ≤ z ∧ z ≤ 20) :
    Calls Try.prog 81 #[terrV x y u, va] w (RetQ w 3 1 (rchL (fireS zs cs) (fireT x zs) zs.length).length (ints (rchL (fireS zs cs) (fireT x zs) zs.length))) := by
  obtain ⟨i0, hi, hz0, hz1, hz2⟩ := info_parts info_int
  have Hs := Lib.hid fun W hW => h.below (w' := W) hW
  have HO := Lib.hid fun W hW hn => l1Own_any va cs W (ha.below (w' := W) hW) hn
  have HN2 := Lib.hid fun W hW cl h3 h4 => l2Near_any x y u zs cl W (h.below (w' := W) hW) h1 h2 h3 h4 (by omega)
  have HG0 : Hid (GInv zs.length (fireS zs cs) (fireT x zs) (fun c => burnZ zs c = true) [] cs) := GInv.begin hcs (fun c hc => hc.1) (fun c hc ho => ⟨hc, ho⟩)
  have Hskip : Hid (∀ (out rest : List Int) (z : Int), GInv zs.length (fireS zs cs) (fireT x zs) (fun c => burnZ zs c = true) out (z :: rest) → (burnZ zs z = false ∨ z ∈ out) → GInv zs.length (fireS zs cs) (fireT x zs) (fun c => burnZ zs c = true) out rest) :=
    fun out rest z hg hz => hg.skip (fun c hc => hc.2) (fun a b hs => hs.2.2) (by rcases hz with e | e; exact .inl (by simp [e]); exact .inr e)
  have Htake : Hid (∀ (out rest : List Int) (z : Int), GInv zs.length (fireS zs cs) (fireT x zs) (fun c => burnZ zs c = true) out (z :: rest) → burnZ zs z = true → GInv zs.length (fireS zs cs) (fireT x zs) (fun c => burnZ zs c = true) (putL out z) (rest ++ selN (nearP x z) zs.length)) :=
    fun out rest z hg hz => hg.take hz selN_in
      (fun b hb ho => by obtain ⟨k, hk, hp, rfl⟩ := selN_mem.1 hb; exact ⟨by omega, near_iff.1 hp, ho⟩)
      (fun b hs => selN_mem.2 ⟨b.toNat, by have := hs.1; omega, near_iff.2 (by have := hs.1; rw [show ((b.toNat : Nat) : Int) = b by omega]; exact hs.2.1), by have := hs.1; omega⟩)
  have HGr : Hid (∀ out next, GInv zs.length (fireS zs cs) (fireT x zs) (fun c => burnZ zs c = true) out next → ∀ z ∈ next, 0 ≤ z ∧ z ≤ (zs.length : Int) - 1) := fun _ _ hg => hg.r2
  have HGl : Hid (∀ out next, GInv zs.length (fireS zs cs) (fireT x zs) (fun c => burnZ zs c = true) out next → out.length ≤ zs.length) := fun _ _ hg => hg.rise.lenN hg.r1
  have Hbd : Hid (∀ z ∈ zs, 0 ≤ z ∧ z ≤ 20) := hbr
  have Hends : Hid (∀ out, GInv zs.length (fireS zs cs) (fireT x zs) (fun c => burnZ zs c = true) out [] → out = rchL (fireS zs cs) (fireT x zs) zs.length) := fun out hg => hg.ends
  have Hbz : Hid (∀ (k : Nat) z, zs[k]? = some z → burnZ zs k = decide (0 < z)) := fun k z hz => by
    unfold burnZ burnP
    rw [Int.toNat_natCast, List.getD_eq_getElem?_getD, hz]; rfl
  obtain ⟨A, c, rfl⟩ := h.val
  obtain ⟨Aa, ca, rfl⟩ := ha.val
  have hTB0 : Hid (TB ((w.alloc (.cells #[.int .i64 x, .int .i64 y, .slice A zs.length c] 28)).alloc (.cells #[] 3)) w.heap.size x y (.slice A zs.length c)) := by show TB _ _ _ _ _; unfold TB; simp [go_sem]
  have hq0 : Hid (Qw ((w.alloc (.cells #[.int .i64 x, .int .i64 y, .slice A zs.length c] 28)).alloc (.cells #[] 3)) (w.heap.size + 1) 3 1 (.slice (some ⟨w.heap.size + 1, 0, none⟩) 0 0) 0 []) := Qw.emptyAt (hp2 _ _ _) (Nat.le_refl _)
  have hb0 : Hid (Below w.heap.size w ((w.alloc (.cells #[.int .i64 x, .int .i64 y, .slice A zs.length c] 28)).alloc (.cells #[] 3))) := two_news _ _ _
  clear h ha hcs hbr
  generalize GInv zs.length (fireS zs cs) (fireT x zs) (fun c => burnZ zs c = true) = G at *
  generalize rchL (fireS zs cs) (fireT x zs) zs.length = L at *
  generalize hM : zs.length = M at *
  have HM := Lib.hid hM
  generalize hK : cs.length = K at *
  have HK := Lib.hid hK
  clear hM hK
  have hcap : ∀ n, (selN (nearP x n) M).length ≤ M := fun n => selN_le _ _
  have Hcap := Lib.hid hcap
  clear hcap
  go_enter Try.func81, Try.ntmps81
  go_wp2_with fail
  with_reducible refine (HO.out _ hb0.out (by omega)).mono ?_
  rintro e w1 ⟨q0, rfl, hq1, hb1⟩
  have hT1 := Lib.hid (hTB0.out.below hb1)
  have htw : Hid (Two w1 (w.heap.size + 1) (.slice (some ⟨w.heap.size + 1, 0, none⟩) 0 0) q0 [] cs) := by
    refine ⟨hq0.out.below hb1, by rw [HK.out]; exact hq1.lower (by simp), fun j hj e => ?_⟩
    have := (hq1.lt j e).1
    simp [Value.ownBlock] at hj this
    omega
  have hs1 : w.heap.size + 1 < w1.heap.size := by have := hb1.size; simp at this; omega
  have hb1 := Lib.hid (grow_trans hb0.out hb1)
  clear hq1
  go_wp2
  go_loopg [5, 6] (left M 0 K) (fun gk v q wr => ∃ out next : List Int, Hid (left M out.length next.length ≤ gk) ∧ gk ≤ 675 ∧ Hid (Below w.heap.size w wr) ∧ w.heap.size + 1 < wr.heap.size ∧ Hid (TB wr w.heap.size x y (.slice A M c)) ∧ Hid (Two wr (w.heap.size + 1) v q out next) ∧ Hid (G out next) ∧ Hid (out.length ≤ M))
  case atStart => exact ⟨[], cs, by show left _ _ _ ≤ _; rw [HK.out]; exact Nat.le_refl _, left_top hm25 hcl, hb1.out, hs1, hT1.out, htw.out, HG0.out, by show _ ≤ _; simp⟩
  case round =>
    obtain ⟨out, next, hle, hle2, hb, hsz, hT, htw, hG, hol⟩ := hrel
    cases next with
    | nil =>
      have hL := Hends.out out hG.out
      have ho := htw.out.ho
      rw [hL] at ho
      have Ho := Lib.hid ho
      obtain ⟨An, cn, rfl, hn0⟩ : ∃ An cn, u6 = .slice An 0 cn ∧ True := by
        obtain ⟨A', c', e⟩ := (Sl.of_q htw.out.hn).val
        exact ⟨A', c', e, trivial⟩
      clear hn0 hL ho
      go_wp2
      go_ret
      exact ⟨_, rfl, Ho.out.lower (Nat.le_succ _), hb.out⟩
    | cons z rest =>
      have hzr := HGr.out out (z :: rest) hG.out z (by simp)
      obtain ⟨zk, rfl⟩ := Int.eq_ofNat_of_zero_le hzr.1
      have hzk : zk < M := by omega
      obtain ⟨b, ofz, bz, hA, hbz, hcellz⟩ := (Hs.out wr hb.out).at1 HM.out hzk
      subst hA
      have Hb1 := Lib.hid (Hbz.out zk bz hbz)
      have hzbd := Hbd.out bz (List.mem_of_getElem? hbz)
      have Hm := Lib.hid (hasB_iff (zs := out) (c := (zk : Int)))
      have hmx := (Hs.out wr hb.out).len
      unfold maxLen at hmx
      have hrl : rest.length + 1 ≤ 675 := Nat.le_trans (left_len M out.length (rest.length + 1)) (Nat.le_trans hle.out hle2)
      have Hlf : Hid (left M out.length rest.length < gk) := Nat.lt_of_lt_of_le (left_skip M out.length rest.length) hle.out
      have Hlt : Hid (∀ n, out.length + 1 ≤ M → n ≤ M → left M (out.length + 1) (rest.length + n) < gk) := fun n h1 h2 => Nat.lt_of_lt_of_le (left_take h1 h2) hle.out
      have Hlen2 : Hid (∀ o', G (putL out zk) o' → (putL out zk).length ≤ M) := fun o' hg => HGl.out _ _ hg
      have Hnew : Hid (hasB out zk = false → (putL out zk).length = out.length + 1) := fun hh => putL_new (hasB_not.1 hh)
      obtain ⟨g, off, cq, rfl, hc1, hc3, hcell, hpop⟩ := htw.out.pop2
      have Hsk0 : Hid (burnZ zs zk = false ∨ (zk : Int) ∈ out → G out rest) := Hskip.out out rest zk hG.out
      have Htk0 : Hid (burnZ zs zk = true → G (putL out zk) (rest ++ selN (nearP x zk) M)) := Htake.out out rest zk hG.out
      obtain ⟨t0, t1, t2⟩ := hT.out
      clear hbz htw hG hle
      rcases hpop with ⟨hcq, hrn, htw2⟩ | ⟨hcn, htw2⟩
      · subst hcq
        subst hrn
        have hq2 := htw2.ho
        have htw2 := Lib.hid htw2
        have Hh := Lib.hid fun W hW => l1Has_any u5 out zk W (Sl.of_q (hq2.below (w' := W) hW))
        have hq2 := Lib.hid hq2
        have hval := (Sl.of_q hq2.out).val
        by_cases hbz0 : bz = 0
        · subst hbz0
          have hG2 := Lib.hid (Hsk0.out (.inl (by rw [Hb1.out]; rfl)))
          clear Hsk0 Htk0
          obtain ⟨Av, cv, rfl⟩ := hval
          go_wp2
          go_roundg (left M out.length 0)
          case measure => exact Hlf.out
          case rel => exact ⟨out, [], Nat.le_refl _, Nat.le_trans (Nat.le_of_lt Hlf.out) hle2, hb.out, hsz, hT.out, htw2.out, hG2.out, hol.out⟩
        · have hbz1 : (bz == 0) = false := by simpa using hbz0
          cases hhas : hasB out zk with
          | true =>
            have hG2 := Lib.hid (Hsk0.out (.inr (hasB_iff.1 hhas)))
            rw [hhas] at Hh
            clear Hsk0 Htk0 hhas
            obtain ⟨Av, cv, rfl⟩ := hval
            go_wp2_with fail
            with_reducible refine (Hh.out _ (Below.refl _ _)).mono ?_
            rintro e w2 ⟨rfl, rfl⟩
            go_wp2
            go_roundg (left M out.length 0)
            case measure => exact Hlf.out
            case rel => exact ⟨out, [], Nat.le_refl _, Nat.le_trans (Nat.le_of_lt Hlf.out) hle2, hb.out, hsz, hT.out, htw2.out, hG2.out, hol.out⟩
          | false =>
            have hG2 := Lib.hid (Htk0.out (by rw [Hb1.out]; simpa using (show 0 < bz by omega)))
            have hnew := Hnew.out hhas
            have hpl := Hlen2.out _ hG2.out
            have HP := Lib.hid (l1Put_any u5 out zk _ wr hq2.out (by omega) (by omega))
            rw [hhas] at Hh
            clear Hsk0 Htk0 hhas
            obtain ⟨Av, cv, rfl⟩ := hval
            go_wp2_with fail
            with_reducible refine (Hh.out _ (Below.refl _ _)).mono ?_
            rintro e w2 ⟨rfl, rfl⟩
            go_wp2_with fail
            with_reducible refine HP.out.mono ?_
            intro e w3 hr3
            have hr3' := hr3
            unfold RetPut at hr3
            obtain ⟨v3, rfl, _, hb3, _⟩ := hr3
            have htw3 := Lib.hid (htw2.out.put hr3')
            have hT3 := Lib.hid (hT.out.below hb3)
            have hs3 := hb3.size
            have hb3 := Lib.hid (grow_trans hb.out hb3)
            have HC := Lib.hid (HN2.out w3 hb3.out zk (by omega) (by omega))
            obtain ⟨t0, t1, t2⟩ := hT3.out
            clear hr3' htw2 hq2 Hh HP hT
            go_wp2_with fail
            with_reducible refine HC.out.mono ?_
            rintro e w4 ⟨nr, rfl, on, hb4⟩
            have hcap := Hcap.out (zk : Int)
            have on := Lib.hid (Sl.of_own on)
            have htw4 := Lib.hid (htw3.out.below hb4)
            have hT4 := Lib.hid (hT3.out.below hb4)
            have hs4 := hb4.size
            have hb4 := Lib.hid (grow_trans hb3.out hb4)
            clear htw3 hT3 t0 t1 t2
            generalize selN (nearP x zk) M = nl at *
            have Hone := Lib.hid (ints_one nl)
            have Hnl := Lib.hid (Hlt.out nl.length (by omega) hcap)
            go_wp2_with ((at_builtin; refine wpList_append_q _ rfl _ _ 22 rfl (w.heap.size + 1) 3 i0 (.int .i64 0) 1 8 Try.underlying22 hi hz0 hz1 hz2 rfl (by decide) _ _ _ rfl htw4.out.hn _ _ _ rfl on.out Hone.out (by unfold maxLen; omega) (by omega) (by omega) ?_))
            intro vA wA hqA hgA hdA
            have htw5 := Lib.hid (Two.add (next := []) (nb := nl) htw4.out (by simpa using hqA) hgA hdA)
            have hb5 := Lib.hid (hb4.out.grown hgA (by omega) (fun j hj => by have := (htw4.out.hn.lt j hj).1; omega))
            have hT5 := Lib.hid (hT4.out.kept hgA (fun e => by have := (htw4.out.hn.lt _ e.symm).1; omega))
            have hs5 := hgA.size
            clear hqA hgA hdA
            go_wp2
            go_roundg (left M (out.length + 1) (0 + nl.length))
            case measure => exact Hnl.out
            case rel => exact ⟨putL out zk, [] ++ nl, by show left _ _ _ ≤ _; rw [hnew, List.length_append]; exact Nat.le_refl _, Nat.le_trans (Nat.le_of_lt Hnl.out) hle2, hb5.out, by omega, hT5.out, htw5.out, hG2.out, hpl⟩
      · have hq2 := htw2.ho
        have htw2 := Lib.hid htw2
        have Hh := Lib.hid fun W hW => l1Has_any u5 out zk W (Sl.of_q (hq2.below (w' := W) hW))
        have hq2 := Lib.hid hq2
        have hval := (Sl.of_q hq2.out).val
        by_cases hbz0 : bz = 0
        · subst hbz0
          have hG2 := Lib.hid (Hsk0.out (.inl (by rw [Hb1.out]; rfl)))
          clear Hsk0 Htk0
          obtain ⟨Av, cv, rfl⟩ := hval
          go_wp2
          go_roundg (left M out.length rest.length)
          case measure => exact Hlf.out
          case rel => exact ⟨out, rest, Nat.le_refl _, Nat.le_trans (Nat.le_of_lt Hlf.out) hle2, hb.out, hsz, hT.out, htw2.out, hG2.out, hol.out⟩
        · have hbz1 : (bz == 0) = false := by simpa using hbz0
          cases hhas : hasB out zk with
          | true =>
            have hG2 := Lib.hid (Hsk0.out (.inr (hasB_iff.1 hhas)))
            rw [hhas] at Hh
            clear Hsk0 Htk0 hhas
            obtain ⟨Av, cv, rfl⟩ := hval
            go_wp2_with fail
            with_reducible refine (Hh.out _ (Below.refl _ _)).mono ?_
            rintro e w2 ⟨rfl, rfl⟩
            go_wp2
            go_roundg (left M out.length rest.length)
            case measure => exact Hlf.out
            case rel => exact ⟨out, rest, Nat.le_refl _, Nat.le_trans (Nat.le_of_lt Hlf.out) hle2, hb.out, hsz, hT.out, htw2.out, hG2.out, hol.out⟩
          | false =>
            have hG2 := Lib.hid (Htk0.out (by rw [Hb1.out]; simpa using (show 0 < bz by omega)))
            have hnew := Hnew.out hhas
            have hpl := Hlen2.out _ hG2.out
            have HP := Lib.hid (l1Put_any u5 out zk _ wr hq2.out (by omega) (by omega))
            rw [hhas] at Hh
            clear Hsk0 Htk0 hhas
            obtain ⟨Av, cv, rfl⟩ := hval
            go_wp2_with fail
            with_reducible refine (Hh.out _ (Below.refl _ _)).mono ?_
            rintro e w2 ⟨rfl, rfl⟩
            go_wp2_with fail
            with_reducible refine HP.out.mono ?_
            intro e w3 hr3
            have hr3' := hr3
            unfold RetPut at hr3
            obtain ⟨v3, rfl, _, hb3, _⟩ := hr3
            have htw3 := Lib.hid (htw2.out.put hr3')
            have hT3 := Lib.hid (hT.out.below hb3)
            have hs3 := hb3.size
            have hb3 := Lib.hid (grow_trans hb.out hb3)
            have HC := Lib.hid (HN2.out w3 hb3.out zk (by omega) (by omega))
            obtain ⟨t0, t1, t2⟩ := hT3.out
            clear hr3' htw2 hq2 Hh HP hT
            go_wp2_with fail
            with_reducible refine HC.out.mono ?_
            rintro e w4 ⟨nr, rfl, on, hb4⟩
            have hcap := Hcap.out (zk : Int)
            have on := Lib.hid (Sl.of_own on)
            have htw4 := Lib.hid (htw3.out.below hb4)
            have hT4 := Lib.hid (hT3.out.below hb4)
            have hs4 := hb4.size
            have hb4 := Lib.hid (grow_trans hb3.out hb4)
            clear htw3 hT3 t0 t1 t2
            generalize selN (nearP x zk) M = nl at *
            have Hone := Lib.hid (ints_one nl)
            have Hnl := Lib.hid (Hlt.out nl.length (by omega) hcap)
            go_wp2_with ((at_builtin; refine wpList_append_q _ rfl _ _ 22 rfl (w.heap.size + 1) 3 i0 (.int .i64 0) 1 8 Try.underlying22 hi hz0 hz1 hz2 rfl (by decide) _ _ _ rfl htw4.out.hn _ _ _ rfl on.out Hone.out (by unfold maxLen; omega) (by omega) (by omega) ?_))
            intro vA wA hqA hgA hdA
            have htw5 := Lib.hid (Two.add (next := rest) (nb := nl) htw4.out hqA hgA hdA)
            have hb5 := Lib.hid (hb4.out.grown hgA (by omega) (fun j hj => by have := (htw4.out.hn.lt j hj).1; omega))
            have hT5 := Lib.hid (hT4.out.kept hgA (fun e => by have := (htw4.out.hn.lt _ e.symm).1; omega))
            have hs5 := hgA.size
            clear hqA hgA hdA
            go_wp2
            go_roundg (left M (out.length + 1) (rest.length + nl.length))
            case measure => exact Hnl.out
            case rel => exact ⟨putL out zk, rest ++ nl, by show left _ _ _ ≤ _; rw [hnew, List.length_append]; exact Nat.le_refl _, Nat.le_trans (Nat.le_of_lt Hnl.out) hle2, hb5.out, by omega, hT5.out, htw5.out, hG2.out, hpl⟩
end Go.Proofs.Ytjobjdmheocheaa
