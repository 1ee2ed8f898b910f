/- The cells that are reached within a region, or outside of it, in the reference. Conditions: as each states. -/
import Derived.Test.YtefampjmbjbhcaaReachS
import Derived.Test.YtefampjmbjbhcaaSides
namespace Go.Proofs.Ytefampjmbjbhcaa
open Go.ChangeShapes Go.WideShapes Go.ChangeAt Go.RowKit Go.Deep
set_option linter.unusedVariables false
set_option linter.unusedSimpArgs false
set_option maxRecDepth 100000

/-- The cells beside a cell: all neighbors, or those in its column or row. -/
def nbL (x : Int) (N : Nat) (ins : Bool) (z : Int) : List Int := if ins then selN (nearP x z) N else (selN (nearP x z) N).filter fun c => alongB x c z
theorem nbL_in {x : Int} {N : Nat} {ins : Bool} {z : Int} : ∀ c ∈ nbL x N ins z, 0 ≤ c ∧ c ≤ (N : Int) - 1 := by
  intro c hc
  unfold nbL at hc
  split at hc
  · exact selN_in c hc
  · exact selN_in c (List.mem_filter.1 hc).1
theorem nbL_le (x : Int) (N : Nat) (ins : Bool) (z : Int) : (nbL x N ins z).length ≤ N := by
  unfold nbL
  split
  · exact selN_le _ _
  · exact Nat.le_trans (List.length_filter_le _ _) (selN_le _ _)
/-- The steps within a region, or outside. -/
def sprT (x : Int) (N : Nat) (rg : List Int) (ins : Bool) (a b : Int) : Prop := b ∈ nbL x N ins a ∧ hasB rg b = ins
/-- Where they begin. -/
def sprS (rg : List Int) (ins : Bool) (cl c : Int) : Prop := c = cl ∧ hasB rg c = ins
theorem RetQ.of_own {P : Program} {f : FuncId} {args : Array Value} {w : World} {t : TypeId} {k n : Nat} {cs : List Value} (h : Calls P f args w (RetOwn w t k n cs)) : Calls P f args w (RetQ w t k n cs) :=
  h.mono fun _ _ ⟨u, e, ho, hb⟩ => ⟨u, e, Qw.of_own ho, hb⟩
set_option maxHeartbeats 4000000 in
theorem l6Spread_in_any (x y : Int) (u : Value) (zs : List Int) (va : Value) (rg : List Int) (cl : Int) (w : World) (h : Sl w 1 u zs.length (ints zs)) (ha : Sl w 1 va rg.length (ints rg)) (h1 : 1 ≤ x) (h2 : x ≤ 5) (hm25 : zs.length ≤ 25) (hc0 : 0 ≤ cl) (hcN : cl ≤ (zs.length : Int) - 1) :
    Calls Try.prog 132 #[terrV x y u, va, .int .i64 cl, .bool true] w (RetQ w 3 1 (rchL (sprS rg true cl) (sprT x zs.length rg true) zs.length).length (ints (rchL (sprS rg true cl) (sprT x zs.length rg true) zs.length))) := by
  obtain ⟨i0, hi, hz0, hz1, hz2⟩ := info_parts info_int
  have Hrg := Lib.hid fun W hW z => l1Has_any va rg z W (ha.below (w' := W) hW)
  have HN2 : Hid (∀ W, Below w.heap.size w W → ∀ z : Int, 0 ≤ z → z ≤ 25 → Calls Try.prog 168 #[terrV x y u, .int .i64 z] W (RetQ W 3 1 (nbL x zs.length true z).length (ints (nbL x zs.length true z)))) := fun W hW z h3 h4 => (RetQ.of_own (l2Near_any x y u zs z W (h.below hW) h1 h2 h3 h4 (by omega)))
  have HG0 : Hid ((GInv zs.length (sprS rg true cl) (sprT x zs.length rg true) (fun c => hasB rg c = true)) [] [cl]) := GInv.begin (fun z hz => (by have e : z = cl := (by simpa using hz); omega)) (fun c hc => by simp [hc.1]) (fun c hc ho => ⟨by simpa using hc, ho⟩)
  have Hskip : Hid (∀ (out rest : List Int) (z : Int), (GInv zs.length (sprS rg true cl) (sprT x zs.length rg true) (fun c => hasB rg c = true)) out (z :: rest) → (hasB rg z = !true ∨ z ∈ out) → (GInv zs.length (sprS rg true cl) (sprT x zs.length rg true) (fun c => hasB rg c = true)) out rest) :=
    fun out rest z hg hz => hg.skip (fun c hc => hc.2) (fun a b hs => hs.2) (by rcases hz with e | e; exact .inl (by simp [e]); exact .inr e)
  have Htake : Hid (∀ (out rest : List Int) (z : Int), (GInv zs.length (sprS rg true cl) (sprT x zs.length rg true) (fun c => hasB rg c = true)) out (z :: rest) → hasB rg z = true → (GInv zs.length (sprS rg true cl) (sprT x zs.length rg true) (fun c => hasB rg c = true)) (putL out z) (rest ++ nbL x zs.length true z)) :=
    fun out rest z hg hz => hg.take hz nbL_in (fun b hb ho => ⟨hb, ho⟩) (fun b hs => hs.1)
  have HGr : Hid (∀ out next, (GInv zs.length (sprS rg true cl) (sprT x zs.length rg true) (fun c => hasB rg c = true)) out next → ∀ z ∈ next, 0 ≤ z ∧ z ≤ (zs.length : Int) - 1) := fun _ _ hg => hg.r2
  have HGl : Hid (∀ out next, (GInv zs.length (sprS rg true cl) (sprT x zs.length rg true) (fun c => hasB rg c = true)) out next → out.length ≤ zs.length) := fun _ _ hg => hg.rise.lenN hg.r1
  have Hends : Hid (∀ out, (GInv zs.length (sprS rg true cl) (sprT x zs.length rg true) (fun c => hasB rg c = true)) out [] → out = rchL (sprS rg true cl) (sprT x zs.length rg true) zs.length) := fun out hg => hg.ends
  have Hcap : Hid (∀ n, (nbL x zs.length true n).length ≤ zs.length) := fun n => nbL_le _ _ _ _
  have hnb : Hid (∀ z, nbL x zs.length true z = nbL x zs.length true z) := fun _ => rfl
  obtain ⟨A, c, rfl⟩ := h.val
  obtain ⟨Aa, ca, rfl⟩ := ha.val
  have hTB0 : Hid (TB (((w.alloc (.cells #[.int .i64 x, .int .i64 y, .slice A zs.length c] 28)).alloc (.cells #[] 3)).alloc (.cells #[.int .i64 cl] 3)) w.heap.size x y (.slice A zs.length c)) := by show TB _ _ _ _ _; unfold TB; simp [go_sem]
  have htw : Hid (Two (((w.alloc (.cells #[.int .i64 x, .int .i64 y, .slice A zs.length c] 28)).alloc (.cells #[] 3)).alloc (.cells #[.int .i64 cl] 3)) (w.heap.size + 1) (.slice (some ⟨w.heap.size + 1, 0, none⟩) 0 0) (.slice (some ⟨w.heap.size + 1 + 1, 0, none⟩) 1 1) [] [cl]) := by
    refine ⟨(Qw.emptyAt (hp2 _ _ _) (Nat.le_refl _)).below (grow_alloc _ _), ?_, fun j hj e => ?_⟩
    · have := Qw.of_own (World.ownsRow_lit (base := w.heap.size + 1) (e := 3) (size := 1) ((w.alloc (.cells #[.int .i64 x, .int .i64 y, .slice A zs.length c] 28)).alloc (.cells #[] 3)) #[.int .i64 cl] 1 (by simp) (by unfold maxLen; omega) rfl)
      simpa using this
    · simp [Value.ownBlock] at hj e
      omega
  have hb0 : Hid (Below w.heap.size w (((w.alloc (.cells #[.int .i64 x, .int .i64 y, .slice A zs.length c] 28)).alloc (.cells #[] 3)).alloc (.cells #[.int .i64 cl] 3))) := grow_trans (two_news _ _ _) (grow_alloc _ _)
  clear h ha
  generalize (GInv zs.length (sprS rg true cl) (sprT x zs.length rg true) (fun c => hasB rg c = true)) = G at *
  generalize rchL (sprS rg true cl) (sprT x zs.length rg true) zs.length = L at *
  generalize zs.length = M at *
  generalize rg.length = K at *
  go_enter Try.func132, Try.ntmps132
  go_wp2
  go_loopg [9, 10] (left M 0 1) (fun gk v q wr => ∃ out next : List Int, Hid (left M out.length next.length ≤ gk) ∧ gk ≤ 675 ∧ Hid (Below w.heap.size w wr) ∧ w.heap.size + 1 < wr.heap.size ∧ Hid (TB wr w.heap.size x y (.slice A M c)) ∧ Hid (Two wr (w.heap.size + 1) v q out next) ∧ Hid (G out next) ∧ Hid (out.length ≤ M))
  case atStart => exact ⟨[], [cl], Nat.le_refl _, left_top hm25 (by omega), hb0.out, by simp, hTB0.out, htw.out, HG0.out, by show _ ≤ _; simp⟩
  case round =>
    obtain ⟨out, next, hle, hle2, hb, hsz, hT, htw, hG, hol⟩ := hrel
    cases next with
    | nil =>
      have hL := Hends.out out hG.out
      have ho := htw.out.ho
      rw [hL] at ho
      have Ho := Lib.hid ho
      obtain ⟨An, cn, rfl⟩ := (Sl.of_q htw.out.hn).val
      clear hL ho
      go_wp2
      go_ret
      exact ⟨_, rfl, Ho.out.lower (Nat.le_succ _), hb.out⟩
    | cons z rest =>
      have hzr := HGr.out out (z :: rest) hG.out z (by simp)
      have hrl : rest.length + 1 ≤ 675 := Nat.le_trans (left_len M out.length (rest.length + 1)) (Nat.le_trans hle.out hle2)
      have Hlf : Hid (left M out.length rest.length < gk) := Nat.lt_of_lt_of_le (left_skip M out.length rest.length) hle.out
      have Hlt : Hid (∀ n, out.length + 1 ≤ M → n ≤ M → left M (out.length + 1) (rest.length + n) < gk) := fun n h1 h2 => Nat.lt_of_lt_of_le (left_take h1 h2) hle.out
      have Hlen2 : Hid (∀ o', G (putL out z) o' → (putL out z).length ≤ M) := fun o' hg => HGl.out _ _ hg
      have Hnew : Hid (hasB out z = false → (putL out z).length = out.length + 1) := fun hh => putL_new (hasB_not.1 hh)
      obtain ⟨g, off, cq, rfl, hc1, hc3, hcell, hpop⟩ := htw.out.pop2
      have Hsk0 : Hid (hasB rg z = !true ∨ z ∈ out → G out rest) := Hskip.out out rest z hG.out
      have Htk0 : Hid (hasB rg z = true → G (putL out z) (rest ++ nbL x M true z)) := Htake.out out rest z hG.out
      have HR := Lib.hid (Hrg.out wr hb.out z)
      clear htw hG hle
      rcases hpop with ⟨hcq, hrn, htw2⟩ | ⟨hcn, htw2⟩
      · subst hcq
        subst hrn
        have hq2 := htw2.ho
        have htw2 := Lib.hid htw2
        have Hh := Lib.hid fun W hW => l1Has_any u9 out z W (Sl.of_q (hq2.below (w' := W) hW))
        have hq2 := Lib.hid hq2
        have hval := (Sl.of_q hq2.out).val
        cases hrz : hasB rg z with
        | false =>
          have hG2 := Lib.hid (Hsk0.out (.inl hrz))
          rw [hrz] at HR
          clear Hsk0 Htk0 hrz
          obtain ⟨Av, cv, rfl⟩ := hval
          go_wp2_with fail
          with_reducible refine HR.out.mono ?_
          rintro e w2 ⟨rfl, rfl⟩
          go_wp2
          go_roundg (left M out.length 0)
          case measure => exact Hlf.out
          case rel => exact ⟨out, [], Nat.le_refl _, Nat.le_trans (Nat.le_of_lt Hlf.out) hle2, hb.out, hsz, hT.out, htw2.out, hG2.out, hol.out⟩
        | true =>
          rw [hrz] at HR
          cases hhas : hasB out z with
          | true =>
            have hG2 := Lib.hid (Hsk0.out (.inr (hasB_iff.1 hhas)))
            rw [hhas] at Hh
            clear Hsk0 Htk0 hhas hrz
            obtain ⟨Av, cv, rfl⟩ := hval
            go_wp2_with fail
            with_reducible refine HR.out.mono ?_
            rintro e w2 ⟨rfl, rfl⟩
            go_wp2_with fail
            with_reducible refine (Hh.out _ (Below.refl _ _)).mono ?_
            rintro e w2 ⟨rfl, rfl⟩
            go_wp2
            go_roundg (left M out.length 0)
            case measure => exact Hlf.out
            case rel => exact ⟨out, [], Nat.le_refl _, Nat.le_trans (Nat.le_of_lt Hlf.out) hle2, hb.out, hsz, hT.out, htw2.out, hG2.out, hol.out⟩
          | false =>
            have hG2 := Lib.hid (Htk0.out hrz)
            have hnew := Hnew.out hhas
            have hpl := Hlen2.out _ hG2.out
            have HP := Lib.hid (l1Put_any u9 out z _ wr hq2.out (by omega) (by omega))
            rw [hhas] at Hh
            clear Hsk0 Htk0 hhas hrz
            obtain ⟨Av, cv, rfl⟩ := hval
            go_wp2_with fail
            with_reducible refine HR.out.mono ?_
            rintro e w2 ⟨rfl, rfl⟩
            go_wp2_with fail
            with_reducible refine (Hh.out _ (Below.refl _ _)).mono ?_
            rintro e w2 ⟨rfl, rfl⟩
            go_wp2_with fail
            with_reducible refine HP.out.mono ?_
            intro e w3 hr3
            have hr3' := hr3
            unfold RetPut at hr3
            obtain ⟨v3, rfl, _, hb3, _⟩ := hr3
            have htw3 := Lib.hid (htw2.out.put hr3')
            have hT3 := Lib.hid (hT.out.below hb3)
            have hs3 := hb3.size
            have hb3 := Lib.hid (grow_trans hb.out hb3)
            have HC := Lib.hid (HN2.out w3 hb3.out z (by omega) (by omega))
            obtain ⟨t0, t1, t2⟩ := hT3.out
            clear hr3' htw2 hq2 Hh HP hT
            go_wp2_with fail
            with_reducible refine HC.out.mono ?_
            rintro e w4 ⟨nr, rfl, on, hb4⟩
            have hcap := Hcap.out z
            have on := Lib.hid (Sl.of_q on)
            have htw4 := Lib.hid (htw3.out.below hb4)
            have hT4 := Lib.hid (hT3.out.below hb4)
            have hs4 := hb4.size
            have hb4 := Lib.hid (grow_trans hb3.out hb4)
            clear htw3 hT3 t0 t1 t2
            generalize nbL x M true z = nl at *
            have Hone := Lib.hid (ints_one nl)
            have Hnl := Lib.hid (Hlt.out nl.length (by omega) hcap)
            go_wp2_with ((at_builtin; refine wpList_append_q _ rfl _ _ 22 rfl (w.heap.size + 1) 3 i0 (.int .i64 0) 1 8 Try.underlying22 hi hz0 hz1 hz2 rfl (by decide) _ _ _ rfl htw4.out.hn _ _ _ rfl on.out Hone.out (by unfold maxLen; omega) (by omega) (by omega) ?_))
            intro vA wA hqA hgA hdA
            have htw5 := Lib.hid (Two.add (next := []) (nb := nl) htw4.out (by simpa using hqA) hgA hdA)
            have hb5 := Lib.hid (hb4.out.grown hgA (by omega) (fun j hj => by have := (htw4.out.hn.lt j hj).1; omega))
            have hT5 := Lib.hid (hT4.out.kept hgA (fun e => by have := (htw4.out.hn.lt _ e.symm).1; omega))
            have hs5 := hgA.size
            clear hqA hgA hdA
            go_wp2
            go_roundg (left M (out.length + 1) (0 + nl.length))
            case measure => exact Hnl.out
            case rel => exact ⟨putL out z, [] ++ nl, by show left _ _ _ ≤ _; rw [hnew, List.length_append]; exact Nat.le_refl _, Nat.le_trans (Nat.le_of_lt Hnl.out) hle2, hb5.out, by omega, hT5.out, htw5.out, hG2.out, hpl⟩
      · have hq2 := htw2.ho
        have htw2 := Lib.hid htw2
        have Hh := Lib.hid fun W hW => l1Has_any u9 out z W (Sl.of_q (hq2.below (w' := W) hW))
        have hq2 := Lib.hid hq2
        have hval := (Sl.of_q hq2.out).val
        cases hrz : hasB rg z with
        | false =>
          have hG2 := Lib.hid (Hsk0.out (.inl hrz))
          rw [hrz] at HR
          clear Hsk0 Htk0 hrz
          obtain ⟨Av, cv, rfl⟩ := hval
          go_wp2_with fail
          with_reducible refine HR.out.mono ?_
          rintro e w2 ⟨rfl, rfl⟩
          go_wp2
          go_roundg (left M out.length rest.length)
          case measure => exact Hlf.out
          case rel => exact ⟨out, rest, Nat.le_refl _, Nat.le_trans (Nat.le_of_lt Hlf.out) hle2, hb.out, hsz, hT.out, htw2.out, hG2.out, hol.out⟩
        | true =>
          rw [hrz] at HR
          cases hhas : hasB out z with
          | true =>
            have hG2 := Lib.hid (Hsk0.out (.inr (hasB_iff.1 hhas)))
            rw [hhas] at Hh
            clear Hsk0 Htk0 hhas hrz
            obtain ⟨Av, cv, rfl⟩ := hval
            go_wp2_with fail
            with_reducible refine HR.out.mono ?_
            rintro e w2 ⟨rfl, rfl⟩
            go_wp2_with fail
            with_reducible refine (Hh.out _ (Below.refl _ _)).mono ?_
            rintro e w2 ⟨rfl, rfl⟩
            go_wp2
            go_roundg (left M out.length rest.length)
            case measure => exact Hlf.out
            case rel => exact ⟨out, rest, Nat.le_refl _, Nat.le_trans (Nat.le_of_lt Hlf.out) hle2, hb.out, hsz, hT.out, htw2.out, hG2.out, hol.out⟩
          | false =>
            have hG2 := Lib.hid (Htk0.out hrz)
            have hnew := Hnew.out hhas
            have hpl := Hlen2.out _ hG2.out
            have HP := Lib.hid (l1Put_any u9 out z _ wr hq2.out (by omega) (by omega))
            rw [hhas] at Hh
            clear Hsk0 Htk0 hhas hrz
            obtain ⟨Av, cv, rfl⟩ := hval
            go_wp2_with fail
            with_reducible refine HR.out.mono ?_
            rintro e w2 ⟨rfl, rfl⟩
            go_wp2_with fail
            with_reducible refine (Hh.out _ (Below.refl _ _)).mono ?_
            rintro e w2 ⟨rfl, rfl⟩
            go_wp2_with fail
            with_reducible refine HP.out.mono ?_
            intro e w3 hr3
            have hr3' := hr3
            unfold RetPut at hr3
            obtain ⟨v3, rfl, _, hb3, _⟩ := hr3
            have htw3 := Lib.hid (htw2.out.put hr3')
            have hT3 := Lib.hid (hT.out.below hb3)
            have hs3 := hb3.size
            have hb3 := Lib.hid (grow_trans hb.out hb3)
            have HC := Lib.hid (HN2.out w3 hb3.out z (by omega) (by omega))
            obtain ⟨t0, t1, t2⟩ := hT3.out
            clear hr3' htw2 hq2 Hh HP hT
            go_wp2_with fail
            with_reducible refine HC.out.mono ?_
            rintro e w4 ⟨nr, rfl, on, hb4⟩
            have hcap := Hcap.out z
            have on := Lib.hid (Sl.of_q on)
            have htw4 := Lib.hid (htw3.out.below hb4)
            have hT4 := Lib.hid (hT3.out.below hb4)
            have hs4 := hb4.size
            have hb4 := Lib.hid (grow_trans hb3.out hb4)
            clear htw3 hT3 t0 t1 t2
            generalize nbL x M true z = nl at *
            have Hone := Lib.hid (ints_one nl)
            have Hnl := Lib.hid (Hlt.out nl.length (by omega) hcap)
            go_wp2_with ((at_builtin; refine wpList_append_q _ rfl _ _ 22 rfl (w.heap.size + 1) 3 i0 (.int .i64 0) 1 8 Try.underlying22 hi hz0 hz1 hz2 rfl (by decide) _ _ _ rfl htw4.out.hn _ _ _ rfl on.out Hone.out (by unfold maxLen; omega) (by omega) (by omega) ?_))
            intro vA wA hqA hgA hdA
            have htw5 := Lib.hid (Two.add (next := rest) (nb := nl) htw4.out (by simpa using hqA) hgA hdA)
            have hb5 := Lib.hid (hb4.out.grown hgA (by omega) (fun j hj => by have := (htw4.out.hn.lt j hj).1; omega))
            have hT5 := Lib.hid (hT4.out.kept hgA (fun e => by have := (htw4.out.hn.lt _ e.symm).1; omega))
            have hs5 := hgA.size
            clear hqA hgA hdA
            go_wp2
            go_roundg (left M (out.length + 1) (rest.length + nl.length))
            case measure => exact Hnl.out
            case rel => exact ⟨putL out z, rest ++ nl, by show left _ _ _ ≤ _; rw [hnew, List.length_append]; exact Nat.le_refl _, Nat.le_trans (Nat.le_of_lt Hnl.out) hle2, hb5.out, by omega, hT5.out, htw5.out, hG2.out, hpl⟩
set_option maxHeartbeats 4000000 in
theorem l6Spread_out_any (x y : Int) (u : Value) (zs : List Int) (va : Value) (rg : List Int) (cl : Int) (w : World) (h : Sl w 1 u zs.length (ints zs)) (ha : Sl w 1 va rg.length (ints rg)) (h1 : 1 ≤ x) (h2 : x ≤ 5) (hm25 : zs.length ≤ 25) (hc0 : 0 ≤ cl) (hcN : cl ≤ (zs.length : Int) - 1) :
    Calls Try.prog 132 #[terrV x y u, va, .int .i64 cl, .bool false] w (RetQ w 3 1 (rchL (sprS rg false cl) (sprT x zs.length rg false) zs.length).length (ints (rchL (sprS rg false cl) (sprT x zs.length rg false) zs.length))) := by
  obtain ⟨i0, hi, hz0, hz1, hz2⟩ := info_parts info_int
  have Hrg := Lib.hid fun W hW z => l1Has_any va rg z W (ha.below (w' := W) hW)
  have HN2 : Hid (∀ W, Below w.heap.size w W → ∀ z : Int, 0 ≤ z → z ≤ 25 → Calls Try.prog 169 #[terrV x y u, .int .i64 z] W (RetQ W 3 1 (nbL x zs.length false z).length (ints (nbL x zs.length false z)))) := fun W hW z h3 h4 => (id (l6Sides_any x y u zs z W (h.below hW) h1 h2 h3 h4 (by omega)))
  have HG0 : Hid ((GInv zs.length (sprS rg false cl) (sprT x zs.length rg false) (fun c => hasB rg c = false)) [] [cl]) := GInv.begin (fun z hz => (by have e : z = cl := (by simpa using hz); omega)) (fun c hc => by simp [hc.1]) (fun c hc ho => ⟨by simpa using hc, ho⟩)
  have Hskip : Hid (∀ (out rest : List Int) (z : Int), (GInv zs.length (sprS rg false cl) (sprT x zs.length rg false) (fun c => hasB rg c = false)) out (z :: rest) → (hasB rg z = !false ∨ z ∈ out) → (GInv zs.length (sprS rg false cl) (sprT x zs.length rg false) (fun c => hasB rg c = false)) out rest) :=
    fun out rest z hg hz => hg.skip (fun c hc => hc.2) (fun a b hs => hs.2) (by rcases hz with e | e; exact .inl (by simp [e]); exact .inr e)
  have Htake : Hid (∀ (out rest : List Int) (z : Int), (GInv zs.length (sprS rg false cl) (sprT x zs.length rg false) (fun c => hasB rg c = false)) out (z :: rest) → hasB rg z = false → (GInv zs.length (sprS rg false cl) (sprT x zs.length rg false) (fun c => hasB rg c = false)) (putL out z) (rest ++ nbL x zs.length false z)) :=
    fun out rest z hg hz => hg.take hz nbL_in (fun b hb ho => ⟨hb, ho⟩) (fun b hs => hs.1)
  have HGr : Hid (∀ out next, (GInv zs.length (sprS rg false cl) (sprT x zs.length rg false) (fun c => hasB rg c = false)) out next → ∀ z ∈ next, 0 ≤ z ∧ z ≤ (zs.length : Int) - 1) := fun _ _ hg => hg.r2
  have HGl : Hid (∀ out next, (GInv zs.length (sprS rg false cl) (sprT x zs.length rg false) (fun c => hasB rg c = false)) out next → out.length ≤ zs.length) := fun _ _ hg => hg.rise.lenN hg.r1
  have Hends : Hid (∀ out, (GInv zs.length (sprS rg false cl) (sprT x zs.length rg false) (fun c => hasB rg c = false)) out [] → out = rchL (sprS rg false cl) (sprT x zs.length rg false) zs.length) := fun out hg => hg.ends
  have Hcap : Hid (∀ n, (nbL x zs.length false n).length ≤ zs.length) := fun n => nbL_le _ _ _ _
  have hnb : Hid (∀ z, nbL x zs.length false z = nbL x zs.length false z) := fun _ => rfl
  obtain ⟨A, c, rfl⟩ := h.val
  obtain ⟨Aa, ca, rfl⟩ := ha.val
  have hTB0 : Hid (TB (((w.alloc (.cells #[.int .i64 x, .int .i64 y, .slice A zs.length c] 28)).alloc (.cells #[] 3)).alloc (.cells #[.int .i64 cl] 3)) w.heap.size x y (.slice A zs.length c)) := by show TB _ _ _ _ _; unfold TB; simp [go_sem]
  have htw : Hid (Two (((w.alloc (.cells #[.int .i64 x, .int .i64 y, .slice A zs.length c] 28)).alloc (.cells #[] 3)).alloc (.cells #[.int .i64 cl] 3)) (w.heap.size + 1) (.slice (some ⟨w.heap.size + 1, 0, none⟩) 0 0) (.slice (some ⟨w.heap.size + 1 + 1, 0, none⟩) 1 1) [] [cl]) := by
    refine ⟨(Qw.emptyAt (hp2 _ _ _) (Nat.le_refl _)).below (grow_alloc _ _), ?_, fun j hj e => ?_⟩
    · have := Qw.of_own (World.ownsRow_lit (base := w.heap.size + 1) (e := 3) (size := 1) ((w.alloc (.cells #[.int .i64 x, .int .i64 y, .slice A zs.length c] 28)).alloc (.cells #[] 3)) #[.int .i64 cl] 1 (by simp) (by unfold maxLen; omega) rfl)
      simpa using this
    · simp [Value.ownBlock] at hj e
      omega
  have hb0 : Hid (Below w.heap.size w (((w.alloc (.cells #[.int .i64 x, .int .i64 y, .slice A zs.length c] 28)).alloc (.cells #[] 3)).alloc (.cells #[.int .i64 cl] 3))) := grow_trans (two_news _ _ _) (grow_alloc _ _)
  clear h ha
  generalize (GInv zs.length (sprS rg false cl) (sprT x zs.length rg false) (fun c => hasB rg c = false)) = G at *
  generalize rchL (sprS rg false cl) (sprT x zs.length rg false) zs.length = L at *
  generalize zs.length = M at *
  generalize rg.length = K at *
  go_enter Try.func132, Try.ntmps132
  go_wp2
  go_loopg [9, 10] (left M 0 1) (fun gk v q wr => ∃ out next : List Int, Hid (left M out.length next.length ≤ gk) ∧ gk ≤ 675 ∧ Hid (Below w.heap.size w wr) ∧ w.heap.size + 1 < wr.heap.size ∧ Hid (TB wr w.heap.size x y (.slice A M c)) ∧ Hid (Two wr (w.heap.size + 1) v q out next) ∧ Hid (G out next) ∧ Hid (out.length ≤ M))
  case atStart => exact ⟨[], [cl], Nat.le_refl _, left_top hm25 (by omega), hb0.out, by simp, hTB0.out, htw.out, HG0.out, by show _ ≤ _; simp⟩
  case round =>
    obtain ⟨out, next, hle, hle2, hb, hsz, hT, htw, hG, hol⟩ := hrel
    cases next with
    | nil =>
      have hL := Hends.out out hG.out
      have ho := htw.out.ho
      rw [hL] at ho
      have Ho := Lib.hid ho
      obtain ⟨An, cn, rfl⟩ := (Sl.of_q htw.out.hn).val
      clear hL ho
      go_wp2
      go_ret
      exact ⟨_, rfl, Ho.out.lower (Nat.le_succ _), hb.out⟩
    | cons z rest =>
      have hzr := HGr.out out (z :: rest) hG.out z (by simp)
      have hrl : rest.length + 1 ≤ 675 := Nat.le_trans (left_len M out.length (rest.length + 1)) (Nat.le_trans hle.out hle2)
      have Hlf : Hid (left M out.length rest.length < gk) := Nat.lt_of_lt_of_le (left_skip M out.length rest.length) hle.out
      have Hlt : Hid (∀ n, out.length + 1 ≤ M → n ≤ M → left M (out.length + 1) (rest.length + n) < gk) := fun n h1 h2 => Nat.lt_of_lt_of_le (left_take h1 h2) hle.out
      have Hlen2 : Hid (∀ o', G (putL out z) o' → (putL out z).length ≤ M) := fun o' hg => HGl.out _ _ hg
      have Hnew : Hid (hasB out z = false → (putL out z).length = out.length + 1) := fun hh => putL_new (hasB_not.1 hh)
      obtain ⟨g, off, cq, rfl, hc1, hc3, hcell, hpop⟩ := htw.out.pop2
      have Hsk0 : Hid (hasB rg z = !false ∨ z ∈ out → G out rest) := Hskip.out out rest z hG.out
      have Htk0 : Hid (hasB rg z = false → G (putL out z) (rest ++ nbL x M false z)) := Htake.out out rest z hG.out
      have HR := Lib.hid (Hrg.out wr hb.out z)
      clear htw hG hle
      rcases hpop with ⟨hcq, hrn, htw2⟩ | ⟨hcn, htw2⟩
      · subst hcq
        subst hrn
        have hq2 := htw2.ho
        have htw2 := Lib.hid htw2
        have Hh := Lib.hid fun W hW => l1Has_any u9 out z W (Sl.of_q (hq2.below (w' := W) hW))
        have hq2 := Lib.hid hq2
        have hval := (Sl.of_q hq2.out).val
        cases hrz : hasB rg z with
        | true =>
          have hG2 := Lib.hid (Hsk0.out (.inl hrz))
          rw [hrz] at HR
          clear Hsk0 Htk0 hrz
          obtain ⟨Av, cv, rfl⟩ := hval
          go_wp2_with fail
          with_reducible refine HR.out.mono ?_
          rintro e w2 ⟨rfl, rfl⟩
          go_wp2
          go_roundg (left M out.length 0)
          case measure => exact Hlf.out
          case rel => exact ⟨out, [], Nat.le_refl _, Nat.le_trans (Nat.le_of_lt Hlf.out) hle2, hb.out, hsz, hT.out, htw2.out, hG2.out, hol.out⟩
        | false =>
          rw [hrz] at HR
          cases hhas : hasB out z with
          | true =>
            have hG2 := Lib.hid (Hsk0.out (.inr (hasB_iff.1 hhas)))
            rw [hhas] at Hh
            clear Hsk0 Htk0 hhas hrz
            obtain ⟨Av, cv, rfl⟩ := hval
            go_wp2_with fail
            with_reducible refine HR.out.mono ?_
            rintro e w2 ⟨rfl, rfl⟩
            go_wp2_with fail
            with_reducible refine (Hh.out _ (Below.refl _ _)).mono ?_
            rintro e w2 ⟨rfl, rfl⟩
            go_wp2
            go_roundg (left M out.length 0)
            case measure => exact Hlf.out
            case rel => exact ⟨out, [], Nat.le_refl _, Nat.le_trans (Nat.le_of_lt Hlf.out) hle2, hb.out, hsz, hT.out, htw2.out, hG2.out, hol.out⟩
          | false =>
            have hG2 := Lib.hid (Htk0.out hrz)
            have hnew := Hnew.out hhas
            have hpl := Hlen2.out _ hG2.out
            have HP := Lib.hid (l1Put_any u9 out z _ wr hq2.out (by omega) (by omega))
            rw [hhas] at Hh
            clear Hsk0 Htk0 hhas hrz
            obtain ⟨Av, cv, rfl⟩ := hval
            go_wp2_with fail
            with_reducible refine HR.out.mono ?_
            rintro e w2 ⟨rfl, rfl⟩
            go_wp2_with fail
            with_reducible refine (Hh.out _ (Below.refl _ _)).mono ?_
            rintro e w2 ⟨rfl, rfl⟩
            go_wp2_with fail
            with_reducible refine HP.out.mono ?_
            intro e w3 hr3
            have hr3' := hr3
            unfold RetPut at hr3
            obtain ⟨v3, rfl, _, hb3, _⟩ := hr3
            have htw3 := Lib.hid (htw2.out.put hr3')
            have hT3 := Lib.hid (hT.out.below hb3)
            have hs3 := hb3.size
            have hb3 := Lib.hid (grow_trans hb.out hb3)
            have HC := Lib.hid (HN2.out w3 hb3.out z (by omega) (by omega))
            obtain ⟨t0, t1, t2⟩ := hT3.out
            clear hr3' htw2 hq2 Hh HP hT
            go_wp2_with fail
            with_reducible refine HC.out.mono ?_
            rintro e w4 ⟨nr, rfl, on, hb4⟩
            have hcap := Hcap.out z
            have on := Lib.hid (Sl.of_q on)
            have htw4 := Lib.hid (htw3.out.below hb4)
            have hT4 := Lib.hid (hT3.out.below hb4)
            have hs4 := hb4.size
            have hb4 := Lib.hid (grow_trans hb3.out hb4)
            clear htw3 hT3 t0 t1 t2
            generalize nbL x M false z = nl at *
            have Hone := Lib.hid (ints_one nl)
            have Hnl := Lib.hid (Hlt.out nl.length (by omega) hcap)
            go_wp2_with ((at_builtin; refine wpList_append_q _ rfl _ _ 22 rfl (w.heap.size + 1) 3 i0 (.int .i64 0) 1 8 Try.underlying22 hi hz0 hz1 hz2 rfl (by decide) _ _ _ rfl htw4.out.hn _ _ _ rfl on.out Hone.out (by unfold maxLen; omega) (by omega) (by omega) ?_))
            intro vA wA hqA hgA hdA
            have htw5 := Lib.hid (Two.add (next := []) (nb := nl) htw4.out (by simpa using hqA) hgA hdA)
            have hb5 := Lib.hid (hb4.out.grown hgA (by omega) (fun j hj => by have := (htw4.out.hn.lt j hj).1; omega))
            have hT5 := Lib.hid (hT4.out.kept hgA (fun e => by have := (htw4.out.hn.lt _ e.symm).1; omega))
            have hs5 := hgA.size
            clear hqA hgA hdA
            go_wp2
            go_roundg (left M (out.length + 1) (0 + nl.length))
            case measure => exact Hnl.out
            case rel => exact ⟨putL out z, [] ++ nl, by show left _ _ _ ≤ _; rw [hnew, List.length_append]; exact Nat.le_refl _, Nat.le_trans (Nat.le_of_lt Hnl.out) hle2, hb5.out, by omega, hT5.out, htw5.out, hG2.out, hpl⟩
      · have hq2 := htw2.ho
        have htw2 := Lib.hid htw2
        have Hh := Lib.hid fun W hW => l1Has_any u9 out z W (Sl.of_q (hq2.below (w' := W) hW))
        have hq2 := Lib.hid hq2
        have hval := (Sl.of_q hq2.out).val
        cases hrz : hasB rg z with
        | true =>
          have hG2 := Lib.hid (Hsk0.out (.inl hrz))
          rw [hrz] at HR
          clear Hsk0 Htk0 hrz
          obtain ⟨Av, cv, rfl⟩ := hval
          go_wp2_with fail
          with_reducible refine HR.out.mono ?_
          rintro e w2 ⟨rfl, rfl⟩
          go_wp2
          go_roundg (left M out.length rest.length)
          case measure => exact Hlf.out
          case rel => exact ⟨out, rest, Nat.le_refl _, Nat.le_trans (Nat.le_of_lt Hlf.out) hle2, hb.out, hsz, hT.out, htw2.out, hG2.out, hol.out⟩
        | false =>
          rw [hrz] at HR
          cases hhas : hasB out z with
          | true =>
            have hG2 := Lib.hid (Hsk0.out (.inr (hasB_iff.1 hhas)))
            rw [hhas] at Hh
            clear Hsk0 Htk0 hhas hrz
            obtain ⟨Av, cv, rfl⟩ := hval
            go_wp2_with fail
            with_reducible refine HR.out.mono ?_
            rintro e w2 ⟨rfl, rfl⟩
            go_wp2_with fail
            with_reducible refine (Hh.out _ (Below.refl _ _)).mono ?_
            rintro e w2 ⟨rfl, rfl⟩
            go_wp2
            go_roundg (left M out.length rest.length)
            case measure => exact Hlf.out
            case rel => exact ⟨out, rest, Nat.le_refl _, Nat.le_trans (Nat.le_of_lt Hlf.out) hle2, hb.out, hsz, hT.out, htw2.out, hG2.out, hol.out⟩
          | false =>
            have hG2 := Lib.hid (Htk0.out hrz)
            have hnew := Hnew.out hhas
            have hpl := Hlen2.out _ hG2.out
            have HP := Lib.hid (l1Put_any u9 out z _ wr hq2.out (by omega) (by omega))
            rw [hhas] at Hh
            clear Hsk0 Htk0 hhas hrz
            obtain ⟨Av, cv, rfl⟩ := hval
            go_wp2_with fail
            with_reducible refine HR.out.mono ?_
            rintro e w2 ⟨rfl, rfl⟩
            go_wp2_with fail
            with_reducible refine (Hh.out _ (Below.refl _ _)).mono ?_
            rintro e w2 ⟨rfl, rfl⟩
            go_wp2_with fail
            with_reducible refine HP.out.mono ?_
            intro e w3 hr3
            have hr3' := hr3
            unfold RetPut at hr3
            obtain ⟨v3, rfl, _, hb3, _⟩ := hr3
            have htw3 := Lib.hid (htw2.out.put hr3')
            have hT3 := Lib.hid (hT.out.below hb3)
            have hs3 := hb3.size
            have hb3 := Lib.hid (grow_trans hb.out hb3)
            have HC := Lib.hid (HN2.out w3 hb3.out z (by omega) (by omega))
            obtain ⟨t0, t1, t2⟩ := hT3.out
            clear hr3' htw2 hq2 Hh HP hT
            go_wp2_with fail
            with_reducible refine HC.out.mono ?_
            rintro e w4 ⟨nr, rfl, on, hb4⟩
            have hcap := Hcap.out z
            have on := Lib.hid (Sl.of_q on)
            have htw4 := Lib.hid (htw3.out.below hb4)
            have hT4 := Lib.hid (hT3.out.below hb4)
            have hs4 := hb4.size
            have hb4 := Lib.hid (grow_trans hb3.out hb4)
            clear htw3 hT3 t0 t1 t2
            generalize nbL x M false z = nl at *
            have Hone := Lib.hid (ints_one nl)
            have Hnl := Lib.hid (Hlt.out nl.length (by omega) hcap)
            go_wp2_with ((at_builtin; refine wpList_append_q _ rfl _ _ 22 rfl (w.heap.size + 1) 3 i0 (.int .i64 0) 1 8 Try.underlying22 hi hz0 hz1 hz2 rfl (by decide) _ _ _ rfl htw4.out.hn _ _ _ rfl on.out Hone.out (by unfold maxLen; omega) (by omega) (by omega) ?_))
            intro vA wA hqA hgA hdA
            have htw5 := Lib.hid (Two.add (next := rest) (nb := nl) htw4.out (by simpa using hqA) hgA hdA)
            have hb5 := Lib.hid (hb4.out.grown hgA (by omega) (fun j hj => by have := (htw4.out.hn.lt j hj).1; omega))
            have hT5 := Lib.hid (hT4.out.kept hgA (fun e => by have := (htw4.out.hn.lt _ e.symm).1; omega))
            have hs5 := hgA.size
            clear hqA hgA hdA
            go_wp2
            go_roundg (left M (out.length + 1) (rest.length + nl.length))
            case measure => exact Hnl.out
            case rel => exact ⟨putL out z, rest ++ nl, by show left _ _ _ ≤ _; rw [hnew, List.length_append]; exact Nat.le_refl _, Nat.le_trans (Nat.le_of_lt Hnl.out) hle2, hb5.out, by omega, hT5.out, htw5.out, hG2.out, hpl⟩
end Go.Proofs.Ytefampjmbjbhcaa
