/- The program's flood, walked. Conditions: as each states. -/
import Derived.Test.YtefampjmbjbhcaaFlood
namespace Go.Proofs.Ytefampjmbjbhcaa
open Go.ChangeShapes Go.WideShapes Go.ChangeAt Go.RowKit Go.Deep
set_option linter.unusedVariables false
set_option linter.unusedSimpArgs false
set_option maxRecDepth 100000

theorem marks_step {sb : List Bool} {cs : List Int} {N k c : Nat} (hl : sb.length = N) (hc : c < N) (hk : cs[k]? = some (c : Int)) (h : ∀ j : Nat, sb[j]? = some true ↔ (j : Int) ∈ cs.take k) : ∀ j : Nat, (sb.set c true)[j]? = some true ↔ (j : Int) ∈ cs.take (k + 1) := by
  intro j
  obtain ⟨hk', e⟩ := List.getElem?_eq_some_iff.1 hk
  rw [List.take_succ_eq_append_getElem hk', List.mem_append, ← h j, e, List.mem_singleton, List.getElem?_set]
  by_cases hj : c = j
  · subst hj
    have : c < sb.length := by omega
    simp [this]
  · rw [if_neg hj]
    exact ⟨fun h => .inl h, fun h => by rcases h with h | h; exact h; omega⟩
theorem made_bools (N : Nat) : (madeCells #[Value.bool false] N).toList = (List.replicate N false).map Value.bool := by
  unfold madeCells
  apply List.ext_getElem (by simp)
  intro i h1 h2
  simp [Nat.mod_one]
set_option maxHeartbeats 8000000 in
theorem flood_any (x y : Int) (u : Value) (zs : List Int) (va : Value) (cs : List Int) (g : Nat) (lb : Array Value) (stB : Int → Int → Bool) (w : World) (h : Sl w 1 u zs.length (ints zs)) (ha : Sl w 1 va cs.length (ints cs))
    (hm25 : zs.length ≤ 25) (hcl : cs.length ≤ 25) (hcs : ∀ z ∈ cs, 0 ≤ z ∧ z ≤ (zs.length : Int) - 1)
    (eg : ∀ args w, (callFunc g args).run Try.prog w = .ok (.enter g args) w)
    (hp : ∀ (W : World) (a b : Int), 0 ≤ a → a ≤ (zs.length : Int) - 1 → 0 ≤ b → b ≤ (zs.length : Int) - 1 → Below w.heap.size w W → Calls Try.prog g (#[.int .i64 a, .int .i64 b] ++ lb) W fun e w' => e = .returned (.bool (stB a b)) ∧ Below W.heap.size W w') :
    Calls Try.prog 175 #[terrV x y u, va, .func (.func g) #[] lb] w
      (RetOwn w 3 1 (rchL (fun c => c ∈ cs) (fun a b => (0 ≤ b ∧ b ≤ (zs.length : Int) - 1) ∧ stB a b = true) zs.length).length (ints (rchL (fun c => c ∈ cs) (fun a b => (0 ≤ b ∧ b ≤ (zs.length : Int) - 1) ∧ stB a b = true) zs.length))) := by
  obtain ⟨i0, hi, hz0, hz1, hz2⟩ := info_parts info_int
  obtain ⟨j0, hj, hy0, hy1, hy2⟩ := info_parts info_bool
  have Hs := Lib.hid fun W hW => ha.below (w' := W) hW
  have HU := Lib.hid fun W hW => h.below (w' := W) hW
  have HO := Lib.hid fun W hW hn => copyOf_int_any va cs W (ha.below (w' := W) hW) hn
  have hst : ∀ a b, (fun a b => (0 ≤ b ∧ b ≤ (zs.length : Int) - 1) ∧ stB a b = true) a b → 0 ≤ b ∧ b ≤ (zs.length : Int) - 1 := fun a b h => h.1
  have HB : Hid (∀ sb : List Bool, sb.length = zs.length → (∀ k : Nat, sb[k]? = some true ↔ (k : Int) ∈ cs) → FInv zs.length (fun c => c ∈ cs) (fun a b => (0 ≤ b ∧ b ≤ (zs.length : Int) - 1) ∧ stB a b = true) sb cs) := fun sb h1 h2 => FInv.begin h1 hcs h2
  have HP : Hid (∀ sb a rest, FInv zs.length (fun c => c ∈ cs) (fun a b => (0 ≤ b ∧ b ≤ (zs.length : Int) - 1) ∧ stB a b = true) sb (a :: rest) → FMid zs.length (fun c => c ∈ cs) (fun a b => (0 ≤ b ∧ b ≤ (zs.length : Int) - 1) ∧ stB a b = true) a 0 sb rest) := fun sb a rest hf => hf.pop hst
  have HE : Hid (∀ sb a todo, FMid zs.length (fun c => c ∈ cs) (fun a b => (0 ≤ b ∧ b ≤ (zs.length : Int) - 1) ∧ stB a b = true) a zs.length sb todo → FInv zs.length (fun c => c ∈ cs) (fun a b => (0 ≤ b ∧ b ≤ (zs.length : Int) - 1) ∧ stB a b = true) sb todo) := fun sb a todo hf => hf.ends hst
  have HX : Hid (∀ sb, FInv zs.length (fun c => c ∈ cs) (fun a b => (0 ≤ b ∧ b ≤ (zs.length : Int) - 1) ∧ stB a b = true) sb [] → selN (fun k => sb.getD k false) zs.length = rchL (fun c => c ∈ cs) (fun a b => (0 ≤ b ∧ b ≤ (zs.length : Int) - 1) ∧ stB a b = true) zs.length) := fun sb hf => hf.ends
  have HPS : Hid (∀ sb a todo (i : Nat), i < zs.length → FMid zs.length (fun c => c ∈ cs) (fun a b => (0 ≤ b ∧ b ≤ (zs.length : Int) - 1) ∧ stB a b = true) a i sb todo → (sb[i]? = some true ∨ stB a i = false) → FMid zs.length (fun c => c ∈ cs) (fun a b => (0 ≤ b ∧ b ≤ (zs.length : Int) - 1) ∧ stB a b = true) a (i + 1) sb todo) :=
    fun sb a todo i hi hf hh => hf.pass (by rcases hh with hh | hh; exact .inl (fnd_nat.2 hh); exact .inr (fun h2 => by rw [hh] at h2; cases h2.2))
  have HFD : Hid (∀ sb a todo (i : Nat), i < zs.length → FMid zs.length (fun c => c ∈ cs) (fun a b => (0 ≤ b ∧ b ≤ (zs.length : Int) - 1) ∧ stB a b = true) a i sb todo → stB a i = true → FMid zs.length (fun c => c ∈ cs) (fun a b => (0 ≤ b ∧ b ≤ (zs.length : Int) - 1) ∧ stB a b = true) a (i + 1) (sb.set i true) (todo ++ [(i : Int)])) :=
    fun sb a todo i hi hf hh => hf.find hi ⟨by omega, hh⟩
  have HI : Hid (∀ sb todo, FInv zs.length (fun c => c ∈ cs) (fun a b => (0 ≤ b ∧ b ≤ (zs.length : Int) - 1) ∧ stB a b = true) sb todo → sb.length = zs.length ∧ ∀ z ∈ todo, 0 ≤ z ∧ z ≤ (zs.length : Int) - 1) := fun sb todo hf => ⟨hf.len, hf.r2⟩
  have HIM : Hid (∀ sb a i todo, FMid zs.length (fun c => c ∈ cs) (fun a b => (0 ≤ b ∧ b ≤ (zs.length : Int) - 1) ∧ stB a b = true) a i sb todo → sb.length = zs.length) := fun sb a i todo hf => hf.len
  have Hp := Lib.hid hp
  have Hcs := Lib.hid hcs
  have HSel : Hid (∀ W (sb : List Bool) (S P : Nat), Below w.heap.size w W → sb.length = zs.length → W.cell? ⟨P, 0, none⟩ = some (.slice (some ⟨S, 0, none⟩) zs.length zs.length) → (∀ k, k < zs.length → W.cell? ⟨S, k, none⟩ = some (.bool (sb.getD k false))) →
      Calls Try.prog 81 #[terrV x y u, .func (.func 198) #[] #[.pointer (some ⟨P, 0, none⟩)]] W (RetOwn W 3 1 (selN (fun k => sb.getD k false) zs.length).length (ints (selN (fun k => sb.getD k false) zs.length)))) := by
    show ∀ W, _
    intro W sb S P hW hl hv hs
    exact cellsThat_any x y u zs 198 #[] #[.pointer (some ⟨P, 0, none⟩)] (fun k => sb.getD k false) W (h.below hW) (by omega) callFunc_flood1
      (fun W' k hk hW' => by
        have := flood1_any S P zs.length sb k W' (cell_below hv hW') hk hl hm25 (cell_below (hs k hk) hW')
        simpa using this)
  obtain ⟨A, c, rfl⟩ := h.val
  obtain ⟨Aa, ca, rfl⟩ := ha.val
  have hTB0 : Hid (TB (w.alloc (.cells #[.int .i64 x, .int .i64 y, .slice A zs.length c] 28)) w.heap.size x y (.slice A zs.length c)) := by show TB _ _ _ _ _; unfold TB; simp [go_sem]
  have hb0 : Hid (Below w.heap.size w (w.alloc (.cells #[.int .i64 x, .int .i64 y, .slice A zs.length c] 28))) := grow_alloc _ _
  clear h ha hcs hp hst
  generalize FInv zs.length (fun c => c ∈ cs) (fun a b => (0 ≤ b ∧ b ≤ (zs.length : Int) - 1) ∧ stB a b = true) = FI at *
  generalize FMid zs.length (fun c => c ∈ cs) (fun a b => (0 ≤ b ∧ b ≤ (zs.length : Int) - 1) ∧ stB a b = true) = FM at *
  generalize rchL (fun c => c ∈ cs) (fun a b => (0 ≤ b ∧ b ≤ (zs.length : Int) - 1) ∧ stB a b = true) zs.length = L at *
  generalize zs.length = N at *
  generalize hK : cs.length = K at *
  have HK := Lib.hid hK
  clear hK
  have hby : j0.bytes * N ≤ 281474976710656 := by rw [hy2]; omega
  have hmx : N ≤ maxLen := by unfold maxLen; omega
  go_enter Try.func175, Try.ntmps175
  go_wp2_with (at_make; refine wpList_make_full _ rfl _ _ 157 rfl (w.heap.size + 1) 4 j0 (.bool false) 1 Try.underlying157 hj hy0 hy1 _ _ _ _ N rfl rfl rfl rfl hby hmx (by simp) ?_)
  intro w1 hown hgrow
  rw [made_bools] at hown
  have hb1 := hb0.out.grown hgrow (by simp) (by simp)
  have hT1 := hTB0.out.kept hgrow (by simp)
  have hs1 := (hown.lt _ rfl).2
  have hF0 : Hid (Fl w (w1.alloc (.cells #[.slice (some ⟨w.heap.size + 1, 0, none⟩) N N] 157)) x y (.slice A N c) (w.heap.size + 1) w1.heap.size N (List.replicate N false)) :=
    ⟨hb1.alloc hb1.size _, hT1.below (grow_alloc _ _), by simp [go_sem], own_below hown (grow_alloc _ _)⟩
  have hsw : (w1.alloc (.cells #[.slice (some ⟨w.heap.size + 1, 0, none⟩) N N] 157)).heap.size = w1.heap.size + 1 := by simp
  have HSW := Lib.hid hsw
  clear hown hgrow hb1 hT1 hTB0 hb0 hsw
  go_wp2_with fail
  with_reducible refine (HO.out _ hF0.out.hb (by omega)).mono ?_
  rintro e w2 ⟨q0, rfl, hq2, hb2⟩
  have hF2 := Lib.hid (hF0.out.below hb2)
  have hs2 : w1.heap.size + 1 ≤ w2.heap.size := by have := hb2.size; rw [HSW.out] at this; exact this
  have hq2 : Hid (Qw w2 (w1.heap.size + 1) 3 1 q0 K (ints cs)) := by rw [HSW.out] at hq2; exact hq2
  clear hF0 hb2
  have hKQ := hq2.out.lt
  generalize hPd : w1.heap.size = P at *
  have HPd := Lib.hid hPd
  clear hPd HSW
  have hmxa := (Hs.out w (Below.refl _ _)).len
  unfold maxLen at hmxa
  go_wp2
  go_loopw [21] (fun i wr => ∃ k : Nat, k ≤ K ∧ i = .int .i64 k ∧ P + 1 ≤ wr.heap.size ∧ ∃ sb : List Bool, Hid (Fl w wr x y (.slice A N c) (w.heap.size + 1) P N sb) ∧ Hid (Qw wr (P + 1) 3 1 q0 K (ints cs)) ∧ Hid (sb.length = N) ∧ Hid (∀ j : Nat, sb[j]? = some true ↔ (j : Int) ∈ cs.take k)) (fun i _ => K - (intOf i).toNat)
  case atStart => exact ⟨0, Nat.zero_le _, rfl, hs2, _, hF2.out, hq2.out, by show _ = _; simp, fun j => by simp [List.getElem?_replicate]⟩
  case round =>
    obtain ⟨k, hk, rfl, hsz, sb, hF, hq, hsl, hmk⟩ := hrel
    by_cases hlt : k < K
    · obtain ⟨b, off, z, hA, hz, hcell⟩ := (Hs.out _ hF.out.hb).at1 HK.out hlt
      subst hA
      have hzb := Hcs.out z (List.mem_of_getElem? hz)
      obtain ⟨zk, rfl⟩ := Int.eq_ofNat_of_zero_le hzb.1
      have hzk : zk < N := by omega
      have hmk2 := Lib.hid (marks_step hsl.out hzk hz hmk.out)
      have hv := hF.out.hv
      obtain ⟨bb, hbb⟩ : ∃ bb, sb[zk]? = some bb := ⟨_, List.getElem?_eq_getElem (by have := hsl.out; omega)⟩
      obtain ⟨hc1, hc2⟩ := hF.out.cell hbb hzk
      obtain ⟨hF3, hg3⟩ := hF.out.mark zk (Nat.lt_succ_self _) (by omega)
      have hF3 := Lib.hid hF3
      have hq3 := Lib.hid (hq.out.kept hg3 (fun j hj e => by have := (hq.out.lt j hj).1; cases e; omega))
      have hs3 := hg3.size
      clear hz hbb hg3
      go_wp2
      go_roundw
      case rel => exact ⟨k + 1, by omega, by go_num, by omega, sb.set zk true, hF3.out, hq3.out, by show _ = _; rw [List.length_set]; exact hsl.out, hmk2.out⟩
      case measure => simp [intOf]; omega
    · obtain rfl : k = K := by omega
      have hall : cs.take k = cs := List.take_of_length_le (by have := HK.out; omega)
      rw [hall] at hmk
      have hFI := Lib.hid (HB.out sb hsl.out hmk.out)
      have hq : Hid (Qw wr (P + 1) 3 1 q0 cs.length (ints cs)) := by show Qw _ _ _ _ _ _ _; rw [HK.out]; exact hq.out
      have hcnt : 2 * sb.count false + cs.length ≤ 75 := by
        have := List.count_le_length (a := false) (l := sb)
        have := hsl.out
        have := HK.out
        omega
      have Hcnt := Lib.hid hcnt
      clear hall hmk hcnt hq2 hF2
      obtain ⟨wo, rfl⟩ : ∃ wo : World, wo = wr := ⟨_, rfl⟩
      go_wp2
      go_loopg [8] 75 (fun gk q wr => ∃ (sb : List Bool) (todo : List Int), Hid (2 * sb.count false + todo.length ≤ gk) ∧ gk ≤ 75 ∧ P + 1 ≤ wr.heap.size ∧ Hid (Fl w wr x y (.slice A N c) (w.heap.size + 1) P N sb) ∧ Hid (Qw wr (P + 1) 3 1 q todo.length (ints todo)) ∧ Hid (FI sb todo))
      case atStart => exact ⟨sb, cs, Hcnt.out, Nat.le_refl _, hsz, hF.out, hq.out, hFI.out⟩
      case round =>
        obtain ⟨sb2, todo, hg, hg75, hsz2, hF, hq, hfi⟩ := hrel
        cases todo with
        | nil =>
          obtain ⟨An, cn, rfl⟩ := (Sl.of_q hq.out).val
          have hX := Lib.hid (HX.out sb2 hfi.out)
          have hlen2 := (HI.out sb2 [] hfi.out).1
          have HC := HSel.out wr sb2 (w.heap.size + 1) P hF.out.hb hlen2 hF.out.hv (fun k hk => by
            have hbb : sb2[k]? = some (sb2.getD k false) := by rw [List.getD_eq_getElem?_getD, List.getElem?_eq_getElem (by omega)]; rfl
            exact (hF.out.cell hbb hk).1)
          rw [hX.out] at HC
          have HC := Lib.hid HC
          obtain ⟨t0, t1, t2⟩ := hF.out.hT
          clear hlen2
          go_wp2_with fail
          with_reducible refine HC.out.mono ?_
          rintro e w5 ⟨v5, rfl, o5, hb5⟩
          have o5 := Lib.hid (own_base o5 hF.out.hb.size)
          have hb5 := Lib.hid (grow_trans hF.out.hb hb5)
          go_wp2
          go_ret
          exact ⟨_, rfl, o5.out, hb5.out⟩
        | cons a rest =>
          have hab := (HI.out sb2 (a :: rest) hfi.out).2 a (by simp)
          have hmid := Lib.hid (HP.out sb2 a rest hfi.out)
          have hg2 : Hid (2 * sb2.count false + rest.length + 1 ≤ gk) := hg.out
          have hrl : rest.length ≤ 75 := by have := hg2.out; have : 2 * sb2.count false + rest.length + 1 ≤ gk := hg2.out; omega
          obtain ⟨g2, off2, cq, rfl, hc1, hc3, hcell, hpop⟩ := hq.out.pop2
          obtain ⟨t0, t1, t2⟩ := hF.out.hT
          clear hfi hg hq
          have hF2 := hF
          rcases hpop with ⟨hcq, hq2⟩ | ⟨hcn, hq2⟩
          all_goals
            have hq2 := Lib.hid hq2
            (try subst hcq)
            obtain ⟨wn, rfl⟩ : ∃ wn : World, wn = wr := ⟨_, rfl⟩
            go_wp2
            go_loopw [8, 40] (fun q i wr => ∃ k : Nat, k ≤ N ∧ i = .int .i64 k ∧ P + 1 ≤ wr.heap.size ∧ ∃ (sb : List Bool) (todo : List Int), Hid (2 * sb.count false + todo.length + 1 ≤ gk) ∧ Hid (Fl w wr x y (.slice A N c) (w.heap.size + 1) P N sb) ∧ Hid (Qw wr (P + 1) 3 1 q todo.length (ints todo)) ∧ Hid (FM a k sb todo)) (fun _ i _ => N - (intOf i).toNat)
            case atStart => exact ⟨0, Nat.zero_le _, rfl, hsz2, sb2, rest, hg2.out, hF2.out, hq2.out, hmid.out⟩
            case round =>
              obtain ⟨k, hk, rfl, hsz3, sb3, todo3, hg3, hF3, hq3, hm3⟩ := hrel
              by_cases hlt3 : k < N
              · have hl3 := HIM.out _ _ _ _ hm3.out
                obtain ⟨bb, hbb⟩ : ∃ bb, sb3[k]? = some bb := ⟨_, List.getElem?_eq_getElem (by omega)⟩
                obtain ⟨hk1, hk2⟩ := hF3.out.cell hbb hlt3
                have hv := hF3.out.hv
                have Hps := Lib.hid (HPS.out sb3 a todo3 k hlt3 hm3.out)
                have Hfd := Lib.hid (HFD.out sb3 a todo3 k hlt3 hm3.out)
                cases bb with
                | true =>
                  have hm4 := Lib.hid (Hps.out (.inl hbb))
                  clear hbb Hps Hfd hm3 hl3
                  go_wp2
                  go_roundw
                  case rel => exact ⟨k + 1, by omega, by go_num, hsz3, sb3, todo3, hg3.out, hF3.out, hq3.out, hm4.out⟩
                  case measure => simp [intOf]; omega
                | false =>
                  have Hcnt3 := Lib.hid (count_set hbb)
                  have HC := Lib.hid (Hp.out wr a k hab.1 hab.2 (by omega) (by omega) hF3.out.hb)
                  cases hst : stB a k with
                  | false =>
                    have hm4 := Lib.hid (Hps.out (.inr hst))
                    rw [hst] at HC
                    clear hbb Hps Hfd hm3 hl3 hst
                    go_wp2_with fail
                    refine HC.out.mono ?_
                    rintro e w5 ⟨rfl, hb5⟩
                    have hs5 := hb5.size
                    have hF5 := Lib.hid (hF3.out.below hb5)
                    have hq5 := Lib.hid (hq3.out.below hb5)
                    clear hb5
                    go_wp2
                    go_roundw
                    case rel => exact ⟨k + 1, by omega, by go_num, by omega, sb3, todo3, hg3.out, hF5.out, hq5.out, hm4.out⟩
                    case measure => simp [intOf]; omega
                  | true =>
                    have hm4 := Lib.hid (Hfd.out hst)
                    rw [hst] at HC
                    have htl : todo3.length ≤ 75 := by have : 2 * sb3.count false + todo3.length + 1 ≤ gk := hg3.out; omega
                    go_wp2_with fail
                    refine HC.out.mono ?_
                    rintro e w5 ⟨rfl, hb5⟩
                    have hs5 := hb5.size
                    have hF5 := Lib.hid (hF3.out.below hb5)
                    have hq5 := Lib.hid (hq3.out.below hb5)
                    have hv5 := hF5.out.hv
                    obtain ⟨hj1, hj2⟩ := hF5.out.cell hbb hlt3
                    obtain ⟨hF6, hg6⟩ := hF5.out.mark k (Nat.lt_succ_self _) (by omega)
                    have hF6 := Lib.hid hF6
                    have hq6 := Lib.hid (hq5.out.kept hg6 (fun j hj e => by have := (hq5.out.lt j hj).1; cases e; omega))
                    have hs6 := hg6.size
                    clear hb5 hbb Hps Hfd hm3 hl3 hst hg6 hk1 hk2 hv
                    have hbox : Hid (Sl ((w5.setCell ⟨w.heap.size + 1, k, none⟩ (.bool true)).alloc (.cells #[.int .i64 k] 3)) 1 (.slice (some ⟨w5.heap.size, 0, none⟩) 1 1) 1 [.int .i64 k]) := by
                      show Sl _ _ _ _ _
                      simpa using Sl.boxAt (hp0 (w5.setCell ⟨w.heap.size + 1, k, none⟩ (.bool true)) (.cells #[.int .i64 k] 3))
                    have hbse : P + 1 ≤ ((w5.setCell ⟨w.heap.size + 1, k, none⟩ (.bool true)).alloc (.cells #[.int .i64 k] 3)).heap.size := by simp; omega
                    have HBse := Lib.hid hbse
                    clear hbse
                    go_wp2_with ((at_builtin; refine wpList_append_q _ rfl _ _ 22 rfl (P + 1) 3 i0 (.int .i64 0) 1 8 Try.underlying22 hi hz0 hz1 hz2 rfl (by decide) _ _ _ rfl (Qw.below hq6.out (grow_alloc _ _)) _ 1 [.int .i64 k] rfl hbox.out (by intro u hu; simp at hu; subst hu; rfl) (by unfold maxLen; omega) (by omega) HBse.out ?_))
                    intro vA wA hqA hgA hdA
                    have hF7 := Lib.hid ((hF6.out.below (grow_alloc _ _)).grown hgA (by omega) (by omega) (fun j hj => (hq6.out.lt j hj).1))
                    have hq7 : Hid (Qw wA (P + 1) 3 1 vA (todo3 ++ [(k : Int)]).length (ints (todo3 ++ [(k : Int)]))) := by show Qw _ _ _ _ _ _ _; simpa using hqA
                    have hs7 : P + 1 ≤ wA.heap.size := Nat.le_trans HBse.out hgA.size
                    clear hgA hdA hqA hj1 hj2 hv5
                    go_wp2
                    go_roundw
                    case rel => exact ⟨k + 1, by omega, by go_num, hs7, sb3.set k true, todo3 ++ [(k : Int)], by show _ ≤ _; have h1 := Hcnt3.out; have h2 := hg3.out; have h3 : 2 * sb3.count false + todo3.length + 1 ≤ gk := h2; rw [List.length_append, List.length_singleton]; omega, hF7.out, hq7.out, hm4.out⟩
                    case measure => simp [intOf]; omega
              · obtain rfl : k = N := by omega
                have hfi4 := Lib.hid (HE.out _ _ _ hm3.out)
                have hgg : 2 * sb3.count false + todo3.length + 1 ≤ gk := hg3.out
                have Hgg := Lib.hid hgg
                clear hgg hm3
                go_wp2
                go_roundg (gk - 1)
                case measure => have := Hgg.out; omega
                case rel => exact ⟨sb3, todo3, by show _ ≤ _; have := Hgg.out; omega, by omega, hsz3, hF3.out, hq3.out, hfi4.out⟩
end Go.Proofs.Ytefampjmbjbhcaa
