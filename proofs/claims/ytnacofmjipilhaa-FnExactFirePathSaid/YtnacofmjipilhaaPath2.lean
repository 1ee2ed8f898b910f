/- FirePath in the reference and in the program. Conditions: as each states. -/
import Derived.Test.YtnacofmjipilhaaPath
namespace Go.Proofs.Ytnacofmjipilhaa
open Go.ChangeShapes Go.WideShapes Go.ChangeAt Go.RowKit Go.Deep
set_option linter.unusedVariables false
set_option linter.unusedSimpArgs false
set_option maxRecDepth 100000

/-- A call hands back a list of its own, at whatever offset, and whether there is one. -/
def RetSelP (w : World) (xs : List Int) (ok : Bool) (e : Ending) (w' : World) : Prop :=
  ∃ v, e = .returned (.tuple #[v, .bool ok]) ∧ Qw w' w.heap.size 3 1 v xs.length (ints xs) ∧ Below w.heap.size w w'
theorem fp_no1 {x y : Int} {zs : List Int} {ps : List (Int × Int)} {srcs : List Int} {s a : Int} (h : fireB x y zs ps srcs s = false) : fpB x y zs ps srcs s a = false := by unfold fpB; rw [h]; rfl
theorem fp_no2 {x y : Int} {zs : List Int} {ps : List (Int × Int)} {srcs : List Int} {s a : Int} (h : inB a 0 ((zs.length : Int) - 1) = false) : fpB x y zs ps srcs s a = false := by unfold fpB; rw [h]; simp
theorem fp_no3 {x y : Int} {zs : List Int} {ps : List (Int × Int)} {srcs : List Int} {s : Int} {c : Nat} (h : tm (arrL x zs ps srcs s) c = -1) : fpB x y zs ps srcs s c = false := by unfold fpB; rw [Int.toNat_natCast, h]; simp
theorem fp_yes {x y : Int} {zs : List Int} {ps : List (Int × Int)} {srcs : List Int} {s : Int} {c : Nat} (h1 : fireB x y zs ps srcs s = true) (h2 : inB (c : Int) 0 ((zs.length : Int) - 1) = true) (h3 : tm (arrL x zs ps srcs s) c ≠ -1) : fpB x y zs ps srcs s c = true ∧ fpL x zs ps srcs s c = pathL x zs ps srcs (arrL x zs ps srcs s) c := by
  unfold fpB fpL; rw [h1, h2, Int.toNat_natCast, decide_eq_true h3]; exact ⟨rfl, rfl⟩
theorem Below.lvl {a b c : World} (h : Below a.heap.size a b) (k : Below b.heap.size b c) : a.heap.size ≤ c.heap.size := Nat.le_trans h.size k.size
set_option maxHeartbeats 4000000 in
theorem sFirePath_any (x y : Int) (u : Value) (zs : List Int) (v : Value) (ps : List (Int × Int)) (r : Value) (srcs : List Int) (s : Int) (a : Int) (w : World) (h : Sl w 1 u zs.length (ints zs)) (hps : Sl w 2 v ps.length (phs ps)) (hr : Sl w 1 r srcs.length (ints srcs)) (hsl : srcs.length ≤ 1048576) :
    Calls Try.prog 73 #[terrV x y u, v, r, .int .i64 s, .int .i64 a] w (RetSelP w (selR (fpB x y zs ps srcs s a) (fpL x zs ps srcs s a)) (fpB x y zs ps srcs s a)) := by
  have hbx : Below w.heap.size w (w.alloc (.cells #[.int .i64 x, .int .i64 y, u] 79)) := grow_alloc _ _
  have HA := Lib.hid (l4Asked_any x y u zs v ps r srcs s _ (h.below hbx) (hps.below hbx) (hr.below hbx))
  have HR : Hid (fireB x y zs ps srcs s = true → 0 < zs.length ∧ zs.length ≤ 25 ∧ (0 ≤ s ∧ s ≤ 1000) ∧ ∀ W, Below w.heap.size w W → Calls Try.prog 115 #[terrV x y u, v, r, .int .i64 s] W (RetArr W x zs ps srcs s)) := fun hf => by
    obtain ⟨f1, f2, f3, f4, _⟩ := fire_facts hf
    obtain ⟨hx, hy, hxy, h25⟩ := terr_dims f1
    have : 0 < x * y := Int.mul_pos (by omega) (by omega)
    exact ⟨by omega, by omega, f3, fun W hW => l4Arrivals_any x y u zs v ps r srcs s W (h.below hW) (hps.below hW) (hr.below hW) f1 f2 f3.1 f3.2⟩
  have hc : ∀ w1, Below (w.alloc (.cells #[.int .i64 x, .int .i64 y, u] 79)).heap.size (w.alloc (.cells #[.int .i64 x, .int .i64 y, u] 79)) w1 → TB w1 w.heap.size x y u := fun w1 hb => TB.below (by unfold TB; simp [go_sem]) hb
  have Hc := Lib.hid hc
  have hbx := Lib.hid hbx
  have HN1 : Hid (fireB x y zs ps srcs s = false → fpB x y zs ps srcs s a = false) := fp_no1
  have HN2 : Hid (inB a 0 ((zs.length : Int) - 1) = false → fpB x y zs ps srcs s a = false) := fp_no2
  have HN3 : Hid (∀ c : Nat, a = c → tm (arrL x zs ps srcs s) c = -1 → fpB x y zs ps srcs s a = false) := fun c e h => by subst e; exact fp_no3 h
  have HN4 : Hid (fireB x y zs ps srcs s = true → ∀ c : Nat, a = c → inB a 0 ((zs.length : Int) - 1) = true → tm (arrL x zs ps srcs s) c ≠ -1 → fpB x y zs ps srcs s a = true ∧ fpL x zs ps srcs s a = pathL x zs ps srcs (arrL x zs ps srcs s) c) := fun h1 c e h2 h3 => by subst e; exact fp_yes h1 h2 h3
  have HCe := Lib.hid fun W hW => l2Cell_any x y u zs a W (h.below (w' := W) hW)
  have HPa : Hid (fireB x y zs ps srcs s = true → LstF x zs ps srcs s (arrL x zs ps srcs s) → (∀ c, -1 ≤ tm (arrL x zs ps srcs s) c ∧ tm (arrL x zs ps srcs s) c ≤ 4000) → ∀ (W : World) (T : Value) (c : Nat), Below w.heap.size w W → Sl W 1 T (arrL x zs ps srcs s).length (ints (arrL x zs ps srcs s)) → c < zs.length → tm (arrL x zs ps srcs s) c ≠ -1 →
      Calls Try.prog 127 #[terrV x y u, v, r, T, .int .i64 c] W (RetQ W 3 1 (pathL x zs ps srcs (arrL x zs ps srcs s) c).length (ints (pathL x zs ps srcs (arrL x zs ps srcs s) c)))) := fun hf hL hbd W T c hW hT hc h1 => by
    obtain ⟨f1, f2, f3, f4, _⟩ := fire_facts hf
    exact l4Path_any x y u zs v ps r srcs s _ T f1 f2 f3.1 f3.2 hL hbd _ c W (h.below hW) (hps.below hW) (hr.below hW) hT (Nat.lt_succ_self _) hc h1
  clear hps hr hc
  cases hf : fireB x y zs ps srcs s with
  | false =>
    have hE := HN1.out hf
    rw [hf] at HA
    clear hf h HN1 HN2 HN3 HN4
    generalize fpB x y zs ps srcs s a = E at *
    subst hE
    generalize fpL x zs ps srcs s a = S at *
    go_enter Try.func73, Try.ntmps73
    go_wp2_with fail
    with_reducible refine HA.out.mono ?_
    rintro e w1 ⟨rfl, hb1⟩
    have hb1 := Lib.hid (grow_trans hbx.out hb1)
    have ho := World.ownsRow_lit (base := w.heap.size) (e := 3) (size := 1) w1 #[] 0 hb1.out.size (by unfold maxLen; omega) rfl
    have ho : Hid (Qw (w1.alloc (.cells #[] 3)) w.heap.size 3 1 (.slice (some ⟨w1.heap.size, 0, none⟩) 0 0) 0 []) := by show Qw _ _ _ _ _ _ _; exact Qw.of_own (by simpa using ho)
    have hbE := Lib.hid (grow_trans hb1.out (grow_alloc w1 (.cells #[] 3)))
    go_wp2
    exact bodyPost_ret (v := .tuple #[.slice (some ⟨w1.heap.size, 0, none⟩) 0 0, .bool false]) (by simp [results, Try.results73, go_sem]) rfl ⟨_, rfl, ho.out, hbE.out⟩
  | true =>
    obtain ⟨hN0, h25, hs01, HR⟩ := HR.out hf
    have HR := Lib.hid HR
    rw [(fire_facts hf).1, Bool.true_and] at HCe
    cases hc2 : inB a 0 ((zs.length : Int) - 1) with
    | false =>
      have hE := HN2.out hc2
      rw [hc2] at HCe
      rw [hf] at HA
      clear hf h HN1 HN2 HN3 HN4
      generalize fpB x y zs ps srcs s a = E at *
      subst hE
      generalize fpL x zs ps srcs s a = S at *
      go_enter Try.func73, Try.ntmps73
      go_wp2_with fail
      with_reducible refine HA.out.mono ?_
      rintro e w1 ⟨rfl, hb1⟩
      obtain ⟨t0, t1, t2⟩ := Hc.out _ hb1
      have hb1 := Lib.hid (grow_trans hbx.out hb1)
      go_wp2_with fail
      with_reducible refine (HCe.out _ hb1.out).mono ?_
      rintro e w2 ⟨rfl, hb2⟩
      have hb2 := Lib.hid (grow_trans hb1.out hb2)
      have ho := World.ownsRow_lit (base := w.heap.size) (e := 3) (size := 1) w2 #[] 0 hb2.out.size (by unfold maxLen; omega) rfl
      have ho : Hid (Qw (w2.alloc (.cells #[] 3)) w.heap.size 3 1 (.slice (some ⟨w2.heap.size, 0, none⟩) 0 0) 0 []) := by show Qw _ _ _ _ _ _ _; exact Qw.of_own (by simpa using ho)
      have hbE := Lib.hid (grow_trans hb2.out (grow_alloc w2 (.cells #[] 3)))
      go_wp2
      exact bodyPost_ret (v := .tuple #[.slice (some ⟨w2.heap.size, 0, none⟩) 0 0, .bool false]) (by simp [results, Try.results73, go_sem]) rfl ⟨_, rfl, ho.out, hbE.out⟩
    | true =>
      obtain ⟨ha0, ha1⟩ := inB_iff.1 hc2
      obtain ⟨c0, rfl⟩ := Int.eq_ofNat_of_zero_le ha0
      have hcN : c0 < zs.length := by omega
      have HN3 := Lib.hid (HN3.out c0 rfl)
      have HN4 := Lib.hid (HN4.out hf c0 rfl hc2)
      have HPa := Lib.hid (HPa.out hf)
      skip
      skip
      skip
      skip
      skip
      rw [hc2] at HCe
      rw [hf] at HA
      clear hf h HN1 HN2 hc2 ha0
      unfold RetArr at HR
      generalize hRR : arrL x zs ps srcs s = R at *
      have HRR := Lib.hid hRR
      clear hRR
      have HNN : Hid (zs.length = zs.length) := rfl
      go_enter Try.func73, Try.ntmps73
      go_wp2_with fail
      with_reducible refine HA.out.mono ?_
      rintro e w1 ⟨rfl, hb1⟩
      have hT1 := Lib.hid (Hc.out _ hb1)
      obtain ⟨t0, t1, t2⟩ := hT1.out
      have hb1 := Lib.hid (grow_trans hbx.out hb1)
      go_wp2_with fail
      with_reducible refine (HCe.out _ hb1.out).mono ?_
      rintro e w2 ⟨rfl, hb2⟩
      clear t0 t1 t2
      have hT2 := Lib.hid (hT1.out.below hb2)
      obtain ⟨t0, t1, t2⟩ := hT2.out
      have hb2 := Lib.hid (grow_trans hb1.out hb2)
      go_wp2_with fail
      with_reducible refine (HR.out _ hb2.out).mono ?_
      intro e w9 hra
      obtain ⟨⟨rv, rfl, ho, hb9⟩, hlf, hbd⟩ := hra
      have hl : Hid (R.length = zs.length) := by have := ho.1; show _ = _; simp at this; omega
      have hs9 := hb2.out.size
      have ho := Lib.hid ho
      have hbd := Lib.hid hbd
      have hT9 := Lib.hid (hT2.out.below hb9)
      have hb9 := Lib.hid (grow_trans hb2.out hb9)
      obtain ⟨_, cv, rfl, hg⟩ := own_form ho.out
      obtain ⟨g, rfl, hg1, hg2⟩ := hg hN0
      clear hg
      have hlf := Lib.hid hlf
      clear t0 t1 t2
      obtain ⟨t0, t1, t2⟩ := hT9.out
      have hcz : (c0 : Int) < (zs.length : Int) := by omega
      have cc0 := own_tm ho.out hl.out hcN
      by_cases hc1 : tm R c0 = -1
      · have hE := HN3.out hc1
        rw [hc1] at cc0
        clear HN3 HN4 HPa
        generalize fpB x y zs ps srcs s c0 = E at *
        subst hE
        generalize fpL x zs ps srcs s c0 = S at *
        generalize hNN : zs.length = N at *
        clear hNN HNN
        have ho := World.ownsRow_lit (base := w.heap.size) (e := 3) (size := 1) w9 #[] 0 hb9.out.size (by unfold maxLen; omega) rfl
        have ho : Hid (Qw (w9.alloc (.cells #[] 3)) w.heap.size 3 1 (.slice (some ⟨w9.heap.size, 0, none⟩) 0 0) 0 []) := by show Qw _ _ _ _ _ _ _; exact Qw.of_own (by simpa using ho)
        have hbE := Lib.hid (grow_trans hb9.out (grow_alloc w9 (.cells #[] 3)))
        go_wp2
        exact bodyPost_ret (v := .tuple #[.slice (some ⟨w9.heap.size, 0, none⟩) 0 0, .bool false]) (by simp [results, Try.results73, go_sem]) rfl ⟨_, rfl, ho.out, hbE.out⟩
      · obtain ⟨hE, hS⟩ := HN4.out hc1
        have hc1' : (tm R c0 == -1) = false := by simpa using hc1
        clear HN3 HN4
        generalize fpB x y zs ps srcs s c0 = E at *
        subst hE
        generalize fpL x zs ps srcs s c0 = S at *
        subst hS
        have HP := Lib.hid (HPa.out hlf.out hbd.out w9 (.slice (some ⟨g, 0, none⟩) zs.length cv) c0 hb9.out (by rw [hl.out]; exact Sl.of_own ho.out) hcN hc1)
        generalize tm R c0 = tc at cc0 hc1 hc1'
        generalize pathL x zs ps srcs R c0 = S at *
        clear HPa
        generalize hNN : zs.length = N at *
        clear hNN HNN
        go_wp2_with fail
        with_reducible refine HP.out.mono ?_
        rintro e w10 ⟨sv, rfl, hso, hb10⟩
        have hso := Lib.hid (hso.lower hb9.out.size)
        have hb10 := Lib.hid (grow_trans hb9.out hb10)
        go_wp2
        exact bodyPost_ret (v := .tuple #[sv, .bool true]) (by simp [results, Try.results73, go_sem]) rfl ⟨_, rfl, hso.out, hb10.out⟩
set_option maxHeartbeats 4000000 in
theorem FirePath_any (x y : Int) (u : Value) (zs : List Int) (v : Value) (ps : List (Int × Int)) (r : Value) (srcs : List Int) (s : Int) (a : Int) (w : World) (h : Sl w 1 u zs.length (ints zs)) (hps : Sl w 2 v ps.length (phs ps)) (hr : Sl w 1 r srcs.length (ints srcs)) (hsl : srcs.length ≤ 1048576) :
    Calls Try.prog 74 #[terrV x y u, v, r, .int .i64 s, .int .i64 a] w (RetSel w (selR (fpB x y zs ps srcs s a) (fpL x zs ps srcs s a)) (fpB x y zs ps srcs s a)) := by
  have hbx : Below w.heap.size w (w.alloc (.cells #[.int .i64 x, .int .i64 y, u] 79)) := grow_alloc _ _
  have HA := Lib.hid (isFire_any x y u zs v ps r srcs s _ (h.below hbx) (hps.below hbx) (hr.below hbx))
  have HR : Hid (fireB x y zs ps srcs s = true → 0 < zs.length ∧ zs.length ≤ 25 ∧ (0 ≤ s ∧ s ≤ 1000) ∧ ∀ W, Below w.heap.size w W → Calls Try.prog 119 #[terrV x y u, v, r, .int .i64 s] W (RetArr W x zs ps srcs s)) := fun hf => by
    obtain ⟨f1, f2, f3, f4, _⟩ := fire_facts hf
    obtain ⟨hx, hy, hxy, h25⟩ := terr_dims f1
    have : 0 < x * y := Int.mul_pos (by omega) (by omega)
    exact ⟨by omega, by omega, f3, fun W hW => arrivals_any x y u zs v ps r srcs s W (h.below hW) (hps.below hW) (hr.below hW) f1 f2 f3.1 f3.2 f4 hsl⟩
  have hc : ∀ w1, Below (w.alloc (.cells #[.int .i64 x, .int .i64 y, u] 79)).heap.size (w.alloc (.cells #[.int .i64 x, .int .i64 y, u] 79)) w1 → TB w1 w.heap.size x y u := fun w1 hb => TB.below (by unfold TB; simp [go_sem]) hb
  have Hc := Lib.hid hc
  have hbx := Lib.hid hbx
  have HN1 : Hid (fireB x y zs ps srcs s = false → fpB x y zs ps srcs s a = false) := fp_no1
  have HN2 : Hid (inB a 0 ((zs.length : Int) - 1) = false → fpB x y zs ps srcs s a = false) := fp_no2
  have HN3 : Hid (∀ c : Nat, a = c → tm (arrL x zs ps srcs s) c = -1 → fpB x y zs ps srcs s a = false) := fun c e h => by subst e; exact fp_no3 h
  have HN4 : Hid (fireB x y zs ps srcs s = true → ∀ c : Nat, a = c → inB a 0 ((zs.length : Int) - 1) = true → tm (arrL x zs ps srcs s) c ≠ -1 → fpB x y zs ps srcs s a = true ∧ fpL x zs ps srcs s a = pathL x zs ps srcs (arrL x zs ps srcs s) c) := fun h1 c e h2 h3 => by subst e; exact fp_yes h1 h2 h3
  have HCe := Lib.hid fun W hW => isCell_any x y u zs.length (ints zs) a W (h.below (w' := W) hW)
  have HHas := Lib.hid fun W hW c => has_any r srcs c W (hr.below (w' := W) hW)
  have HTr : Hid (fireB x y zs ps srcs s = true → terrB x y zs = true ∧ phB ps = true) := fun hf => ⟨(fire_facts hf).1, (fire_facts hf).2.1⟩
  have HNe : Hid (terrB x y zs = true → ∀ W, Below w.heap.size w W → ∀ c : Nat, c < zs.length → Calls Try.prog 130 #[terrV x y u, .int .i64 c] W (RetOwn W 3 1 (selN (nearP x c) zs.length).length (ints (selN (nearP x c) zs.length)))) := fun ht W hW c hc => by
    obtain ⟨hx, hy, hxy, h25⟩ := terr_dims ht
    exact neighbors_any x y u zs c W (h.below hW) hx.1 hx.2 (by omega) (by omega) h25
  have HBr := Lib.hid fun W hW k hk => burns_any x y u zs k W (h.below (w' := W) hW) hk
  have HWk : Hid (terrB x y zs = true → ∀ W, Below w.heap.size w W → ∀ a b : Nat, a < zs.length → b < zs.length → Calls Try.prog 133 #[terrV x y u, .int .i64 a, .int .i64 b] W fun e w' => e = .returned (.int .i64 (wrkF x zs a b)) ∧ Below W.heap.size W w') := fun ht W hW a b ha hb => work_any x y u zs a b W (h.below hW) ht ha hb
  have HDn : Hid (phB ps = true → ∀ W, Below w.heap.size w W → ∀ t z : Int, 0 ≤ t → t ≤ 100000 → -100000 ≤ z → z ≤ 100000 → Calls Try.prog 132 #[v, .int .i64 t, .int .i64 z] W fun e w' => e = .returned (.int .i64 (doneF ps t z)) ∧ Below W.heap.size W w') := fun hp W hW t z h1 h2 h3 h4 => done_any v ps t z W (hps.below hW) hp h1 h2 h3 h4
  clear hps hr hc
  cases hf : fireB x y zs ps srcs s with
  | false =>
    have hE := HN1.out hf
    rw [hf] at HA
    clear hf h HN1 HN2 HN3 HN4
    generalize fpB x y zs ps srcs s a = E at *
    subst hE
    generalize fpL x zs ps srcs s a = S at *
    go_enter Try.func74, Try.ntmps74
    go_wp2_with fail
    with_reducible refine HA.out.mono ?_
    rintro e w1 ⟨rfl, hb1⟩
    have hb1 := Lib.hid (grow_trans hbx.out hb1)
    go_wp2
    exact bodyPost_ret (v := .tuple #[.slice none 0 0, .bool false]) (by simp [results, Try.results74, go_sem]) rfl ⟨_, rfl, own_nil _ _ _ _, hb1.out⟩
  | true =>
    obtain ⟨hN0, h25, hs01, HR⟩ := HR.out hf
    have HR := Lib.hid HR
    skip
    cases hc2 : inB a 0 ((zs.length : Int) - 1) with
    | false =>
      have hE := HN2.out hc2
      rw [hc2] at HCe
      rw [hf] at HA
      clear hf h HN1 HN2 HN3 HN4
      generalize fpB x y zs ps srcs s a = E at *
      subst hE
      generalize fpL x zs ps srcs s a = S at *
      go_enter Try.func74, Try.ntmps74
      go_wp2_with fail
      with_reducible refine HA.out.mono ?_
      rintro e w1 ⟨rfl, hb1⟩
      obtain ⟨t0, t1, t2⟩ := Hc.out _ hb1
      have hb1 := Lib.hid (grow_trans hbx.out hb1)
      go_wp2_with fail
      with_reducible refine (HCe.out _ hb1.out).mono ?_
      rintro e w2 ⟨rfl, hb2⟩
      have hb2 := Lib.hid (grow_trans hb1.out hb2)
      go_wp2
      exact bodyPost_ret (v := .tuple #[.slice none 0 0, .bool false]) (by simp [results, Try.results74, go_sem]) rfl ⟨_, rfl, own_nil _ _ _ _, hb2.out⟩
    | true =>
      obtain ⟨ha0, ha1⟩ := inB_iff.1 hc2
      obtain ⟨c0, rfl⟩ := Int.eq_ofNat_of_zero_le ha0
      have hcN : c0 < zs.length := by omega
      have HN3 := Lib.hid (HN3.out c0 rfl)
      have HN4 := Lib.hid (HN4.out hf c0 rfl hc2)
      obtain ⟨hter, hphb⟩ := HTr.out hf
      have HNe := Lib.hid (HNe.out hter)
      have HWk := Lib.hid (HWk.out hter)
      have HDn := Lib.hid (HDn.out hphb)
      have HTer := Lib.hid hter
      clear hter hphb HTr
      rw [hc2] at HCe
      rw [hf] at HA
      clear hf h HN1 HN2 hc2 ha0
      unfold RetArr at HR
      generalize hRR : arrL x zs ps srcs s = R at *
      have HRR := Lib.hid hRR
      clear hRR
      have HNN : Hid (zs.length = zs.length) := rfl
      go_enter Try.func74, Try.ntmps74
      go_wp2_with fail
      with_reducible refine HA.out.mono ?_
      rintro e w1 ⟨rfl, hb1⟩
      have hT1 := Lib.hid (Hc.out _ hb1)
      obtain ⟨t0, t1, t2⟩ := hT1.out
      have hb1 := Lib.hid (grow_trans hbx.out hb1)
      go_wp2_with fail
      with_reducible refine (HCe.out _ hb1.out).mono ?_
      rintro e w2 ⟨rfl, hb2⟩
      clear t0 t1 t2
      have hT2 := Lib.hid (hT1.out.below hb2)
      obtain ⟨t0, t1, t2⟩ := hT2.out
      have hb2 := Lib.hid (grow_trans hb1.out hb2)
      go_wp2_with fail
      with_reducible refine (HR.out _ hb2.out).mono ?_
      intro e w9 hra
      obtain ⟨⟨rv, rfl, ho, hb9⟩, hlf, hbd⟩ := hra
      have hl : Hid (R.length = zs.length) := by have := ho.1; show _ = _; simp at this; omega
      have hs9 := hb2.out.size
      have ho := Lib.hid ho
      have hbd := Lib.hid hbd
      have hT9 := Lib.hid (hT2.out.below hb9)
      have hb9 := Lib.hid (grow_trans hb2.out hb9)
      obtain ⟨_, cv, rfl, hg⟩ := own_form ho.out
      obtain ⟨g, rfl, hg1, hg2⟩ := hg hN0
      clear hg
      have hlf := Lib.hid hlf
      clear t0 t1 t2
      obtain ⟨t0, t1, t2⟩ := hT9.out
      have hcz : (c0 : Int) < (zs.length : Int) := by omega
      have cc0 := own_tm ho.out hl.out hcN
      by_cases hc1 : tm R c0 = -1
      · have hE := HN3.out hc1
        rw [hc1] at cc0
        clear HN3 HN4 
        generalize fpB x y zs ps srcs s c0 = E at *
        subst hE
        generalize fpL x zs ps srcs s c0 = S at *
        generalize hNN : zs.length = N at *
        clear hNN HNN
        go_wp2
        exact bodyPost_ret (v := .tuple #[.slice none 0 0, .bool false]) (by simp [results, Try.results74, go_sem]) rfl ⟨_, rfl, own_nil _ _ _ _, hb9.out⟩
      · obtain ⟨hE, hS⟩ := HN4.out hc1
        have hc1' : (tm R c0 == -1) = false := by simpa using hc1
        clear HN3 HN4
        generalize fpB x y zs ps srcs s c0 = E at *
        subst hE
        generalize fpL x zs ps srcs s c0 = S at *
        subst hS
        have HLt := Lib.hid (fun c hc => (hlf.out.pos HTer.out hs01.1 hs01.2 (c := c) hc))
        have Hcame : Hid (∀ c k : Nat, tm R c ≠ -1 → hasB srcs c = false → NotYet x zs ps R c (selN (nearP x c) zs.length) k → k < (selN (nearP x c) zs.length).length) := by
          intro c k hc hh hny
          obtain ⟨a0, h1, h2, h3⟩ := hlf.out.came HTer.out hs01.1 hs01.2 hc hh
          obtain ⟨j0, hj0⟩ := List.getElem?_of_mem (near_has h1 h2)
          have h4 := (List.getElem?_eq_some_iff.1 hj0).1
          rcases Nat.lt_or_ge j0 k with h5 | h5
          · have := hny j0 _ h5 hj0
            rw [Int.toNat_natCast, h3] at this; cases this
          · omega
        have Hstep : Hid (∀ c a k : Nat, tm R c ≠ -1 → hasB srcs c = false → (selN (nearP x c) zs.length)[k]? = some (a : Int) → NotYet x zs ps R c (selN (nearP x c) zs.length) k → pkB x zs ps R c a = true → tm R a ≠ -1 ∧ (tm R a).toNat < (tm R c).toNat ∧ pathL x zs ps srcs R c = pathL x zs ps srcs R a ++ [(c : Int)]) := by
          intro c a k hc hh hk hny hpk
          obtain ⟨l1, l2, l3⟩ := hlf.out.less HTer.out hs01.1 hs01.2 hc hpk
          exact ⟨l1, by omega, path_step hh (find_first hk (by simpa using hpk) hny) l2 l3⟩
        have Hpc : Hid (∀ c q : Nat, burnP zs q = false → pkB x zs ps R c q = false) := fun c q hb => pk_no1 (by
          by_cases e : tm R q = -1
          · exact e
          · have := hlf.out.burn e; rw [hb] at this; cases this)
        have Hsrc : Hid (∀ c : Nat, hasB srcs c = true → pathL x zs ps srcs R c = [(c : Int)]) := fun c h => path_src h
        have Hlen : Hid ((pathL x zs ps srcs R c0).length ≤ 4001) := Nat.le_trans (path_len x zs ps srcs R 4000 c0 (by have := hbd.out c0; omega)) (by omega)
        have HWb := Lib.hid fun a b => wrk_bd HTer.out a b
        have Hnat : Hid (∀ (c j : Nat) (z : Int), (selN (nearP x c) zs.length)[j]? = some z → ∃ d : Nat, z = d ∧ d < zs.length ∧ nearP x c d = true) := fun c j z hz => near_at (x := x) (N := zs.length) (a := c) hz
        have Hcap : Hid (∀ c : Nat, (selN (nearP x c) zs.length).length ≤ zs.length) := fun c => selN_le _ _
        obtain ⟨i0, hi, hz0, hz1, hz2⟩ := info_parts info_int
        have hsw := hb9.out.size
        have hp0 : Hid ((w9.alloc (.cells #[.int .i64 c0] 3)).ownsRow w.heap.size 3 1 (.slice (some ⟨w9.heap.size, 0, none⟩) 1 1) 1 [.int .i64 c0]) := by
          show World.ownsRow _ _ _ _ _ _ _
          have := World.ownsRow_lit (base := w.heap.size) (e := 3) (size := 1) w9 #[.int .i64 c0] 1 hsw (by unfold maxLen; omega) rfl
          simpa using this
        have hbA := Lib.hid (grow_trans hb9.out (grow_alloc w9 (.cells #[.int .i64 c0] 3)))
        have hTA := Lib.hid (hT9.out.below (grow_alloc w9 (.cells #[.int .i64 c0] 3)))
        have hoA := Lib.hid (own_below ho.out (grow_alloc w9 (.cells #[.int .i64 c0] 3)))
        have Hc1 := Lib.hid hc1
        clear hlf HRR HTer HR HCe HA
        generalize hB0 : w2.heap.size = B0 at *
        clear hB0 ho hT9 hT2 hb2 hT1 hb1 hc1
        generalize tm R c0 = tc0 at cc0 hc1'
        clear hs9 hg1 hg2
        obtain ⟨wm, rfl⟩ : ∃ wm : World, wm = w9 := ⟨_, rfl⟩
        have hmw : w.heap.size ≤ wm.heap.size := hsw
        go_wp2
        go_loopw [4, 13] (fun cv1 pv wr => ∃ (c : Nat) (tl : List Int) (gp cp : Nat), cv1 = .int .i64 c ∧ pv = .slice (some ⟨gp, 0, none⟩) (tl.length + 1) cp ∧ c < zs.length ∧ Hid (tm R c ≠ -1) ∧ Hid (Below w.heap.size w wr) ∧ Hid (TB wr w.heap.size x y u) ∧ Hid (wr.ownsRow B0 3 1 (.slice (some ⟨g, 0, none⟩) zs.length cv) zs.length (ints R)) ∧ Hid (wr.ownsRow w.heap.size 3 1 (.slice (some ⟨gp, 0, none⟩) (tl.length + 1) cp) (tl.length + 1) (.int .i64 c :: ints tl)) ∧ Hid (pathL x zs ps srcs R c0 = pathL x zs ps srcs R c ++ tl)) (fun c _ _ => (tm R (intOf c).toNat).toNat)
        case atStart => exact ⟨c0, [], wm.heap.size, 1, rfl, rfl, hcN, Hc1.out, hbA.out, hTA.out, hoA.out, hp0.out, by show _ = _; simp⟩
        case round =>
          obtain ⟨c, tl, gp, cp, rfl, rfl, hcN2, hcc, hb5, hT5, ho5, hp5, hpl⟩ := hrel
          have HH := HHas.out wr hb5.out c
          cases hh : hasB srcs c with
          | true =>
            have hS : Hid (pathL x zs ps srcs R c0 = (c : Int) :: tl) := by show _ = _; rw [hpl.out, Hsrc.out c hh]; rfl
            rw [hh] at HH
            have HH := Lib.hid HH
            clear hpl
            go_wp2_with fail
            with_reducible refine HH.out.mono ?_
            rintro e w2 ⟨rfl, rfl⟩
            go_wp2
            exact bodyPost_ret (v := .tuple #[.slice (some ⟨gp, 0, none⟩) (tl.length + 1) cp, .bool true]) (by simp [results, Try.results74, go_sem]) rfl ⟨_, rfl, by show World.ownsRow _ _ _ _ _ (pathL x zs ps srcs R c0).length (ints (pathL x zs ps srcs R c0)); rw [hS.out]; exact hp5.out, hb5.out⟩
          | false =>
            rw [hh] at HH
            have HH := Lib.hid HH
            have Hcame := Lib.hid fun k => Hcame.out c k hcc.out hh
            have Hstep := Lib.hid fun a k => Hstep.out c a k hcc.out hh
            have Hnat := Lib.hid fun j z => Hnat.out c j z
            have Hpc := Lib.hid fun q => Hpc.out c q
            have hnl25 := Hcap.out c
            have HNc := Lib.hid fun W hW => HNe.out W hW c hcN2
            have Hnext : Hid (∀ (k q : Nat), NotYet x zs ps R c (selN (nearP x c) zs.length) k → (selN (nearP x c) zs.length)[k]? = some (q : Int) → pkB x zs ps R c q = false → NotYet x zs ps R c (selN (nearP x c) zs.length) (k + 1)) := fun k q h1 h2 h3 => h1.next h2 h3
            have hny0 : Hid (NotYet x zs ps R c (selN (nearP x c) zs.length) 0) := fun i z hi => by omega
            have hpcc : Hid (∀ q, tm R q = -1 → pkB x zs ps R c q = false) := fun q h => pk_no1 h
            have hpd : Hid (∀ q, ¬ doneF ps (tm R q) (wrkF x zs q c) = tm R c → pkB x zs ps R c q = false) := fun q h => pk_no2 h
            have hpe : Hid (∀ q, tm R q ≠ -1 → doneF ps (tm R q) (wrkF x zs q c) = tm R c → pkB x zs ps R c q = true) := fun q h0 h => pk_yes h0 h
            generalize NotYet x zs ps R c (selN (nearP x c) zs.length) = NY at *
            generalize selN (nearP x c) zs.length = nl at *
            obtain ⟨t0, t1, t2⟩ := hT5.out
            have hpc0 : wr.cell? ⟨gp, 0, none⟩ = some (.int .i64 c) := by rw [hp5.out.cellAt 0 (by omega)]; rfl
            have mkS : Hid (∀ W, Below wr.heap.size wr W → W.cell? ⟨w.heap.size, 0, none⟩ = some (.int .i64 x) ∧ W.cell? ⟨w.heap.size, 1, none⟩ = some (.int .i64 y) ∧ W.cell? ⟨w.heap.size, 2, none⟩ = some u ∧ W.cell? ⟨gp, 0, none⟩ = some (.int .i64 c) ∧ Below wr.heap.size wr W) := fun W hW => ⟨cell_below t0 hW, cell_below t1 hW, cell_below t2 hW, cell_below hpc0 hW, hW⟩
            clear hh
            go_wp2_with fail
            with_reducible refine HH.out.mono ?_
            rintro e w2 ⟨rfl, rfl⟩
            go_wp2_with fail
            go_region_held_law (fun W => W.cell? ⟨w.heap.size, 0, none⟩ = some (.int .i64 x) ∧ W.cell? ⟨w.heap.size, 1, none⟩ = some (.int .i64 y) ∧ W.cell? ⟨w.heap.size, 2, none⟩ = some u ∧ W.cell? ⟨gp, 0, none⟩ = some (.int .i64 c) ∧ Below wr.heap.size wr W)
              (first | exact mkS.out _ (grow_drew _) | exact mkS.out _ (by first | assumption | exact (‹_ ∧ _ ∧ _ ∧ _ ∧ Below wr.heap.size wr _›).2.2.2.2))
              ((go_at_call 130; refine (HNc.out _ (grow_trans hb5.out (by first | assumption | exact (‹_ ∧ _ ∧ _ ∧ _ ∧ Below wr.heap.size wr _›).2.2.2.2))).mono ?_; rintro e wc ⟨vc, rfl, onc, hbc⟩; obtain ⟨An, cn, rfl⟩ := (Sl.of_own onc).val; have hbc6 := grow_trans (by first | assumption | exact (‹_ ∧ _ ∧ _ ∧ _ ∧ Below wr.heap.size wr _›).2.2.2.2) hbc))
            have hb6 := Lib.hid (grow_trans hb5.out hbc6)
            have hT6 := Lib.hid (hT5.out.below hbc6)
            have ho6 := Lib.hid (own_below ho5.out hbc6)
            have hp6 := Lib.hid (own_below hp5.out hbc6)
            have on := Lib.hid (Sl.of_own onc)
            clear onc hbc hbc6 t0 t1 t2 hpc0 mkS hb5 hT5 ho5 hp5
            obtain ⟨wn, rfl⟩ : ∃ wn : World, wn = wc := ⟨_, rfl⟩
            go_wp2
            go_loopw [50] (fun i wr => ∃ k : Nat, i = .int .i64 k ∧ k ≤ nl.length ∧ Hid (Below w.heap.size w wr) ∧ Hid (TB wr w.heap.size x y u) ∧ Hid (wr.ownsRow B0 3 1 (.slice (some ⟨g, 0, none⟩) zs.length cv) zs.length (ints R)) ∧ Hid (wr.ownsRow w.heap.size 3 1 (.slice (some ⟨gp, 0, none⟩) (tl.length + 1) cp) (tl.length + 1) (.int .i64 c :: ints tl)) ∧ Hid (Sl wr 1 (.slice An nl.length cn) nl.length (ints nl)) ∧ Hid (NY k)) (fun i _ => nl.length - (intOf i).toNat)
            case atStart => exact ⟨0, rfl, Nat.zero_le _, hb6.out, hT6.out, ho6.out, hp6.out, on.out, hny0.out⟩
            case round =>
              obtain ⟨k, rfl, hk, hb5, hT5, ho5, hp5, hn5, hny⟩ := hrel
              have hkl := Hcame.out k hny.out
              have hklz : (k : Int) < (nl.length : Int) := by omega
              obtain ⟨bn, ofn, z, rfl, hz, hcn⟩ := hn5.out.at1 rfl hkl
              obtain ⟨q, rfl, hq1, hq2⟩ := Hnat.out k z hz
              have hqz : (q : Int) < (zs.length : Int) := by omega
              have hcz2 : (c : Int) < (zs.length : Int) := by omega
              have cq := own_tm ho5.out hl.out hq1
              have cc := own_tm ho5.out hl.out hcN2
              have hpc0 : wr.cell? ⟨gp, 0, none⟩ = some (.int .i64 c) := by rw [hp5.out.cellAt 0 (by omega)]; rfl
              obtain ⟨t0, t1, t2⟩ := hT5.out
              have s1 := World.block_lt_of_cell? _ _ hcn
              have s2 := World.block_lt_of_cell? _ _ cq
              have s3 := World.block_lt_of_cell? _ _ t0
              have s4 := World.block_lt_of_cell? _ _ hpc0
              simp only at s1 s2 s3 s4
              have HB2 := HBr.out
              have hqb := hbd.out q
              have hcb := hbd.out c
              have Hz := Lib.hid hz
              clear hz
              have HB2 := fun W hW => HBr.out W hW q hq1
              cases hbu : burnP zs q with
              | false =>
                have hny2 := Lib.hid (Hnext.out k q hny.out Hz.out (Hpc.out q hbu))
                rw [hbu] at HB2
                have HB2 := Lib.hid HB2
                have hq := fun n : Later wr => n.cell
                clear hbu
                go_wp2_with fail
                refine wp_region_later (by kernel_rfl) (by kernel_rfl) ?_
                repeat (go_big_quiet_step ((go_at_call 131; exact later_of (HB2.out _ (grow_trans hb5.out (Later.h _))))))
                refine wpQuiet_nil ?_
                rintro _ ⟨wl, rfl⟩
                have hbl := wl.h
                have hb6 := Lib.hid (grow_trans hb5.out hbl)
                have hT6 := Lib.hid (hT5.out.below hbl)
                have ho6 := Lib.hid (own_below ho5.out hbl)
                have hp6 := Lib.hid (own_below hp5.out hbl)
                have hn6 := Lib.hid (hn5.out.below hbl)
                clear hq hcn cq cc hpc0 t0 t1 t2 hbl
                generalize wl.w = w6 at *
                go_wp2
                go_roundw
                case rel => exact ⟨k + 1, by go_num, by omega, hb6.out, hT6.out, ho6.out, hp6.out, hn6.out, hny2.out⟩
                case measure => simp [intOf]; omega
              | true =>
                rw [hbu] at HB2
                have HB2 := Lib.hid HB2
                clear hbu
                by_cases hzq1 : tm R q = -1
                · have hny2 := Lib.hid (Hnext.out k q hny.out Hz.out (hpcc.out q hzq1))
                  rw [hzq1] at cq
                  have hq := fun n : Later wr => n.cell
                  go_wp2_with fail
                  refine wp_region_later (by kernel_rfl) (by kernel_rfl) ?_
                  repeat (go_big_quiet_step ((go_at_call 131; exact later_of (HB2.out _ (grow_trans hb5.out (Later.h _))))))
                  refine wpQuiet_nil ?_
                  rintro _ ⟨wl, rfl⟩
                  have hbl := wl.h
                  have hb6 := Lib.hid (grow_trans hb5.out hbl)
                  have hT6 := Lib.hid (hT5.out.below hbl)
                  have ho6 := Lib.hid (own_below ho5.out hbl)
                  have hp6 := Lib.hid (own_below hp5.out hbl)
                  have hn6 := Lib.hid (hn5.out.below hbl)
                  clear hq hcn cq cc hpc0 t0 t1 t2 hbl
                  generalize wl.w = w6 at *
                  go_wp2
                  go_roundw
                  case rel => exact ⟨k + 1, by go_num, by omega, hb6.out, hT6.out, ho6.out, hp6.out, hn6.out, hny2.out⟩
                  case measure => simp [intOf]; omega
                · have hzq1' : (tm R q == -1) = false := by simpa using hzq1
                  have hq0 := (HLt.out q hzq1).1
                  have hwb := HWb.out q c
                  have HW2 := Lib.hid fun W hW => HWk.out W hW q c hq1 hcN2
                  have HD2 := Lib.hid fun W hW => HDn.out W hW (tm R q) (wrkF x zs q c) hq0 (by omega) (by omega) (by omega)
                  have hpd2 := Lib.hid (hpd.out q)
                  have hpe2 := Lib.hid (hpe.out q hzq1)
                  have Hst := Lib.hid (Hstep.out q k Hz.out hny.out)
                  generalize wrkF x zs q c = wk at *
                  generalize doneF ps (tm R q) wk = X at *
                  by_cases hX : X = tm R c
                  · obtain ⟨ha1, ha2, hpa⟩ := Hst.out (hpe2.out hX)
                    have hpl2 : Hid (pathL x zs ps srcs R c0 = pathL x zs ps srcs R q ++ ((c : Int) :: tl)) := by show _ = _; rw [hpl.out, hpa, List.append_assoc]; rfl
                    have hlt : tl.length ≤ 4001 := by have h1 := Hlen.out; rw [hpl.out, List.length_append] at h1; omega
                    have ha1 := Lib.hid ha1
                    have ha2 := Lib.hid ha2
                    clear hpa
                    rw [← hX] at cc
                    clear hX
                    generalize tm R q = zq at cq hzq1 hzq1' HD2
                    have hzq2 : (zq != -1) = true := by simpa using hzq1
                    have hzq3 : decide (zq = -1) = false := by simpa using hzq1
                    have hzq4 : decide (¬ zq = -1) = true := by simpa using hzq1
                    have hzq5 : (!(zq == -1)) = true := by simpa using hzq1
                    have hq := fun n : Later wr => n.cell
                    go_wp2_with fail
                    refine wp_region_later (by kernel_rfl) (by kernel_rfl) ?_
                    repeat (go_big_quiet_step ((first | (go_at_call 131; exact later_of (HB2.out _ (grow_trans hb5.out (Later.h _)))) | (go_at_call 133; exact later_of (HW2.out _ (grow_trans hb5.out (Later.h _)))) | (go_at_call 132; exact later_of (HD2.out _ (grow_trans hb5.out (Later.h _)))))))
                    refine wpQuiet_nil ?_
                    rintro _ ⟨wl, rfl⟩
                    have hbl := wl.h
                    have hb6 := Lib.hid (grow_trans hb5.out hbl)
                    have hT6 := Lib.hid (hT5.out.below hbl)
                    have ho6 := Lib.hid (own_below ho5.out hbl)
                    have hp6 := Lib.hid (own_below hp5.out hbl)
                    clear hq hcn cq cc hpc0 t0 t1 t2 hbl
                    generalize wl.w = w6 at *
                    have hs6 := hb6.out.size
                    have hO : (w6.alloc (.cells #[.int .i64 q] 3)).ownsRow w.heap.size 3 1 (.slice (some ⟨w6.heap.size, 0, none⟩) 1 1) 1 [.int .i64 q] := by
                      have := World.ownsRow_lit (base := w.heap.size) (e := 3) (size := 1) w6 #[.int .i64 q] 1 hs6 (by unfold maxLen; omega) rfl
                      simpa using this
                    have hO := Lib.hid hO
                    have hpB := Lib.hid (own_below hp6.out (grow_alloc w6 (.cells #[.int .i64 q] 3)))
                    have hq9 : decide ((q : Int) < 0) = false := by simp
                    go_wp2_with ((at_builtin; refine wpList_append_own _ rfl _ _ 67 rfl w.heap.size 3 i0 (.int .i64 0) 1 8 Try.underlying67 hi hz0 hz1 hz2 rfl (by decide) _ _ _ rfl hO.out ⟨gp, 0, none⟩ (tl.length + 1) cp (.int .i64 c :: ints tl) rfl (by simp) ?c1 ?c2 ?c3 ?c4 ?c5 ?_))
                    case c1 =>
                      intro j u hj
                      have hjl := (List.getElem?_eq_some_iff.1 hj).1
                      have := hpB.out.cellAt j (by simpa using hjl)
                      rw [hj] at this
                      rw [Addr.add_lit]
                      simpa using this
                    case c2 => exact ints_one ((c : Int) :: tl)
                    case c3 => unfold maxLen; omega
                    case c4 => omega
                    case c5 => simp; omega
                    intro v' w7 hown' hgrow _
                    obtain ⟨_, cp2, rfl, hg⟩ := own_form hown'
                    obtain ⟨gp2, rfl, hg1, hg2⟩ := hg (by omega)
                    have hb7 := (Below.refl w6.heap.size w6).alloc (Nat.le_refl _) (.cells #[.int .i64 q] 3)
                    have hb7 := hb7.grown hgrow (by simp) (fun j hj => by simp [Value.ownBlock] at hj; omega)
                    have hb8 := Lib.hid (grow_trans hb6.out hb7)
                    have hT8 := Lib.hid (hT6.out.below hb7)
                    have ho8 := Lib.hid (own_below ho6.out hb7)
                    have e1 : 1 + (tl.length + 1) = ((c : Int) :: tl).length + 1 := by simp; omega
                    have hp8 : Hid (w7.ownsRow w.heap.size 3 1 (.slice (some ⟨gp2, 0, none⟩) (((c : Int) :: tl).length + 1) cp2) (((c : Int) :: tl).length + 1) (.int .i64 q :: ints ((c : Int) :: tl))) := by
                      show World.ownsRow _ _ _ _ _ _ _
                      rw [← e1]
                      exact hown'
                    clear hown' hgrow hg hg1 hg2 hb7 hO hpB
                    have e2 : tl.length + 1 = ((c : Int) :: tl).length := rfl
                    go_wp2
                    go_roundw
                    case rel => exact ⟨q, (c : Int) :: tl, gp2, cp2, rfl, by rw [← e1], hq1, ha1.out, hb8.out, hT8.out, ho8.out, hp8.out, hpl2.out⟩
                    case measure => have h9 := ha2.out; simp [intOf]; omega
                  · have hny2 := Lib.hid (Hnext.out k q hny.out Hz.out (hpd2.out hX))
                    have hX' : (X == tm R c) = false := by simpa using hX
                    generalize tm R c = zc at *
                    generalize tm R q = zq at cq hzq1 hzq1' HD2
                    have hzq2 : (zq != -1) = true := by simpa using hzq1
                    have hzq3 : decide (zq = -1) = false := by simpa using hzq1
                    have hzq4 : decide (¬ zq = -1) = true := by simpa using hzq1
                    have hzq5 : (!(zq == -1)) = true := by simpa using hzq1
                    have hq := fun n : Later wr => n.cell
                    go_wp2_with fail
                    refine wp_region_later (by kernel_rfl) (by kernel_rfl) ?_
                    repeat (go_big_quiet_step ((first | (go_at_call 131; exact later_of (HB2.out _ (grow_trans hb5.out (Later.h _)))) | (go_at_call 133; exact later_of (HW2.out _ (grow_trans hb5.out (Later.h _)))) | (go_at_call 132; exact later_of (HD2.out _ (grow_trans hb5.out (Later.h _)))))))
                    refine wpQuiet_nil ?_
                    rintro _ ⟨wl, rfl⟩
                    have hbl := wl.h
                    have hb6 := Lib.hid (grow_trans hb5.out hbl)
                    have hT6 := Lib.hid (hT5.out.below hbl)
                    have ho6 := Lib.hid (own_below ho5.out hbl)
                    have hp6 := Lib.hid (own_below hp5.out hbl)
                    have hn6 := Lib.hid (hn5.out.below hbl)
                    clear hq hcn cq cc hpc0 t0 t1 t2 hbl
                    generalize wl.w = w6 at *
                    go_wp2
                    go_roundw
                    case rel => exact ⟨k + 1, by go_num, by omega, hb6.out, hT6.out, ho6.out, hp6.out, hn6.out, hny2.out⟩
                    case measure => simp [intOf]; omega
end Go.Proofs.Ytnacofmjipilhaa
