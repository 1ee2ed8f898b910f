/- Whether fuels are valid, in the program and in the reference. Conditions: as each states. -/
import Derived.Test.YtnadeddkogapoaaGreatDoorFus
import Derived.Maps.OwnOps
import Derived.Maps.Views
namespace Go.Proofs.YtnadeddkogapoaaGreatDoor
open Go.ChangeShapes Go.WideShapes Go.ChangeAt Go.RowKit Go.Deep
open Go.Maps (Keyed IsMap)
set_option linter.unusedVariables false
set_option linter.unusedSimpArgs false
set_option maxRecDepth 100000

def fuB (p : Fu) : Bool := fuelB p.i p.n.data.toList p.r p.l p.o
def idF (ps : List Fu) (k : Nat) : Int := match ps[k]? with | some p => p.i | none => 0
def nmF (ps : List Fu) (k : Nat) : ByteArray := match ps[k]? with | some p => p.n | none => ByteArray.empty
/-- A fuel is valid, and its number greater than the one's before. -/
def ok1 (ps : List Fu) (k : Nat) : Bool := (match ps[k]? with | some p => fuB p | none => false) && (k == 0 || decide (idF ps (k - 1) < idF ps k))
/-- No fuel before has a fuel's name. -/
def ok2 (ps : List Fu) (k : Nat) : Bool := (List.range k).all fun j => decide (nmF ps j ≠ nmF ps k)
def lstB (ps : List Fu) : Bool := decide (ps.length ≤ 8) && (List.range ps.length).all (ok1 ps)
def difB (ps : List Fu) : Bool := (List.range ps.length).all (ok2 ps)
/-- Fuels are valid. -/
def areB (ps : List Fu) : Bool := lstB ps && difB ps
theorem idF_at {ps : List Fu} {k : Nat} {i r l o : Int} {n : ByteArray} (h : ps[k]? = some ⟨i, n, r, l, o⟩) : idF ps k = i := by simp [idF, h]
theorem nmF_at {ps : List Fu} {k : Nat} {i r l o : Int} {n : ByteArray} (h : ps[k]? = some ⟨i, n, r, l, o⟩) : nmF ps k = n := by simp [nmF, h]
theorem lst_no {ps : List Fu} {k : Nat} (hk : k < ps.length) (h : ok1 ps k = false) : lstB ps = false := by
  unfold lstB
  have : (List.range ps.length).all (ok1 ps) = false := by rw [List.all_eq_false]; exact ⟨k, List.mem_range.2 hk, by simp [h]⟩
  rw [this, Bool.and_false]
theorem dif_no {ps : List Fu} {k : Nat} (hk : k < ps.length) (h : ok2 ps k = false) : difB ps = false := by
  unfold difB; rw [List.all_eq_false]; exact ⟨k, List.mem_range.2 hk, by simp [h]⟩
theorem lst_all {ps : List Fu} (h : ∀ j, j < ps.length → ok1 ps j = true) : lstB ps = decide (ps.length ≤ 8) := by
  unfold lstB
  have : (List.range ps.length).all (ok1 ps) = true := by rw [List.all_eq_true]; exact fun j hj => h j (List.mem_range.1 hj)
  rw [this, Bool.and_true]
theorem dif_all {ps : List Fu} (h : ∀ j, j < ps.length → ok2 ps j = true) : difB ps = true := by
  unfold difB; rw [List.all_eq_true]; exact fun j hj => h j (List.mem_range.1 hj)
theorem lst_len {ps : List Fu} (h : ¬ ps.length ≤ 8) : lstB ps = false := by unfold lstB; simp [h]
theorem ok2_no {ps : List Fu} {j k : Nat} (hj : j < k) (h : nmF ps j = nmF ps k) : ok2 ps k = false := by
  unfold ok2; rw [List.all_eq_false]; exact ⟨j, List.mem_range.2 hj, by simp [h]⟩
theorem ok2_yes {ps : List Fu} {k : Nat} (h : ∀ j, j < k → nmF ps j ≠ nmF ps k) : ok2 ps k = true := by
  unfold ok2; rw [List.all_eq_true]; exact fun j hj => by simpa using h j (List.mem_range.1 hj)
theorem are_facts {ps : List Fu} (h : areB ps = true) : ps.length ≤ 8 ∧ (∀ (k : Nat) (p : Fu), ps[k]? = some p → fuB p = true) ∧ (∀ k : Nat, k + 1 < ps.length → idF ps k < idF ps (k + 1)) ∧ (∀ j k : Nat, j < k → k < ps.length → nmF ps j ≠ nmF ps k) := by
  unfold areB lstB difB at h
  simp only [Bool.and_eq_true, decide_eq_true_eq, List.all_eq_true, List.mem_range] at h
  obtain ⟨⟨h1, h2⟩, h3⟩ := h
  refine ⟨h1, fun k p hp => ?_, fun k hk => ?_, fun j k hj hk => ?_⟩
  · have := h2 k (List.getElem?_eq_some_iff.1 hp).1
    simp only [ok1, hp, Bool.and_eq_true] at this
    exact this.1
  · have := h2 (k + 1) hk
    unfold ok1 at this
    simpa using (Bool.and_eq_true_iff.1 this).2
  · have := h3 k hk
    unfold ok2 at this
    simp only [List.all_eq_true, List.mem_range, decide_eq_true_eq] at this
    exact this j hj
theorem ok1_at {ps : List Fu} {k : Nat} {i r l o : Int} {n : ByteArray} (h : ps[k]? = some ⟨i, n, r, l, o⟩) : ok1 ps k = (fuelB i n.data.toList r l o && (k == 0 || decide (idF ps (k - 1) < i))) := by
  unfold ok1; rw [idF_at h, h]; rfl
theorem cell_below0 {w w' : World} {B o : Nat} {v : Value} (h : w.cell? ⟨B, o, none⟩ = some v) (hb : Below w.heap.size w w') : w'.cell? ⟨B, o, none⟩ = some v := by
  rw [hb.cell (World.block_lt_of_cell? w _ h)]; exact h
theorem af1_any (i : Int) (n : ByteArray) (r l o : Int) (w : World) :
    Calls Tryz.prog 45 #[fuV i n r l o] w fun e w' => e = .returned (.int .i64 i) ∧ Below w.heap.size w w' := by
  go_enter Tryz.func45, Tryz.ntmps45
  go_wp2
  go_ret
  exact ⟨rfl, grow_alloc _ _⟩
theorem af2_any (i : Int) (n : ByteArray) (r l o : Int) (w : World) :
    Calls Tryz.prog 47 #[fuV i n r l o] w fun e w' => e = .returned (.string n) ∧ Below w.heap.size w w' := by
  go_enter Tryz.func47, Tryz.ntmps47
  go_wp2
  go_ret
  exact ⟨rfl, grow_alloc _ _⟩
set_option maxHeartbeats 8000000 in
theorem areListed_any (v : Value) (ps : List Fu) (w : World) (hs : Sl w 5 v ps.length (fus ps)) (hm : ∀ p ∈ ps, p.n.size ≤ maxLen) :
    Calls Tryz.prog 44 #[v, .int .i64 8, .func (.func 8) #[] #[], .func (.func 45) #[] #[]] w fun e w' => e = .returned (.bool (lstB ps)) ∧ Below w.heap.size w w' := by
  have hmx := hs.len
  unfold maxLen at hmx
  have Hm := Lib.hid hm
  have Hno := Lib.hid fun k => lst_no (ps := ps) (k := k)
  have Hall := Lib.hid (lst_all (ps := ps))
  obtain ⟨A, c, rfl⟩ := hs.val
  have HO := Lib.hid fun k i n r l o => ok1_at (ps := ps) (k := k) (i := i) (n := n) (r := r) (l := l) (o := o)
  generalize lstB ps = R at *
  generalize hN : ps.length = N at *
  have HN := Lib.hid hN
  have Hs := Lib.hid hs
  clear hN hs hm
  go_enter Tryz.func44, Tryz.ntmps44
  go_wp2
  go_loopw [13] (fun i wr => ∃ k : Nat, k ≤ N ∧ i = .int .i64 k ∧ Hid (Below w.heap.size w wr) ∧ Hid (∀ j, j < k → ok1 ps j = true)) (fun i _ => N - (intOf i).toNat)
  case atStart => exact ⟨0, Nat.zero_le _, rfl, Below.refl _ _, fun j hj => by omega⟩
  case round =>
    obtain ⟨k, hk, rfl, hb, hok⟩ := hrel
    by_cases hlt : k < N
    · obtain ⟨b, off, i, n, r, l, o, rfl, hx, c0, c1, c2, c3, c4⟩ := (Hs.out.below hb.out).fu HN.out hlt
      have hsz := Hm.out _ (List.mem_of_getElem? hx)
      simp only at hsz
      have HV := Lib.hid fun W => IsFuel_any i n r l o W hsz
      have HI := Lib.hid fun W => af1_any i n r l o W
      have hO := HO.out k i n r l o hx
      have Hnk := Lib.hid (Hno.out k hlt)
      have hlz : (k : Int) < (N : Int) := by omega
      have hbx := Lib.hid (grow_trans hb.out (grow_alloc wr (.cells #[.int .i64 i, .string n, .int .i64 r, .int .i64 l, .int .i64 o] 25)))
      cases hf : fuelB i n.data.toList r l o with
      | false =>
        have hR := Hnk.out (by rw [hO, hf]; rfl)
        subst hR
        rw [hf] at HV
        clear Hall Hno Hnk hO hf hsz hx HO
        have hq := fun m : Later (wr.alloc (.cells #[.int .i64 i, .string n, .int .i64 r, .int .i64 l, .int .i64 o] 25)) => m.cell
        go_wp2_with fail
        refine wp_region_later (by kernel_rfl) (by kernel_rfl) ?_
        repeat (go_big_quiet_step ((first | (go_at_call 8; exact later_of (HV.out _)))))
        refine wpQuiet_nil ?_
        rintro _ ⟨wq, rfl⟩
        go_wp2
        go_ret
        exact ⟨rfl, grow_trans hbx.out wq.h⟩
      | true =>
        rw [hf] at HV hO
        clear hf hsz
        have Hx := Lib.hid hx
        clear hx
        rw [Bool.true_and] at hO
        rcases Nat.eq_zero_or_pos k with rfl | hk0
        · have hok1 : Hid (∀ j, j < 0 + 1 → ok1 ps j = true) := fun j hj => by
            obtain rfl : j = 0 := by omega
            rw [hO]; rfl
          clear Hall Hno Hnk hO HO
          simp only [Nat.zero_mul, Nat.add_zero] at c0 c1 c2 c3 c4
          have hq := fun m : Later (wr.alloc (.cells #[.int .i64 i, .string n, .int .i64 r, .int .i64 l, .int .i64 o] 25)) => m.cell
          go_wp2_with fail
          refine wp_region_later (by kernel_rfl) (by kernel_rfl) ?_
          repeat (go_big_quiet_step ((first | (go_at_call 8; exact later_of (HV.out _)))))
          refine wpQuiet_nil ?_
          rintro _ ⟨wq, rfl⟩
          go_wp2
          go_roundw
          case rel => exact ⟨1, by omega, by go_num, grow_trans hbx.out wq.h, hok1.out⟩
          case measure => simp [intOf]; omega
        · obtain ⟨j, rfl⟩ : ∃ j, k = j + 1 := ⟨k - 1, by omega⟩
          obtain ⟨b', off', i', n', r', l', o', hA', hx', d0, d1, d2, d3, d4⟩ := (Hs.out.below hb.out).fu HN.out (show j < N by omega)
          obtain ⟨rfl, rfl⟩ : b = b' ∧ off = off' := by simpa using hA'
          have hid := idF_at hx'
          rw [Nat.add_sub_cancel, hid] at hO
          have hbl := World.block_lt_of_cell? wr _ d0
          have HI' := Lib.hid fun W => af1_any i' n' r' l' o' W
          have hlb : b < (wr.alloc (.cells #[.int .i64 i, .string n, .int .i64 r, .int .i64 l, .int .i64 o] 25)).heap.size := by simp; simp at hbl; omega
          have g0 := cell_below0 d0 (grow_alloc wr (.cells #[.int .i64 i, .string n, .int .i64 r, .int .i64 l, .int .i64 o] 25))
          have g1 := cell_below0 d1 (grow_alloc wr (.cells #[.int .i64 i, .string n, .int .i64 r, .int .i64 l, .int .i64 o] 25))
          have g2 := cell_below0 d2 (grow_alloc wr (.cells #[.int .i64 i, .string n, .int .i64 r, .int .i64 l, .int .i64 o] 25))
          have g3 := cell_below0 d3 (grow_alloc wr (.cells #[.int .i64 i, .string n, .int .i64 r, .int .i64 l, .int .i64 o] 25))
          have g4 := cell_below0 d4 (grow_alloc wr (.cells #[.int .i64 i, .string n, .int .i64 r, .int .i64 l, .int .i64 o] 25))
          have hlb2 : b < wr.heap.size + 1 := by simp at hbl; omega
          have hlb3 : b < wr.heap.size := by simpa using hbl
          have hlb4 : ¬ b = wr.heap.size := by omega
          have hw : IntKind.i64.wrap ((j : Int) + 1 - 1) = (j : Int) := by rw [IntWalk.i64_in _ (by omega)]; omega
          have hj2 : (j : Int) < (N : Int) := by omega
          clear hA' hx' hid hbl HO
          by_cases hlt2 : i' < i
          · have hok1 : Hid (∀ m, m < j + 1 + 1 → ok1 ps m = true) := fun m hm => by
              by_cases e : m < j + 1
              · exact hok.out m e
              · obtain rfl : m = j + 1 := by omega
                rw [hO]; simp [hlt2]
            clear Hall Hno Hnk hO
            have hq := fun m : Later (wr.alloc (.cells #[.int .i64 i, .string n, .int .i64 r, .int .i64 l, .int .i64 o] 25)) => m.cell
            go_wp2_with fail
            refine wp_region_later (by kernel_rfl) (by kernel_rfl) ?_
            repeat (go_big_quiet_step ((first | (go_at_call 8; exact later_of (HV.out _)) | (go_at_call 45; exact later_of (HI.out _)) | (go_at_call 45; exact later_of (HI'.out _)))))
            refine wpQuiet_nil ?_
            rintro _ ⟨wq, rfl⟩
            go_wp2
            go_roundw
            case rel => exact ⟨j + 1 + 1, by omega, by go_num, grow_trans hbx.out wq.h, hok1.out⟩
            case measure => simp [intOf]; omega
          · have hR := Hnk.out (by rw [hO]; simp; omega)
            subst hR
            clear Hall Hno Hnk hO
            have hq := fun m : Later (wr.alloc (.cells #[.int .i64 i, .string n, .int .i64 r, .int .i64 l, .int .i64 o] 25)) => m.cell
            go_wp2_with fail
            refine wp_region_later (by kernel_rfl) (by kernel_rfl) ?_
            repeat (go_big_quiet_step ((first | (go_at_call 8; exact later_of (HV.out _)) | (go_at_call 45; exact later_of (HI.out _)) | (go_at_call 45; exact later_of (HI'.out _)))))
            refine wpQuiet_nil ?_
            rintro _ ⟨wq, rfl⟩
            go_wp2
            go_ret
            exact ⟨rfl, grow_trans hbx.out wq.h⟩
    · obtain rfl : k = N := by omega
      have hR := Hall.out hok.out
      subst hR
      clear Hall Hno HO
      by_cases h8 : k ≤ 8
      · have h8' : (k : Int) ≤ 8 := by omega
        go_wp2
        go_ret
        exact ⟨by simp [h8], hb.out⟩
      · have h8' : ¬ (k : Int) ≤ 8 := by omega
        go_wp2
        go_ret
        exact ⟨by simp [h8], hb.out⟩
end Go.Proofs.YtnadeddkogapoaaGreatDoor
