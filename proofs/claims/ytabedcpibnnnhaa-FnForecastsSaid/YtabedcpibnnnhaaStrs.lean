/- Contracts of the functions that compare, mark and ask slices of strings. Conditions: lengths up to 1048576 where a counter runs. -/
import Derived.Test.YtabedcpibnnnhaaQueue
import Derived.Test.YtabedcpibnnnhaaSel
import Derived.Test.YtabedcpibnnnhaaBs
namespace Go.Proofs.Ytabedcpibnnnhaa
open Go.ChangeShapes Go.WideShapes Go.ChangeAt Go.RowKit Go.Deep
set_option linter.unusedVariables false
set_option linter.unusedSimpArgs false
set_option maxRecDepth 100000

abbrev strs (ss : List ByteArray) : List Value := ss.map Value.string
/-- The digits of a mark. -/
def mdg (n : Nat) (acc : ByteArray) : ByteArray := if n = 0 then acc else mdg (n / 10) (bs [UInt8.ofNat (48 + n % 10)] ++ acc)
termination_by n
decreasing_by omega
/-- A mark's text. -/
def mtext (n : Nat) : ByteArray := if n = 0 then bs [109, 48] else bs [109] ++ mdg n (bs [])
theorem mdg_zero (acc : ByteArray) : mdg 0 acc = acc := by rw [mdg]; rfl
theorem mdg_pos {n : Nat} (h : 0 < n) (acc : ByteArray) : mdg n acc = mdg (n / 10) (bs [UInt8.ofNat (48 + n % 10)] ++ acc) := by rw [mdg, if_neg (by omega)]
def mtexts (k : Nat) (n : Nat) : List ByteArray := (List.range n).map fun i => mtext (k + i)
theorem mtexts_length (k n : Nat) : (mtexts k n).length = n := by simp [mtexts]
theorem mtexts_at (k n i : Nat) (h : i < n) : (mtexts k n)[i]? = some (mtext (k + i)) := by simp [mtexts, h]
theorem conv_one {P : Program} {t e d : TypeId} (hs : P.underlying t = some (.slice e)) (he : P.underlying e = some (.int .u8)) (hd : P.underlying d = some .string) (W : World) (k : Nat) :
    (convert t d (.slice (some ⟨W.heap.size, 0, none⟩) 1 1)).run P (W.alloc (.cells #[.int .u8 (48 + (k : Int) % 10)] e)) = .ok (.string (bs [UInt8.ofNat (48 + k % 10)])) (W.alloc (.cells #[.int .u8 (48 + (k : Int) % 10)] e)) := by
  refine conv_bytes (base := 0) (l := [UInt8.ofNat (48 + k % 10)]) hs he hd ?_
  have e1 : byts [UInt8.ofNat (48 + k % 10)] = [.int .u8 (48 + (k : Int) % 10)] := by
    unfold byts
    simp only [List.map_cons, List.map_nil, UInt8.toNat_ofNat']
    congr 2
    omega
  rw [e1]
  exact ⟨rfl, .inr ⟨_, 0, 1, #[.int .u8 (48 + (k : Int) % 10)], rfl, Nat.zero_le _, hp0 _ _, Nat.le_refl _, by unfold maxLen; omega, by simp, by simp⟩⟩
theorem cell_keeps {w w' : World} (hb : Below w.heap.size w w') {b o : Nat} {v : Value} (h : w.cell? ⟨b, o, none⟩ = some v) : w'.cell? ⟨b, o, none⟩ = some v := by
  have hlt : b < w.heap.size := by
    rcases Nat.lt_or_ge b w.heap.size with h1 | h1
    · exact h1
    · exfalso
      unfold World.cell? at h
      simp [Array.getElem?_eq_none h1] at h
  rw [hb.cell (p := ⟨b, o, none⟩) hlt]; exact h
set_option maxHeartbeats 1000000 in
theorem markText_any (n : Nat) (w : World) (hn : n ≤ 1099511627776) : Calls Try.prog 46 #[.int .i64 n] w fun e w' => e = .returned (.string (mtext n)) ∧ Below w.heap.size w w' := by
  rcases Nat.eq_zero_or_pos n with rfl | hpos
  · go_enter Try.func46, Try.ntmps46
    go_wp2
    go_ret
    exact ⟨rfl, Below.refl _ _⟩
  · have hR : Hid (mtext n = bs [109] ++ mdg n (bs [])) := by show mtext n = _; unfold mtext; rw [if_neg (by omega)]
    generalize mtext n = R at *
    go_enter Try.func46, Try.ntmps46
    go_wp2
    go_loopw [0, 3] (fun q s wr => ∃ (k : Nat) (t : ByteArray) , k ≤ n ∧ q = .int .i64 k ∧ s = .string t ∧ t.size + k ≤ n ∧ Hid (R = bs [109] ++ mdg k t) ∧ Hid (Below w.heap.size w wr)) (fun q _ _ => (intOf q).toNat)
    case atStart => exact ⟨n, bs [], Nat.le_refl _, rfl, rfl, by rw [bs_size]; simp, hR.out, Below.refl _ _⟩
    case round =>
      obtain ⟨k, t, hk, rfl, rfl, hz, hr, hb⟩ := hrel
      rcases Nat.eq_zero_or_pos k with rfl | hkp
      · have hr2 : Hid (R = bs [109] ++ t) := by have := hr.out; rw [mdg_zero] at this; exact this
        go_wp2
        go_ret
        exact ⟨by rw [hr2.out]; rfl, hb.out⟩
      · have hr2 : Hid (R = bs [109] ++ mdg (k / 10) (bs [UInt8.ofNat (48 + k % 10)] ++ t)) := by have := hr.out; rw [mdg_pos hkp] at this; exact this
        have m1 : (k : Int).tdiv 10 = (k : Int) / 10 := by rw [Int.tdiv_eq_ediv_of_nonneg (by omega)]
        have m2 : (k : Int).tmod 10 = (k : Int) % 10 := by rw [Int.tmod_eq_emod_of_nonneg (by omega)]
        have m3 : IntKind.i64.wrap ((k : Int) / 10) = (k : Int) / 10 := IntWalk.i64_in _ (by omega)
        have m4 : IntKind.i64.wrap (48 + (k : Int) % 10) = 48 + (k : Int) % 10 := IntWalk.i64_in _ (by omega)
        have m5 : IntKind.i64.wrap ((k : Int) % 10) = (k : Int) % 10 := IntWalk.i64_in _ (by omega)
        have hcv := conv_one Try.underlying42 Try.underlying5 Try.underlying9 wr k
        have hD : (bs [UInt8.ofNat (48 + k % 10)]).size = 1 := bs_size _
        generalize bs [UInt8.ofNat (48 + k % 10)] = D at *
        have hb1 := Lib.hid (hb.out.alloc hb.out.size (.cells #[.int .u8 (48 + (k : Int) % 10)] 5))
        go_wp2
        go_roundw
        case rel => exact ⟨k / 10, D ++ t, by omega, by go_num, rfl, by rw [ByteArray.size_append, hD]; omega, hr2.out, hb1.out⟩
        case measure => simp [intOf]; omega
set_option maxHeartbeats 1000000 in
theorem eqStringS_any (u v : Value) (ss : List ByteArray) (w : World) (hu : Sl w 1 u ss.length (strs ss)) (hv : Sl w 1 v ss.length (strs ss)) :
    Calls Try.prog 10 #[u, v] w fun e w' => e = .returned (.bool true) ∧ Below w.heap.size w w' := by
  have hmx := hu.len
  unfold maxLen at hmx
  obtain ⟨A, c, rfl⟩ := hu.val
  obtain ⟨A', c', rfl⟩ := hv.val
  generalize hN : ss.length = N at hu hv hmx ⊢
  have HN := Lib.hid hN
  clear hN
  go_enter Try.func10, Try.ntmps10
  go_wp2
  go_loopw [5] (fun i wr => ∃ k : Nat, k ≤ N ∧ i = .int .i64 k ∧ Hid (Below w.heap.size w wr)) (fun i _ => N - (intOf i).toNat)
  case atStart => exact ⟨0, Nat.zero_le _, rfl, Below.refl _ _⟩
  case round =>
    obtain ⟨k, hk, rfl, hb⟩ := hrel
    by_cases hlt : k < N
    · obtain ⟨b, off, x, rfl, hx, hcell⟩ := (hu.below hb.out).at1 HN.out hlt
      obtain ⟨b', off', x', rfl, hx', hcell'⟩ := (hv.below hb.out).at1 HN.out hlt
      obtain rfl : x = x' := by rw [hx] at hx'; exact Option.some.inj hx'
      clear hx hx'
      have hlz : (k : Int) < (N : Int) := by omega
      go_wp2_with fail
      go_quiet (fail)
      go_wp2
      go_roundw
      case rel => exact ⟨k + 1, by omega, by go_num, hb.out.trans ⟨rfl, rfl, rfl, Nat.le_refl _, fun _ _ => rfl⟩⟩
      case measure => simp [intOf]; omega
    · go_wp2
      go_ret
      exact ⟨rfl, hb.out⟩
/-- A call hands back a value and fills a row of its caller's with marks. -/
def RetMarkS (w : World) (r : Value) (base : Nat) (v : Value) (k n : Nat) (e : Ending) (w' : World) : Prop :=
  e = .returned r ∧ w'.ownsRow base 9 1 v n (strs (mtexts k n)) ∧ w.grownBy w' v.ownBlock
set_option maxHeartbeats 1000000 in
theorem markStringS_any (v : Value) (m n base : Nat) (cs0 : List Value) (w : World) (h : w.ownsRow base 9 1 v n cs0) (h2 : m ≤ 1048576) (hn : n ≤ 1048576) :
    Calls Try.prog 13 #[v, .int .i64 m] w (RetMarkS w (.int .i64 ((m + n : Nat) : Int)) base v m n) := by
  obtain ⟨A, c, rfl, hA⟩ := own_form h
  rcases Nat.eq_zero_or_pos n with rfl | hpos
  · have hcs0 : cs0 = [] := List.eq_nil_of_length_eq_zero (by have := h.1; omega)
    subst hcs0
    have Hh := Lib.hid h
    clear h hA
    go_enter Try.func13, Try.ntmps13
    go_wp2
    refine wp_loop_rounds 1 ?_
    rw [rounds_succ]
    go_wp2
    go_ret
    exact ⟨by simp, Hh.out, World.grownBy.refl _ _⟩
  · obtain ⟨g, rfl, hbg, hg⟩ := hA hpos
    have Hh := Lib.hid h
    clear h hA
    go_enter Try.func13, Try.ntmps13
    go_wp2
    go_loopw [1, 5] (fun q i wr => ∃ k : Nat, k ≤ n ∧ i = .int .i64 k ∧ q = .int .i64 ((m + k : Nat) : Int) ∧ Hid (w.grownBy wr (some g)) ∧ Hid (∃ cs, wr.ownsRow base 9 1 (.slice (some ⟨g, 0, none⟩) n c) n cs ∧ ∀ j, j < k → cs[j]? = (strs (mtexts m n))[j]?)) (fun _ i _ => n - (intOf i).toNat)
    case atStart => exact ⟨0, Nat.zero_le _, rfl, rfl, World.grownBy.refl _ _, _, Hh.out, fun j hj => by omega⟩
    case round =>
      obtain ⟨k, hk, rfl, rfl, hgr, hcs⟩ := hrel
      by_cases hlt : k < n
      · have hM := Lib.hid fun W => markText_any (m + k) W (by omega)
        have hMe := Lib.hid (mtexts_at m n k hlt)
        generalize mtext (m + k) = M at *
        go_wp2_with fail
        refine (hM.out _).mono ?_
        rintro e w1 ⟨rfl, hb1⟩
        obtain ⟨cs, ho0, hp⟩ := hcs.out
        have ho := own_below ho0 hb1
        have hgr1 := Lib.hid (grownBy_trans hgr.out (grownBy_of_below hb1))
        have hl := ho.1
        obtain ⟨u, hu⟩ : ∃ u, cs[k]? = some u := ⟨_, List.getElem?_eq_getElem (by omega)⟩
        have c1 := ho.cellAt k (by omega)
        rw [hu] at c1
        have c2 := ho.frozenAt k
        have Hp := Lib.hid hp
        clear hp hu hl hcs ho0
        go_wp2
        go_roundw
        case rel =>
          refine ⟨k + 1, by omega, by go_num, by go_num, grownBy_trans hgr1.out (ho.stored k _).2, cs.set k (.string M), (ho.stored k _).1, ?_⟩
          exact prefix_set Hp.out (by have := ho.1; omega) (by simp [hMe.out])
        case measure => simp [intOf]; omega
      · obtain ⟨cs, ho, hp⟩ := hcs.out
        obtain rfl : k = n := by omega
        have hcs' : cs = strs (mtexts m k) := prefix_all (n := k) (fun j hj => hp j hj) (by have := ho.1; omega) (by simp [mtexts_length])
        subst hcs'
        have Ho := Lib.hid ho
        clear ho hp hcs hlt
        go_wp2
        go_ret
        exact ⟨rfl, Ho.out, hgr.out⟩
set_option maxHeartbeats 1000000 in
theorem heldStringS_any (v : Value) (m n : Nat) (w : World) (h : Sl w 1 v n (strs (mtexts m n))) (h2 : m ≤ 1048576) (hn : n ≤ 1048576) :
    Calls Try.prog 14 #[v, .int .i64 m] w fun e w' => e = .returned (.int .i64 ((m + n : Nat) : Int)) ∧ Below w.heap.size w w' := by
  obtain ⟨A, c, rfl⟩ := h.val
  have Hh := Lib.hid h
  clear h
  go_enter Try.func14, Try.ntmps14
  go_wp2
  go_loopw [1, 5] (fun q i wr => ∃ k : Nat, k ≤ n ∧ i = .int .i64 k ∧ q = .int .i64 ((m + k : Nat) : Int) ∧ Hid (Below w.heap.size w wr)) (fun _ i _ => n - (intOf i).toNat)
  case atStart => exact ⟨0, Nat.zero_le _, rfl, rfl, Below.refl _ _⟩
  case round =>
    obtain ⟨k, hk, rfl, rfl, hb⟩ := hrel
    by_cases hlt : k < n
    · have hM := Lib.hid fun W => markText_any (m + k) W (by omega)
      have hMe := mtexts_at m n k hlt
      generalize mtext (m + k) = M at *
      obtain ⟨b, off, x, rfl, hx, hcell⟩ := Hh.out.at1 (mtexts_length m n) hlt
      obtain rfl : M = x := by rw [hMe] at hx; exact Option.some.inj hx
      have hcell2 := cell_keeps hb.out hcell
      clear hx hMe
      have hb2 := Lib.hid (grow_trans hb.out (grow_drew wr))
      go_wp2_with fail
      go_region_with (go_at_call 46; refine (hM.out _).mono ?_; rintro e w1 ⟨rfl, hb1⟩; have hcell3 := cell_keeps (grow_trans (grow_drew wr) hb1) hcell2; have hb3 := Lib.hid (grow_trans hb2.out hb1))
      all_goals
        go_wp2
        go_roundw
        case rel => exact ⟨k + 1, by omega, by go_num, by go_num, hb3.out⟩
        case measure => simp [intOf]; omega
    · obtain rfl : k = n := by omega
      clear hlt
      go_wp2
      go_ret
      exact ⟨rfl, hb.out⟩
end Go.Proofs.Ytabedcpibnnnhaa
