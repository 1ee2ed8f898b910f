/- Slices of slices of numbers, compared and marked. Conditions: as each states. -/
import Derived.Test.YtabedcpibnnnhaaRowO
import Derived.StillTailTactics
namespace Go.Proofs.Ytabedcpibnnnhaa
open Go.ChangeShapes Go.WideShapes Go.ChangeAt Go.RowKit Go.Deep
set_option linter.unusedVariables false
set_option linter.unusedSimpArgs false
set_option maxRecDepth 100000

/-- How many numbers the first rows hold. -/
def tot (xss : List (List Int)) (k : Nat) : Nat := ((xss.take k).map List.length).sum
theorem tot_succ {xss : List (List Int)} {k : Nat} {l : List Int} (h : xss[k]? = some l) : tot xss (k + 1) = tot xss k + l.length := by
  obtain ⟨hk, rfl⟩ := List.getElem?_eq_some_iff.1 h
  unfold tot
  rw [List.take_succ_eq_append_getElem hk, List.map_append, List.sum_append]; simp
theorem tot_mono (xss : List (List Int)) (k : Nat) : tot xss k ≤ tot xss xss.length := by
  unfold tot
  rw [List.take_length]
  conv => rhs; rw [← List.take_append_drop k xss]
  rw [List.map_append, List.sum_append]; omega
/-- The rows with marks from a number on. -/
def mrk (m : Int) (xss : List (List Int)) : List (List Int) := (List.range xss.length).map fun i => marks (m + tot xss i) (xss.getD i []).length
theorem mrk_length (m : Int) (xss : List (List Int)) : (mrk m xss).length = xss.length := by simp [mrk]
theorem mrk_at {m : Int} {xss : List (List Int)} {k : Nat} {l : List Int} (h : xss[k]? = some l) : (mrk m xss)[k]? = some (marks (m + tot xss k) l.length) := by
  obtain ⟨hk, rfl⟩ := List.getElem?_eq_some_iff.1 h
  simp [mrk, hk]
theorem mrk_step {m : Int} {xss : List (List Int)} {k : Nat} {l : List Int} (h : xss[k]? = some l) : ((mrk m xss).take k ++ xss.drop k).set k (marks (m + tot xss k) l.length) = (mrk m xss).take (k + 1) ++ xss.drop (k + 1) := by
  obtain ⟨hk, e⟩ := List.getElem?_eq_some_iff.1 h
  have h2 := mrk_at (m := m) h
  obtain ⟨hk2, e2⟩ := List.getElem?_eq_some_iff.1 h2
  rw [List.set_append_right _ _ (by rw [List.length_take]; omega), List.length_take, Nat.min_eq_left (by omega), Nat.sub_self, List.drop_eq_getElem_cons hk, List.set_cons_zero, List.take_succ_eq_append_getElem hk2, e2]
  simp
theorem mrk_mid {m : Int} {xss : List (List Int)} {k : Nat} {l : List Int} (h : xss[k]? = some l) : ((mrk m xss).take k ++ xss.drop k)[k]? = some l := by
  obtain ⟨hk, e⟩ := List.getElem?_eq_some_iff.1 h
  rw [List.getElem?_append_right (by rw [List.length_take]; omega), List.length_take, mrk_length, Nat.min_eq_left (by omega), Nat.sub_self, List.getElem?_drop, Nat.add_zero, h]
set_option maxHeartbeats 2000000 in
theorem rTable_any (u v : Value) (us vs : List Value) (xss : List (List Int)) (w : World) (hu : SlR w u us xss) (hv : SlR w v vs xss) :
    Calls Try.prog 31 #[u, v] w fun e w' => e = .returned (.bool true) ∧ Below w.heap.size w w' := by
  have hmx := hu.outer.len
  unfold maxLen at hmx
  have HU := Lib.hid hu
  have HV := Lib.hid hv
  obtain ⟨A, c, rfl⟩ := hu.outer.val
  obtain ⟨A', c', rfl⟩ := hv.outer.val
  have hlu := hu.len
  have hlv := hv.len
  generalize hN : xss.length = N at *
  have HN := Lib.hid hN
  have HLU := Lib.hid hlu
  have HLV := Lib.hid hlv
  rw [hlu] at hmx
  clear hu hv
  rw [hlu] at HU
  rw [hlv] at HV
  rw [hlu, hlv]
  clear hN hlu hlv
  go_enter Try.func31, Try.ntmps31
  go_wp2
  go_loopw [5] (fun i wr => ∃ k : Nat, k ≤ N ∧ i = .int .i64 k ∧ Hid (Below w.heap.size w wr)) (fun i _ => N - (intOf i).toNat)
  case atStart => exact ⟨0, Nat.zero_le _, rfl, Below.refl _ _⟩
  case round =>
    obtain ⟨k, hk, rfl, hb⟩ := hrel
    by_cases hlt : k < N
    · have hul := (HU.out.below hb.out).outer
      have hvl := (HV.out.below hb.out).outer
      rw [HLU.out] at hul
      rw [HLV.out] at hvl
      obtain ⟨b, off, z, rfl, hz, hcell⟩ := hul.at1 HLU.out hlt
      obtain ⟨b', off', z', rfl, hz', hcell'⟩ := hvl.at1 HLV.out hlt
      simp only [id] at hcell hcell'
      obtain ⟨l, hl⟩ : ∃ l, xss[k]? = some l := ⟨_, List.getElem?_eq_getElem (by have := HN.out; omega)⟩
      have HC := Lib.hid (rInts_any z z' l wr.drew (((HU.out.row k z l hz hl).below hb.out).below (grow_drew wr)) (((HV.out.row k z' l hz' hl).below hb.out).below (grow_drew wr)))
      have hlz : (k : Int) < (N : Int) := by omega
      have hbd := Lib.hid hb.out.drew
      clear hz hz' hl hul hvl hb
      go_wp2_with fail
      go_still_tail 8, (by kernel_rfl)
      change wpList _ _ _ _ _ wr.drew
      clear hcell hcell'
      generalize wr.drew = wd at *
      go_wp2_with fail
      with_reducible refine HC.out.mono ?_
      rintro e w4 ⟨rfl, hb4⟩
      have hb4 := Lib.hid (grow_trans hbd.out hb4)
      go_wp2
      go_roundw
      case rel => exact ⟨k + 1, by omega, by go_num, hb4.out⟩
      case measure => simp [intOf]; omega
    · go_wp2
      go_ret
      exact ⟨rfl, hb.out⟩
end Go.Proofs.Ytabedcpibnnnhaa
