/- The text of a breeze that is drawn, at times spoilt. Conditions: as each states. -/
import Derived.Test.YtabedcpibnnnhaaDoorDrB
import Derived.Test.YtabedcpibnnnhaaDoorDrSp
import Derived.Test.YtabedcpibnnnhaaDoorPBrz
namespace Go.Proofs.YtabedcpibnnnhaaDoor
open Go.ChangeShapes Go.WideShapes Go.ChangeAt Go.RowKit Go.Deep
set_option linter.unusedVariables false
set_option linter.unusedSimpArgs false
set_option maxRecDepth 100000

theorem brz_size {f k : Int} (h : windB f k = true) : (bs (brzL f k)).size ≤ 20 := by
  by_cases hk : k = 0
  · subst hk
    have : brzL f 0 = [99, 97, 108, 109] := by unfold brzL; rw [if_pos rfl]
    rw [this, bs_size]; simp
  · exact (brz_parse h hk rfl).2.1
theorem brz_strV (f k : Int) : ∃ m b, strV (windB f k) (bs (brzL f k)) = .tuple #[.string m, .bool b] ∧ m.size ≤ 20 := by
  cases h : windB f k with
  | false => exact ⟨⟨#[]⟩, _, rfl, by decide⟩
  | true => exact ⟨_, _, rfl, brz_size h⟩
set_option maxHeartbeats 8000000 in
theorem DrawParseBreeze_any (V : Value) (zs : List Int) (w : World) (h1 : Sl w 1 V zs.length (octs zs)) (h2 : ∀ z ∈ zs, 0 ≤ z ∧ z ≤ 255) :
    Calls Tryd.prog 29 #[V] w fun e w' => ∃ s : ByteArray, e = .returned (.string s) ∧ s.size ≤ 30 ∧ Below w.heap.size w w' := by
  obtain ⟨A, cc, rfl⟩ := h1.val
  have hC0 := Cur.new h1 h2
  have hF := Lib.hid (breeze_any _ _ _ hC0 (by omega))
  clear hC0
  go_enter Tryd.func29, Tryd.ntmps29
  go_wp2_with fail
  refine hF.out.mono ?_
  rintro e w1 ⟨f, k, rfl, hFS, hc, hg⟩
  obtain ⟨m, b, hm, hms⟩ := brz_strV f k
  have hT := sBreezeText_any f k w1
  rw [hm] at hT
  replace hT := Lib.hid hT
  replace hc := Lib.hid hc
  replace hg := Lib.hid hg
  clear hF hm hFS
  go_wp2_with fail
  refine hT.out.mono ?_
  rintro e w2 ⟨rfl, hb⟩
  replace hc := Lib.hid (hc.out.below hb)
  replace hg := Lib.hid (grownBy_trans hg.out (grownBy_of_below hb))
  clear hb hT
  have hO := Lib.hid (one_any _ _ 4 _ hc.out (by omega) (by omega))
  go_wp2_with fail
  refine hO.out.mono ?_
  rintro e w3 ⟨v, rfl, ⟨q, rfl⟩, hc', hg'⟩
  replace hc := Lib.hid hc'
  replace hg := Lib.hid (grownBy_trans hg.out hg')
  clear hO hc' hg'
  cases q with
  | false =>
    have hZ := Lib.hid (fin_belowB hg.out)
    go_wp2
    exact bodyPost_ret (v := .string m) (by simp [results, Tryd.results29, go_sem]) rfl ⟨_, rfl, by omega, hZ.out⟩
  | true =>
    have hS := Lib.hid (spoilt_any _ _ m ⟨#[48, 32, 78, 69, 107, 99, 49]⟩ _ hc.out (by omega) (by omega) (by decide) (by decide))
    go_wp2_with fail
    refine hS.out.mono ?_
    rintro e w4 ⟨s, rfl, hs, hc', hg'⟩
    have hZ := Lib.hid (fin_belowB (grownBy_trans hg.out hg'))
    clear hc' hg' hS
    go_wp2
    exact bodyPost_ret (v := .string s) (by simp [results, Tryd.results29, go_sem]) rfl ⟨_, rfl, by omega, hZ.out⟩
end Go.Proofs.YtabedcpibnnnhaaDoor
