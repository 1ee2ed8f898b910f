/- Cells at the edge of a terrain, in the program and in the reference. Conditions: as each states. -/
import Derived.Test.YtjobjdmheocheaaParts2
namespace Go.Proofs.Ytjobjdmheocheaa
open Go.ChangeShapes Go.WideShapes Go.ChangeAt Go.RowKit Go.Deep
set_option linter.unusedVariables false
set_option linter.unusedSimpArgs false
set_option maxRecDepth 100000

/-- A cell lies at the edge of a terrain. -/
def brdB (x y c : Int) : Bool := (((c % x == 0) || (c / x == 0)) || (c % x == x - 1)) || (c / x == y - 1)
set_option maxHeartbeats 2000000 in
theorem isBorder_any (x y : Int) (u : Value) (c : Int) (w : World) (h1 : 1 ≤ x) (h2 : x ≤ 5) (y1 : 1 ≤ y) (y2 : y ≤ 5) (h3 : 0 ≤ c) (h4 : c ≤ 25) :
    Calls Try.prog 114 #[terrV x y u, .int .i64 c] w fun e w' => e = .returned (.bool (brdB x y c)) ∧ Below w.heap.size w w' := by
  have hq := fun n : Later (w.alloc (.cells #[.int .i64 x, .int .i64 y, u] 28)) => n.cell
  have HC := Lib.hid fun W => column_any x y u c W h1 h2 h3 h4
  have HR := Lib.hid fun W => row_any x y u c W h1 h2 h3 h4
  have HB : Hid (brdB x y c = ((((c % x == 0) || (c / x == 0)) || (c % x == x - 1)) || (c / x == y - 1))) := rfl
  obtain ⟨⟨p1, p2⟩, p3, p4⟩ := cell_bds h1 h2 h3 h4
  have m3 : IntKind.i64.wrap (x - 1) = x - 1 := IntWalk.i64_in _ (by omega)
  have m4 : IntKind.i64.wrap (y - 1) = y - 1 := IntWalk.i64_in _ (by omega)
  generalize brdB x y c = R at *
  generalize c % x = a at *
  generalize c / x = b at *
  cases e1 : (a == 0)
  · cases e2 : (b == 0)
    · cases e3 : (a == x - 1)
      · have hR : R = (b == y - 1) := by rw [HB.out, e1, e2, e3]; rfl
        subst hR
        clear HB
        go_enter Try.func114, Try.ntmps114
        go_wp2_with fail
        refine wp_region_later (by kernel_rfl) (by kernel_rfl) ?_
        repeat (go_big_quiet_step ((first | (go_at_call 98; exact later_of (HC.out _)) | (go_at_call 99; exact later_of (HR.out _)))))
        refine wpQuiet_nil ?_
        rintro _ ⟨wq, rfl⟩
        go_wp2
        go_ret
        exact ⟨rfl, grow_trans (grow_alloc _ _) wq.h⟩
      · have hR : R = true := by rw [HB.out, e1, e2, e3]; rfl
        subst hR
        clear HB
        go_enter Try.func114, Try.ntmps114
        go_wp2_with fail
        refine wp_region_later (by kernel_rfl) (by kernel_rfl) ?_
        repeat (go_big_quiet_step ((first | (go_at_call 98; exact later_of (HC.out _)) | (go_at_call 99; exact later_of (HR.out _)))))
        refine wpQuiet_nil ?_
        rintro _ ⟨wq, rfl⟩
        go_wp2
        go_ret
        exact ⟨rfl, grow_trans (grow_alloc _ _) wq.h⟩
    · have hR : R = true := by rw [HB.out, e1, e2]; rfl
      subst hR
      clear HB
      go_enter Try.func114, Try.ntmps114
      go_wp2_with fail
      refine wp_region_later (by kernel_rfl) (by kernel_rfl) ?_
      repeat (go_big_quiet_step ((first | (go_at_call 98; exact later_of (HC.out _)) | (go_at_call 99; exact later_of (HR.out _)))))
      refine wpQuiet_nil ?_
      rintro _ ⟨wq, rfl⟩
      go_wp2
      go_ret
      exact ⟨rfl, grow_trans (grow_alloc _ _) wq.h⟩
  · have hR : R = true := by rw [HB.out, e1]; rfl
    subst hR
    clear HB
    go_enter Try.func114, Try.ntmps114
    go_wp2_with fail
    refine wp_region_later (by kernel_rfl) (by kernel_rfl) ?_
    repeat (go_big_quiet_step ((first | (go_at_call 98; exact later_of (HC.out _)) | (go_at_call 99; exact later_of (HR.out _)))))
    refine wpQuiet_nil ?_
    rintro _ ⟨wq, rfl⟩
    go_wp2
    go_ret
    exact ⟨rfl, grow_trans (grow_alloc _ _) wq.h⟩
theorem callFunc_hol3 : ∀ args w, (callFunc 113 args).run Try.prog w = .ok (.enter 113 args) w := fun _ _ => by rfl
theorem callFunc_hol2 : ∀ args w, (callFunc 112 args).run Try.prog w = .ok (.enter 112 args) w := fun _ _ => by rfl
theorem callFunc_hol1 : ∀ args w, (callFunc 110 args).run Try.prog w = .ok (.enter 110 args) w := fun _ _ => by rfl
theorem callFunc_beside : ∀ args w, (callFunc 68 args).run Try.prog w = .ok (.enter 68 args) w := fun _ _ => by rfl
theorem hol3_any (x y : Int) (u : Value) (B : Nat) (c : Int) (w : World) (hT : TB w B x y u) (h1 : 1 ≤ x) (h2 : x ≤ 5) (y1 : 1 ≤ y) (y2 : y ≤ 5) (h3 : 0 ≤ c) (h4 : c ≤ 25) :
    Calls Try.prog 113 #[.int .i64 c, .pointer (some ⟨B, 0, none⟩)] w fun e w' => e = .returned (.bool (!brdB x y c)) ∧ Below w.heap.size w w' := by
  have HA := Lib.hid (isBorder_any x y u c w h1 h2 y1 y2 h3 h4)
  obtain ⟨t0, t1, t2⟩ := hT
  generalize brdB x y c = p at *
  go_enter Try.func113, Try.ntmps113
  go_wp2_with fail
  with_reducible refine HA.out.mono ?_
  rintro e w1 ⟨rfl, hb1⟩
  go_wp2
  go_ret
  exact ⟨rfl, hb1⟩
theorem hol2_any (x y : Int) (u : Value) (B : Nat) (v : Value) (pl : List Int) (w : World) (hT : TB w B x y u) (hv : Sl w 1 v pl.length (ints pl)) (h1 : 1 ≤ x) (h2 : x ≤ 5) (y1 : 1 ≤ y) (y2 : y ≤ 5) (hp : ∀ z ∈ pl, 0 ≤ z ∧ z ≤ 25) :
    Calls Try.prog 112 #[v, .pointer (some ⟨B, 0, none⟩)] w fun e w' => e = .returned (.bool (pl.all fun c => !brdB x y c)) ∧ Below w.heap.size w w' := by
  have HA := Lib.hid (all_intM_any v pl 113 #[] #[.pointer (some ⟨B, 0, none⟩)] (fun c => !brdB x y c) w hv callFunc_hol3
    (fun W z hz hW => by
      have := hol3_any x y u B z W (hT.below hW) h1 h2 y1 y2 (hp z hz).1 (hp z hz).2
      simpa using this))
  obtain ⟨A, c, rfl⟩ := hv.val
  clear hv
  generalize (pl.all fun c => !brdB x y c) = q at *
  generalize pl.length = N at *
  go_enter Try.func112, Try.ntmps112
  go_wp2_with fail
  with_reducible refine HA.out.mono ?_
  rintro e w1 ⟨rfl, hb1⟩
  go_wp2
  go_ret
  exact ⟨rfl, hb1⟩
theorem hol1_any (va : Value) (xs : List Int) (C : Nat) (z : Int) (w : World) (hc : w.cell? ⟨C, 0, none⟩ = some va) (ha : Sl w 1 va xs.length (ints xs)) :
    Calls Try.prog 110 #[.int .i64 z, .pointer (some ⟨C, 0, none⟩)] w fun e w' => e = .returned (.bool (!hasB xs z)) ∧ Below w.heap.size w w' := by
  have HA := Lib.hid (has_any va xs z w ha)
  obtain ⟨A, c, rfl⟩ := ha.val
  clear ha
  generalize hasB xs z = q at *
  go_enter Try.func110, Try.ntmps110
  go_wp2_with fail
  with_reducible refine HA.out.mono ?_
  rintro e w1 ⟨rfl, rfl⟩
  go_wp2
  go_ret
  exact ⟨rfl, Below.refl _ _⟩
end Go.Proofs.Ytjobjdmheocheaa
