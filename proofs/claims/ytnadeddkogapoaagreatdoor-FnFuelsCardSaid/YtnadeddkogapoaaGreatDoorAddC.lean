/- How AddFuel compares fuels; a copy of a list of fuels. Conditions: as each states. -/
import Derived.Test.YtnadeddkogapoaaGreatDoorFast2
import Derived.Test.YtnadeddkogapoaaGreatDoorFusA
import Derived.Test.YtnadeddkogapoaaGreatDoorLow
namespace Go.Proofs.YtnadeddkogapoaaGreatDoor
open Go.ChangeShapes Go.WideShapes Go.ChangeAt Go.RowKit Go.Deep
set_option linter.unusedVariables false
set_option linter.unusedSimpArgs false
set_option maxRecDepth 100000

theorem callFunc_add1 : ∀ args w, (callFunc 42 args).run Tryz.prog w = .ok (.enter 42 args) w := fun _ _ => by rfl
theorem add1_any (i : Int) (n : ByteArray) (r l o : Int) (w : World) :
    Calls Tryz.prog 42 #[fuV i n r l o] w fun e w' => e = .returned (.int .i64 i) ∧ Below w.heap.size w w' := by
  go_enter Tryz.func42, Tryz.ntmps42
  go_wp2
  go_ret
  exact ⟨rfl, grow_alloc _ _⟩
theorem callFunc_ins1 : ∀ args w, (callFunc 72 args).run Tryz.prog w = .ok (.enter 72 args) w := fun _ _ => by rfl
set_option maxHeartbeats 2000000 in
theorem ins1_any (i : Int) (n : ByteArray) (r l o i' : Int) (n' : ByteArray) (r' l' o' : Int) (C : Nat) (w : World) (hc : w.cell? ⟨C, 0, none⟩ = some (.func (.func 42) #[] #[])) :
    Calls Tryz.prog 72 (#[fuV i n r l o, fuV i' n' r' l' o'] ++ #[.pointer (some ⟨C, 0, none⟩)]) w fun e w' => e = .returned (.int .i64 (cmpN i i')) ∧ Below w.heap.size w w' := by
  show Calls _ _ #[fuV i n r l o, fuV i' n' r' l' o', .pointer (some ⟨C, 0, none⟩)] _ _
  have hC := World.block_lt_of_cell? w _ hc
  simp at hC
  have hC2 : C < w.heap.size + 1 + 1 := by omega
  have hC3 : ¬ C = w.heap.size := by omega
  have hC4 : ¬ C = w.heap.size + 1 := by omega
  have eg := callFunc_add1
  have h3 : Hid (∀ W, Calls Tryz.prog 57 #[.int .i64 i, .int .i64 i'] W fun e w' => e = .returned (.int .i64 (cmpN i i')) ∧ Below W.heap.size W w') := by
    show ∀ W, _
    intro W
    refine (cmp_any _ _ W).mono ?_
    rintro e w' ⟨rfl, rfl⟩
    exact ⟨rfl, Below.refl _ _⟩
  have hq := fun n1 : Later ((w.alloc (.cells #[.int .i64 i, .string n, .int .i64 r, .int .i64 l, .int .i64 o] 25)).alloc (.cells #[.int .i64 i', .string n', .int .i64 r', .int .i64 l', .int .i64 o'] 25)) => n1.cell
  go_enter Tryz.func72, Tryz.ntmps72
  go_wp2_with fail
  refine wp_region_later (by kernel_rfl) (by kernel_rfl) ?_
  repeat (go_big_quiet_step ((first | (go_at_call 42; exact later_of (add1_any _ _ _ _ _ _)) | (go_at_call 57; exact later_of (h3.out _)))))
  refine wpQuiet_nil ?_
  rintro _ ⟨wq, rfl⟩
  go_wp2
  go_ret
  exact ⟨rfl, grow_trans (grow_trans (grow_alloc _ _) (grow_alloc _ _)) wq.h⟩
theorem fus_one (ps : List Fu) : ∀ u ∈ fus ps, u.oneCell' = true := by
  intro u hu
  obtain ⟨p, _, h⟩ := List.mem_flatMap.1 hu
  simp only [encU, List.mem_cons, List.not_mem_nil, or_false] at h
  rcases h with rfl | rfl | rfl | rfl | rfl <;> rfl
/-- The five cells of a box. -/
abbrev C5 (W : World) (B : Nat) (i : Int) (n : ByteArray) (r l o : Int) : Prop := W.cell? ⟨B, 0, none⟩ = some (.int .i64 i) ∧ W.cell? ⟨B, 1, none⟩ = some (.string n) ∧ W.cell? ⟨B, 2, none⟩ = some (.int .i64 r) ∧ W.cell? ⟨B, 3, none⟩ = some (.int .i64 l) ∧ W.cell? ⟨B, 4, none⟩ = some (.int .i64 o)
theorem C5.below {W W' : World} {B : Nat} {i : Int} {n : ByteArray} {r l o : Int} (h : C5 W B i n r l o) (hb : Below W.heap.size W W') : C5 W' B i n r l o :=
  ⟨cell_below0 h.1 hb, cell_below0 h.2.1 hb, cell_below0 h.2.2.1 hb, cell_below0 h.2.2.2.1 hb, cell_below0 h.2.2.2.2 hb⟩
theorem C5.new (w : World) (i : Int) (n : ByteArray) (r l o : Int) : C5 (w.alloc (.cells #[.int .i64 i, .string n, .int .i64 r, .int .i64 l, .int .i64 o] 25)) w.heap.size i n r l o := by
  refine ⟨?_, ?_, ?_, ?_, ?_⟩ <;> simp [go_sem]
theorem C5.lt {W : World} {B : Nat} {i : Int} {n : ByteArray} {r l o : Int} (h : C5 W B i n r l o) : B < W.heap.size := World.block_lt_of_cell? W _ h.1
theorem lit_fu (w : World) (i : Int) (n : ByteArray) (r l o : Int) : Sl (w.alloc (.cells #[.int .i64 i, .string n, .int .i64 r, .int .i64 l, .int .i64 o] 25)) 5 (.slice (some ⟨w.heap.size, 0, none⟩) 1 1) 1 (encU ⟨i, n, r, l, o⟩) :=
  lit_one w 25 (encU ⟨i, n, r, l, o⟩) (by rw [encU_length]; omega)
theorem fus_snoc (l : List Fu) (p : Fu) : fus (l ++ [p]) = fus l ++ encU p := by simp [fus]
theorem enc_one (p : Fu) : ∀ u ∈ encU p, u.oneCell' = true := by
  intro u h
  simp only [encU, List.mem_cons, List.not_mem_nil, or_false] at h
  rcases h with rfl | rfl | rfl | rfl | rfl <;> rfl
theorem own_empty (w : World) (base : Nat) (hb : base ≤ w.heap.size) : (w.alloc (.cells #[] 25)).ownsRow base 25 5 (.slice (some ⟨w.heap.size, 0, none⟩) 0 0) 0 [] := by
  have := World.ownsRow_lit (base := base) (e := 25) (size := 5) w #[] 0 hb (by unfold maxLen; omega) rfl
  simpa using this
set_option maxHeartbeats 2000000 in
theorem copyOf_fuel_any (v : Value) (ps : List Fu) (w : World) (h : Sl w 5 v ps.length (fus ps)) (hn : ps.length ≤ 1048576) :
    Calls Tryz.prog 70 #[v] w (RetOwn w 25 5 ps.length (fus ps)) := by
  obtain ⟨A, c, rfl⟩ := h.val
  obtain ⟨i0, hi, hz0, hz1, hz2⟩ := info_parts info_fuel
  have Ho := Lib.hid (own_empty w w.heap.size (Nat.le_refl _))
  have Hs := Lib.hid (h.below (grow_alloc w (.cells #[] 25)))
  have H1 := Lib.hid (fus_one ps)
  generalize hN : ps.length = N at *
  have HN := Lib.hid hN
  clear hN h
  go_enter Tryz.func70, Tryz.ntmps70
  go_wp2_with ((at_builtin; refine wpList_append_o _ rfl _ _ 33 rfl w.heap.size 25 i0 (fuV 0 ByteArray.empty 0 0 0) 5 48 Tryz.underlying33 hi hz0 hz1 hz2 rfl (by decide) _ _ _ rfl Ho.out _ _ _ rfl Hs.out H1.out (by unfold maxLen; omega) (by omega) (by simp) ?_))
  intro v' w1 hq hg
  have hq := Lib.hid hq
  have hb := Lib.hid (((Below.refl w.heap.size w).alloc (Nat.le_refl _) (.cells #[] 25)).grown hg (by simp) (fun j hj => by simp [Value.ownBlock] at hj; omega))
  clear hg
  go_wp2
  go_ret
  exact ⟨_, rfl, by simpa using hq.out, hb.out⟩
end Go.Proofs.YtnadeddkogapoaaGreatDoor
