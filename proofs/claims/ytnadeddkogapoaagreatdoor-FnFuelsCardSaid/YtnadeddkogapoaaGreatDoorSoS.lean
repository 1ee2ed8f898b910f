/- The stable sort over a block of fuels: exact below twenty, beyond that it comes to an end. Conditions: as each states. -/
import Derived.Test.YtnadeddkogapoaaGreatDoorSoM
import Derived.Deep.RegionHeldLaw
namespace Go.Proofs.YtnadeddkogapoaaGreatDoor
open Go.ChangeShapes Go.WideShapes Go.ChangeAt Go.RowKit Go.Deep
set_option linter.unusedVariables false
set_option linter.unusedSimpArgs false
set_option maxRecDepth 100000

/-- A call sorts the block; below twenty elements the result is told. -/
def RetSta (B : Nat) (w : World) (g c n Bf : Nat) (fv : Value) (l : List Fu) (e : Ending) (w' : World) : Prop := e = .returned (.tuple #[]) ∧ ∃ l', (n < 20 → l' = insO l 0 (n - 1)) ∧ So B w w' g c n Bf fv l'
set_option maxHeartbeats 16000000 in
theorem stable_any (B : Nat) (w : World) (g c n Bf : Nat) (fv : Value) (l : List Fu) (gf : Nat) (lb : Array Value) (eg : ∀ args w, (callFunc gf args).run Tryz.prog w = .ok (.enter gf args) w) (hcmp : ∀ (W : World) (i : Int) (n : ByteArray) (r l o i' : Int) (n' : ByteArray) (r' l' o' : Int), W.cell? ⟨Bf, 0, none⟩ = some fv → Calls Tryz.prog gf (#[fuV i n r l o, fuV i' n' r' l' o'] ++ lb) W fun e w' => e = .returned (.int .i64 (cmpN i i')) ∧ Below W.heap.size W w') (h : So B w w g c n Bf fv l) (hn : n ≤ 2000000) :
    Calls Tryz.prog 85 #[.slice (some ⟨g, 0, none⟩) n c, .int .i64 n, .func (.func gf) #[] lb] w (RetSta B w g c n Bf fv l) := by
  have H := Lib.hid h
  have HI := Lib.hid fun (W : World) (l : List Fu) (a b : Nat) (hS : So B W W g c n Bf fv l) hx hy => insertion_any B W g c n Bf fv l a b gf lb eg hcmp hS hx hy hn
  have HM := Lib.hid fun (D : Nat) (W : World) (l : List Fu) (a m b : Nat) => symMerge_any B g c n Bf fv gf lb eg hcmp hn D W l a m b
  clear h hcmp
  go_enter Tryz.func85, Tryz.ntmps85
  go_wp2_with fail
  go_loopw [7, 8] (fun av bv wr => ∃ a b : Nat, ∃ l2 : List Fu, av = .int .i64 a ∧ bv = .int .i64 b ∧ Hid (b = a + 20 ∧ a ≤ n ∧ (n < 20 → a = 0 ∧ l2 = l)) ∧ Hid (So B w wr g c n Bf fv l2)) (fun av _ _ => n - (intOf av).toNat)
  case atStart => exact ⟨0, 20, l, rfl, rfl, ⟨rfl, Nat.zero_le _, fun _ => ⟨rfl, rfl⟩⟩, H.out⟩
  case round =>
    clear H
    obtain ⟨a, b, l2, rfl, rfl, hab, hS⟩ := hrel
    by_cases hle : b ≤ n
    case pos =>
      have d0 : decide (b ≤ n) = true := decide_eq_true hle
      obtain ⟨b2, hb2⟩ : ∃ b2 : Nat, b2 = b + 20 := ⟨_, rfl⟩
      have m1 : (b : Int) + 20 = (b2 : Int) := by omega
      have m2 : IntKind.i64.wrap (b2 : Int) = (b2 : Int) := IntWalk.i64_in _ (by omega)
      have hr : Hid (b2 = b + 20 ∧ b ≤ n ∧ (n < 20 → b = 0 ∧ insO l2 a (b - (a + 1)) = l)) := ⟨hb2, hle, fun h => by have := hab.out; omega⟩
      have hms : Hid (n - b < n - a) := by have := hab.out; show _ < _; omega
      have hC := Lib.hid (HI.out wr l2 a b hS.out.start (by have := hab.out; omega) hle)
      clear hb2 hab
      go_wp2_with fail
      refine hC.out.mono ?_
      rintro e w4 ⟨rfl, hS2⟩
      replace hS := Lib.hid (hS.out.trans hS2)
      clear hS2 hC
      go_wp2
      go_roundw
      case rel => exact ⟨b, b2, _, rfl, rfl, hr.out, hS.out⟩
      case measure => have := hms.out; simp [intOf]; omega
    case neg =>
      have d0 : decide (b ≤ n) = false := decide_eq_false hle
      have hC := Lib.hid (HI.out wr l2 a n hS.out.start (by have := hab.out; omega) (Nat.le_refl _))
      have hr : Hid (n < 20 → insO l2 a (n - (a + 1)) = insO l 0 (n - 1)) := fun h => by
        obtain ⟨e1, e2⟩ := hab.out.2.2 h
        rw [e1, e2, Nat.zero_add]
      clear hab
      obtain ⟨wo, rfl⟩ : ∃ wo : World, wo = wr := ⟨_, rfl⟩
      go_wp2_with fail
      refine hC.out.mono ?_
      rintro e w4 ⟨rfl, hS2⟩
      replace hS := Lib.hid (hS.out.trans hS2)
      clear hS2 hC
      obtain ⟨l3, hl3⟩ : ∃ l3, insO l2 a (n - (a + 1)) = l3 := ⟨_, rfl⟩
      rw [hl3] at hS hr
      clear hl3
      go_wp2_with fail
      go_loopw [6] (fun sv wr => ∃ s : Nat, ∃ l4 : List Fu, sv = .int .i64 s ∧ Hid (20 ≤ s ∧ s ≤ 4000000 ∧ (n < 20 → l4 = insO l 0 (n - 1))) ∧ Hid (So B w wr g c n Bf fv l4)) (fun sv _ => n - (intOf sv).toNat)
      case atStart => exact ⟨20, l3, rfl, ⟨Nat.le_refl _, by omega, hr.out⟩, hS.out⟩
      case round =>
        clear hS hr d0 hle
        obtain ⟨s, l4, rfl, hs, hS⟩ := hrel
        obtain ⟨y1, y2, y3⟩ := hs.out
        replace y3 := Lib.hid y3
        clear hs
        by_cases hlt : s < n
        case neg =>
          have d1 : decide (s < n) = false := decide_eq_false hlt
          go_wp2_with fail
          go_end0
          exact ⟨rfl, l4, y3.out, hS.out⟩
        case pos =>
          have d1 : decide (s < n) = true := decide_eq_true hlt
          obtain ⟨s2, hs2⟩ : ∃ s2 : Nat, s2 = 2 * s := ⟨_, rfl⟩
          have m1 : 2 * (s : Int) = (s2 : Int) := by omega
          have m0 : (s : Int) * 2 = (s2 : Int) := by omega
          have m2 : IntKind.i64.wrap (s2 : Int) = (s2 : Int) := IntWalk.i64_in _ (by omega)
          have m3 : 2 * s ≤ s2 := by omega
          have m4 : s2 ≤ 2 * s := by omega
          have hbig : Hid (∀ l5 : List Fu, n < 20 → l5 = insO l 0 (n - 1)) := fun l5 h => by omega
          clear hs2 y3
          obtain ⟨wp, rfl⟩ : ∃ wp : World, wp = wr := ⟨_, rfl⟩
          go_wp2_with fail
          go_loopw [7, 8] (fun av bv wr => ∃ a b : Nat, ∃ l5 : List Fu, av = .int .i64 a ∧ bv = .int .i64 b ∧ Hid (b = a + s2 ∧ a ≤ n) ∧ Hid (So B w wr g c n Bf fv l5)) (fun av _ _ => n - (intOf av).toNat)
          case atStart => exact ⟨0, s2, l4, rfl, rfl, ⟨by omega, Nat.zero_le _⟩, hS.out⟩
          case round =>
            clear hS
            obtain ⟨a, b, l5, rfl, rfl, hab, hS⟩ := hrel
            obtain ⟨m, hm⟩ : ∃ m : Nat, m = a + s := ⟨_, rfl⟩
            have k1 : (a : Int) + (s : Int) = (m : Int) := by omega
            have k2 : IntKind.i64.wrap (m : Int) = (m : Int) := IntWalk.i64_in _ (by have := hab.out; omega)
            have k3 : a < m := by omega
            by_cases hle : b ≤ n
            case pos =>
              have d2 : decide (b ≤ n) = true := decide_eq_true hle
              obtain ⟨b2, hb2⟩ : ∃ b2 : Nat, b2 = b + s2 := ⟨_, rfl⟩
              have k4 : (b : Int) + (s2 : Int) = (b2 : Int) := by omega
              have k5 : IntKind.i64.wrap (b2 : Int) = (b2 : Int) := IntWalk.i64_in _ (by omega)
              have hr : Hid (b2 = b + s2 ∧ b ≤ n) := ⟨hb2, hle⟩
              have hms : Hid (n - b < n - a) := by have := hab.out; show _ < _; omega
              have hC := Lib.hid (HM.out (b - a) wr l5 a m b (Nat.le_refl _) k3 (by have := hab.out; omega) hle hS.out.start)
              clear hb2 hab hm
              go_wp2_with fail
              refine hC.out.mono ?_
              rintro e w5 ⟨rfl, l6, hS2⟩
              replace hS := Lib.hid (hS.out.trans hS2)
              clear hS2 hC
              go_wp2
              go_roundw
              case rel => exact ⟨b, b2, l6, rfl, rfl, hr.out, hS.out⟩
              case measure => have := hms.out; simp [intOf]; omega
            case neg =>
              have d2 : decide (b ≤ n) = false := decide_eq_false hle
              clear hab hm
              by_cases hmn : m < n
              case pos =>
                have d3 : decide (m < n) = true := decide_eq_true hmn
                have hC := Lib.hid (HM.out (n - a) wr l5 a m n (Nat.le_refl _) k3 hmn (Nat.le_refl _) hS.out.start)
                go_wp2_with fail
                refine hC.out.mono ?_
                rintro e w5 ⟨rfl, l6, hS2⟩
                replace hS := Lib.hid (hS.out.trans hS2)
                clear hS2 hC
                go_wp2
                go_roundw
                case rel => exact ⟨s2, l6, rfl, ⟨by omega, by omega, hbig.out l6⟩, hS.out⟩
                case measure => simp [intOf]; omega
              case neg =>
                have d3 : decide (m < n) = false := decide_eq_false hmn
                go_wp2
                go_roundw
                case rel => exact ⟨s2, l5, rfl, ⟨by omega, by omega, hbig.out l5⟩, hS.out⟩
                case measure => simp [intOf]; omega
set_option maxHeartbeats 4000000 in
theorem SortStable_any (B : Nat) (w : World) (g c n Bf : Nat) (fv : Value) (l : List Fu) (gf : Nat) (lb : Array Value) (eg : ∀ args w, (callFunc gf args).run Tryz.prog w = .ok (.enter gf args) w) (hcmp : ∀ (W : World) (i : Int) (n : ByteArray) (r l o i' : Int) (n' : ByteArray) (r' l' o' : Int), W.cell? ⟨Bf, 0, none⟩ = some fv → Calls Tryz.prog gf (#[fuV i n r l o, fuV i' n' r' l' o'] ++ lb) W fun e w' => e = .returned (.int .i64 (cmpN i i')) ∧ Below W.heap.size W w') (h : So B w w g c n Bf fv l) (hn : n ≤ 2000000) :
    Calls Tryz.prog 71 #[.slice (some ⟨g, 0, none⟩) n c, .func (.func gf) #[] lb] w (RetSta B w g c n Bf fv l) := by
  have hC := Lib.hid (stable_any B w g c n Bf fv l gf lb eg hcmp h hn)
  clear h hcmp
  go_enter Tryz.func71, Tryz.ntmps71
  go_wp2_with fail
  refine hC.out.mono ?_
  rintro e w5 ⟨rfl, l6, hl6, hS2⟩
  go_wp2_with fail
  go_end0
  exact ⟨rfl, l6, hl6, hS2⟩
end Go.Proofs.YtnadeddkogapoaaGreatDoor
