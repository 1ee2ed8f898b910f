/- Contracts of the functions on weathers: copies, comparison, sizes, validity. Conditions: as each states. -/
import Derived.Test.YtefampjmbjbhcaaInts
import Derived.Test.YtefampjmbjbhcaaLater
import Derived.Test.YtefampjmbjbhcaaWind
import Derived.Test.YtefampjmbjbhcaaAll
import Derived.StillTailTactics
namespace Go.Proofs.Ytefampjmbjbhcaa
open Go.ChangeShapes Go.WideShapes Go.ChangeAt Go.RowKit
set_option linter.unusedVariables false
set_option linter.unusedSimpArgs false
set_option maxRecDepth 100000

/-- A weather: where the wind comes from, its speed, the gust, the humidity. -/
structure Wx where
  f : Int
  s : Int
  g : Int
  h : Int
def encW (p : Wx) : List Value := [.int .i64 p.f, .int .i64 p.s, .int .i64 p.g, .int .i64 p.h]
theorem encW_length (p : Wx) : (encW p).length = 4 := rfl
abbrev wxs (ps : List Wx) : List Value := ps.flatMap encW
abbrev wxV (f s g h : Int) : Value := .agg #[.int .i64 f, .int .i64 s, .int .i64 g, .int .i64 h]
def wxB (p : Wx) : Bool := windB p.f p.s && inB p.g p.s 200 && inB p.h 0 100
/-- A forecast is valid. -/
def foreB (ps : List Wx) : Bool := inB ps.length 1 24 && ps.all wxB
theorem info_weather : (Try.prog.info? 88).map (fun i => (i.zero, i.size, i.bytes)) = some (some (wxV 0 0 0 0), 4, 32) := by kernel_rfl
theorem Sl.wx {w : World} {A : Option Addr} {c n : Nat} {ps : List Wx} (h : Sl w 4 (.slice A n c) n (wxs ps)) (hn : ps.length = n) {i : Nat} (hi : i < n) :
    ∃ b off f s g h, A = some ⟨b, off, none⟩ ∧ ps[i]? = some ⟨f, s, g, h⟩ ∧ w.cell? ⟨b, off + i * 4, none⟩ = some (.int .i64 f) ∧ w.cell? ⟨b, off + i * 4 + 1, none⟩ = some (.int .i64 s) ∧ w.cell? ⟨b, off + i * 4 + 2, none⟩ = some (.int .i64 g) ∧ w.cell? ⟨b, off + i * 4 + 3, none⟩ = some (.int .i64 h) := by
  obtain ⟨b, off, ⟨f, s, g, r⟩, rfl, hx, hc⟩ := h.at_ encW_length hn (by omega) hi
  exact ⟨b, off, f, s, g, r, rfl, hx, hc 0 _ rfl, hc 1 _ rfl, hc 2 _ rfl, hc 3 _ rfl⟩
theorem toWeather_any (f s g h : Int) (w : World) :
    Calls Try.prog 100 #[wxV f s g h] w fun e w' => e = .returned (wxV f s g h) ∧ Below w.heap.size w w' := by
  have h3 : Hid (Below w.heap.size w (((w.alloc (.cells #[.int .i64 f, .int .i64 s, .int .i64 g, .int .i64 h] 117)).alloc (.cells #[.int .i64 0, .int .i64 0, .int .i64 0, .int .i64 0] 88)).alloc (.cells #[.int .i64 0, .int .i64 0, .int .i64 0, .int .i64 0] 88))) := grow_trans (grow_trans (grow_alloc _ _) (grow_alloc _ _)) (grow_alloc _ _)
  go_enter Try.func100, Try.ntmps100
  go_wp2_with fail
  with_reducible refine (toBreeze_any _ _ _).mono ?_
  rintro e w1 ⟨rfl, hb1⟩
  have hc := (bcell hb1).1
  have hf := (bcell hb1).2
  go_wp2
  have hb2 := Lib.hid (grow_trans h3.out hb1)
  exact bodyPost_ret (v := wxV f s g h) (by simp [results, Try.results100, go_sem, hc, hf]) rfl ⟨rfl, (((((((hb2.out.setCell (by show w.heap.size ≤ w.heap.size + 1 + 1; omega) _).setCell (by show w.heap.size ≤ w.heap.size + 1 + 1; omega) _).setCell (by show w.heap.size ≤ w.heap.size + 1 + 1; omega) _).setCell (by show w.heap.size ≤ w.heap.size + 1 + 1; omega) _).setCell (by show w.heap.size ≤ w.heap.size + 1; omega) _).setCell (by show w.heap.size ≤ w.heap.size + 1; omega) _).setCell (by show w.heap.size ≤ w.heap.size + 1; omega) _).setCell (by show w.heap.size ≤ w.heap.size + 1; omega) _⟩
theorem szWeatherS_any (v : Value) (k : Int) (n : Nat) (cs : List Value) (w : World) (h : Sl w 4 v n cs) (h1 : 0 ≤ k) (h2 : k ≤ 1048576) :
    Calls Try.prog 31 #[v, .int .i64 k] w fun e w' => e = .returned (.int .i64 (szN' k n)) ∧ Below w.heap.size w w' := by
  have hmx := h.len
  unfold maxLen at hmx
  obtain ⟨A, c, rfl⟩ := h.val
  clear h
  go_enter Try.func31, Try.ntmps31
  go_wp2
  all_goals
    go_ret
    exact ⟨by unfold szN'; first | (rw [if_pos (by omega)]; rfl) | (rw [if_neg (by omega)]; rfl), Below.refl _ _⟩
theorem szWeatherS_ok (u : Value) (k : Int) (n : Nat) (cs : List Value) (w : World) (h : Sl w 4 u n cs) (h1 : 0 ≤ k) (h2 : k ≤ 1048576) (h3 : (n : Int) ≤ k) :
    Calls Try.prog 31 #[u, .int .i64 k] w fun e w' => e = .returned (.int .i64 (k - n)) ∧ Below w.heap.size w w' := by
  have := szWeatherS_any u k n cs w h h1 h2
  rwa [show szN' k n = k - n by unfold szN'; rw [if_neg (by omega)]] at this
theorem szWeatherS_no (u : Value) (k : Int) (n : Nat) (cs : List Value) (w : World) (h : Sl w 4 u n cs) (h1 : 0 ≤ k) (h2 : k ≤ 1048576) (h3 : ¬ (n : Int) ≤ k) :
    Calls Try.prog 31 #[u, .int .i64 k] w fun e w' => e = .returned (.int .i64 (-1)) ∧ Below w.heap.size w w' := by
  have := szWeatherS_any u k n cs w h h1 h2
  rwa [show szN' k n = -1 by unfold szN'; rw [if_pos (by omega)]] at this
theorem eqBreeze_any (f s : Int) (w : World) :
    Calls Try.prog 152 #[.agg #[.int .i64 f, .int .i64 s], .agg #[.int .i64 f, .int .i64 s]] w fun e w' => e = .returned (.bool true) ∧ Below w.heap.size w w' := by
  go_enter Try.func152, Try.ntmps152
  go_wp2
  go_ret
  exact ⟨rfl, grow_trans (grow_alloc _ _) (grow_alloc _ _)⟩
theorem eqWeather_any (f s g h : Int) (w : World) :
    Calls Try.prog 101 #[wxV f s g h, wxV f s g h] w fun e w' => e = .returned (.bool true) ∧ Below w.heap.size w w' := by
  go_enter Try.func101, Try.ntmps101
  go_wp2_with fail
  with_reducible refine (eqBreeze_any _ _ _).mono ?_
  rintro e w1 ⟨rfl, hb1⟩
  have hc := (bcell hb1).1
  go_wp2
  go_ret
  exact ⟨rfl, grow_trans (grow_trans (grow_alloc _ _) (grow_alloc _ _)) hb1⟩
set_option maxHeartbeats 2000000 in
theorem eqWeatherS_any (u v : Value) (ps : List Wx) (w : World) (hu : Sl w 4 u ps.length (wxs ps)) (hv : Sl w 4 v ps.length (wxs ps)) :
    Calls Try.prog 36 #[u, v] w fun e w' => e = .returned (.bool true) ∧ Below w.heap.size w w' := by
  have hmx := hu.len
  unfold maxLen at hmx
  obtain ⟨A, c, rfl⟩ := hu.val
  obtain ⟨A', c', rfl⟩ := hv.val
  generalize hN : ps.length = N at hu hv hmx ⊢
  have HN := Lib.hid hN
  clear hN
  go_enter Try.func36, Try.ntmps36
  go_wp2
  go_loopw [5] (fun i wr => ∃ k : Nat, k ≤ N ∧ i = .int .i64 k ∧ Hid (Below w.heap.size w wr)) (fun i _ => N - (intOf i).toNat)
  case atStart => exact ⟨0, Nat.zero_le _, rfl, Below.refl _ _⟩
  case round =>
    obtain ⟨k, hk, rfl, hb⟩ := hrel
    by_cases hlt : k < N
    · obtain ⟨b, off, f, s, g, h, rfl, hx, c0, c1, c2, c3⟩ := (hu.below hb.out).wx HN.out hlt
      obtain ⟨b', off', f', s', g', h', rfl, hx', d0, d1, d2, d3⟩ := (hv.below hb.out).wx HN.out hlt
      obtain ⟨rfl, rfl, rfl, rfl⟩ : f = f' ∧ s = s' ∧ g = g' ∧ h = h' := by rw [hx] at hx'; simpa using hx'
      clear hx hx'
      have hlz : (k : Int) < (N : Int) := by omega
      go_wp2_with fail
      go_still_tail 8, (by kernel_rfl)
      change wpList _ _ _ _ _ wr.drew
      generalize hwd : wr.drew = wd
      have hbd : Below w.heap.size w wd := by rw [← hwd]; exact hb.out.drew
      clear hwd
      go_wp2_with (go_at_call 101; refine (eqWeather_any _ _ _ _ _).mono ?_; rintro e w2 ⟨rfl, hb2⟩)
      go_roundw
      case rel => exact ⟨k + 1, by omega, by go_num, grow_trans hbd hb2⟩
      case measure => simp [intOf]; omega
    · go_wp2
      go_ret
      exact ⟨rfl, hb.out⟩
end Go.Proofs.Ytefampjmbjbhcaa
