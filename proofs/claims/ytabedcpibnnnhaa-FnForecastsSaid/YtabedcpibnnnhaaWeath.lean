/- Contracts of the functions on weathers: copies, comparison, sizes, validity. Conditions: as each states. -/
import Derived.Test.YtabedcpibnnnhaaInts
import Derived.Test.YtabedcpibnnnhaaLater
import Derived.Test.YtabedcpibnnnhaaWind
import Derived.Test.YtabedcpibnnnhaaAll
import Derived.StillTailTactics
namespace Go.Proofs.Ytabedcpibnnnhaa
open Go.ChangeShapes Go.WideShapes Go.ChangeAt Go.RowKit
set_option linter.unusedVariables false
set_option linter.unusedSimpArgs false
set_option maxRecDepth 100000

/-- A weather: where the wind comes from, its speed, the gust, the humidity. -/
structure Wx where
  f : Int
  s : Int
  g : Int
  h : Int
def encW (p : Wx) : List Value := [.int .i64 p.f, .int .i64 p.s, .int .i64 p.g, .int .i64 p.h]
theorem encW_length (p : Wx) : (encW p).length = 4 := rfl
abbrev wxs (ps : List Wx) : List Value := ps.flatMap encW
abbrev wxV (f s g h : Int) : Value := .agg #[.int .i64 f, .int .i64 s, .int .i64 g, .int .i64 h]
def wxB (p : Wx) : Bool := windB p.f p.s && inB p.g p.s 200 && inB p.h 0 100
/-- A forecast is valid. -/
def foreB (ps : List Wx) : Bool := inB ps.length 1 24 && ps.all wxB
theorem info_weather : (Try.prog.info? 53).map (fun i => (i.zero, i.size, i.bytes)) = some (some (wxV 0 0 0 0), 4, 32) := by kernel_rfl
theorem Sl.wx {w : World} {A : Option Addr} {c n : Nat} {ps : List Wx} (h : Sl w 4 (.slice A n c) n (wxs ps)) (hn : ps.length = n) {i : Nat} (hi : i < n) :
    ∃ b off f s g h, A = some ⟨b, off, none⟩ ∧ ps[i]? = some ⟨f, s, g, h⟩ ∧ w.cell? ⟨b, off + i * 4, none⟩ = some (.int .i64 f) ∧ w.cell? ⟨b, off + i * 4 + 1, none⟩ = some (.int .i64 s) ∧ w.cell? ⟨b, off + i * 4 + 2, none⟩ = some (.int .i64 g) ∧ w.cell? ⟨b, off + i * 4 + 3, none⟩ = some (.int .i64 h) := by
  obtain ⟨b, off, ⟨f, s, g, r⟩, rfl, hx, hc⟩ := h.at_ encW_length hn (by omega) hi
  exact ⟨b, off, f, s, g, r, rfl, hx, hc 0 _ rfl, hc 1 _ rfl, hc 2 _ rfl, hc 3 _ rfl⟩
end Go.Proofs.Ytabedcpibnnnhaa
