/-
  No cell of these rows narrows 'for every input' (looked for: loops, veiled, ifaces, maps, wideKeys, modest, calm, conditions, laid).
  DERIVED. THE GIVEN ROWS OF THIS SEAT. 12 by the template 'for every input the law returns true; each argument reads behind the call as it read before'; 0 by the template 'total and deterministic' (their statements: YtdopgagehhdknaaTotals.lean).
  GIVEN WITH THE SEED: the statements are not yours to turn. If you find one false, say at which input.
  Laid BY PROGRAM, IN A SANDBOX (cutbox-rows.mjs): the forced cells as the released guide's own fill.sh prints them over the translation 36600413e33c4e16… (all of the seat's roots in one cut). By AI agents, Wed Nov 11 2026. No macro, syntax, notation, axiom, sorry.
-/
import Derived.Test.YtdopgagehhdknaaChecked
import GoSem.Claim
import GoSem.ClaimJoined
import GoSem.ClaimMapViews
import Derived.JoinedTies
import Derived.KernelRfl
namespace Go.Proofs.Ytdopgagehhdknaa
/- THE CELL 'sum', in the pinned program and in every row, IS THE sha256 OF THE DUMP (.gsa) THAT YtdopgagehhdknaaProg.lean LOADS. Nothing in Lean hashes anything: it is a label: what it is worth is what the hold of that sum in a sandbox is worth. -/
noncomputable def Try.pinned : Pinned := { name := "ytdopgagehhdknaa", sum := "36600413e33c4e167089e0a2773dbf1918b6ed8bdd72c80790d75f40f2b772cb", checked := Try.checked }
namespace Rows
def none {H : Type} : Left H := { results := [], args := [] }

/-- 'laws.FnExactArePhases': WHATEVER THE INPUT: true; the input reads as it did. -/
def fnExactArePhasesSpec : ChangeSpec := { name := "fnExactArePhases", fn := fun _ => fun
  | [d] => { results := [.lit (.bool true)], args := [d] }
  | _ => none }
def fnExactArePhasesRow : OpenClaim := { program := "ytdopgagehhdknaa", sum := "36600413e33c4e167089e0a2773dbf1918b6ed8bdd72c80790d75f40f2b772cb", func := "loop.example/g00917/laws.FnExactArePhases", spec := "fnExactArePhases", apart := false }
def FnExactArePhasesSaid : Prop := fnExactArePhasesRow.holds Try.pinned (OpenSpec.ofChange fnExactArePhasesSpec)

/-- ITS FALSE NEIGHBOUR: 'it returns false'. Refute it at one input. -/
def fnExactArePhasesWrong : ChangeSpec := { name := "fnExactArePhases", fn := fun _ => fun
  | [d] => { results := [.lit (.bool false)], args := [d] }
  | _ => none }
def FnExactArePhasesWrongFalsely : Prop := fnExactArePhasesRow.holds Try.pinned (OpenSpec.ofChange fnExactArePhasesWrong)

/-- 'laws.FnExactIsTerrain': WHATEVER THE INPUT: true; the input reads as it did. -/
def fnExactIsTerrainSpec : ChangeSpec := { name := "fnExactIsTerrain", fn := fun _ => fun
  | [d] => { results := [.lit (.bool true)], args := [d] }
  | _ => none }
def fnExactIsTerrainRow : OpenClaim := { program := "ytdopgagehhdknaa", sum := "36600413e33c4e167089e0a2773dbf1918b6ed8bdd72c80790d75f40f2b772cb", func := "loop.example/g00917/laws.FnExactIsTerrain", spec := "fnExactIsTerrain", unfollowed := true, recurses := true, apart := false }
def FnExactIsTerrainSaid : Prop := fnExactIsTerrainRow.holds Try.pinned (OpenSpec.ofChange fnExactIsTerrainSpec)

/-- ITS FALSE NEIGHBOUR: 'it returns false'. Refute it at one input. -/
def fnExactIsTerrainWrong : ChangeSpec := { name := "fnExactIsTerrain", fn := fun _ => fun
  | [d] => { results := [.lit (.bool false)], args := [d] }
  | _ => none }
def FnExactIsTerrainWrongFalsely : Prop := fnExactIsTerrainRow.holds Try.pinned (OpenSpec.ofChange fnExactIsTerrainWrong)

/-- 'laws.FnExactSpeedAt': WHATEVER THE INPUT: true; the input reads as it did. -/
def fnExactSpeedAtSpec : ChangeSpec := { name := "fnExactSpeedAt", fn := fun _ => fun
  | [d1, d2] => { results := [.lit (.bool true)], args := [d1, d2] }
  | _ => none }
def fnExactSpeedAtRow : OpenClaim := { program := "ytdopgagehhdknaa", sum := "36600413e33c4e167089e0a2773dbf1918b6ed8bdd72c80790d75f40f2b772cb", func := "loop.example/g00917/laws.FnExactSpeedAt", spec := "fnExactSpeedAt", apart := false }
def FnExactSpeedAtSaid : Prop := fnExactSpeedAtRow.holds Try.pinned (OpenSpec.ofChange fnExactSpeedAtSpec)

/-- ITS FALSE NEIGHBOUR: 'it returns false'. Refute it at one input. -/
def fnExactSpeedAtWrong : ChangeSpec := { name := "fnExactSpeedAt", fn := fun _ => fun
  | [d1, d2] => { results := [.lit (.bool false)], args := [d1, d2] }
  | _ => none }
def FnExactSpeedAtWrongFalsely : Prop := fnExactSpeedAtRow.holds Try.pinned (OpenSpec.ofChange fnExactSpeedAtWrong)

/-- 'laws.FnExactCellAt': WHATEVER THE INPUT: true; the input reads as it did. -/
def fnExactCellAtSpec : ChangeSpec := { name := "fnExactCellAt", fn := fun _ => fun
  | [d1, d2, d3] => { results := [.lit (.bool true)], args := [d1, d2, d3] }
  | _ => none }
def fnExactCellAtRow : OpenClaim := { program := "ytdopgagehhdknaa", sum := "36600413e33c4e167089e0a2773dbf1918b6ed8bdd72c80790d75f40f2b772cb", func := "loop.example/g00917/laws.FnExactCellAt", spec := "fnExactCellAt", unfollowed := true, recurses := true, apart := false }
def FnExactCellAtSaid : Prop := fnExactCellAtRow.holds Try.pinned (OpenSpec.ofChange fnExactCellAtSpec)

/-- ITS FALSE NEIGHBOUR: 'it returns false'. Refute it at one input. -/
def fnExactCellAtWrong : ChangeSpec := { name := "fnExactCellAt", fn := fun _ => fun
  | [d1, d2, d3] => { results := [.lit (.bool false)], args := [d1, d2, d3] }
  | _ => none }
def FnExactCellAtWrongFalsely : Prop := fnExactCellAtRow.holds Try.pinned (OpenSpec.ofChange fnExactCellAtWrong)

/-- 'laws.FnExactIsForecast': WHATEVER THE INPUT: true; the input reads as it did. -/
def fnExactIsForecastSpec : ChangeSpec := { name := "fnExactIsForecast", fn := fun _ => fun
  | [d] => { results := [.lit (.bool true)], args := [d] }
  | _ => none }
def fnExactIsForecastRow : OpenClaim := { program := "ytdopgagehhdknaa", sum := "36600413e33c4e167089e0a2773dbf1918b6ed8bdd72c80790d75f40f2b772cb", func := "loop.example/g00917/laws.FnExactIsForecast", spec := "fnExactIsForecast", unfollowed := true, recurses := true, apart := false }
def FnExactIsForecastSaid : Prop := fnExactIsForecastRow.holds Try.pinned (OpenSpec.ofChange fnExactIsForecastSpec)

/-- ITS FALSE NEIGHBOUR: 'it returns false'. Refute it at one input. -/
def fnExactIsForecastWrong : ChangeSpec := { name := "fnExactIsForecast", fn := fun _ => fun
  | [d] => { results := [.lit (.bool false)], args := [d] }
  | _ => none }
def FnExactIsForecastWrongFalsely : Prop := fnExactIsForecastRow.holds Try.pinned (OpenSpec.ofChange fnExactIsForecastWrong)

/-- 'laws.FnExactPlaceOf': WHATEVER THE INPUT: true; the input reads as it did. -/
def fnExactPlaceOfSpec : ChangeSpec := { name := "fnExactPlaceOf", fn := fun _ => fun
  | [d1, d2] => { results := [.lit (.bool true)], args := [d1, d2] }
  | _ => none }
def fnExactPlaceOfRow : OpenClaim := { program := "ytdopgagehhdknaa", sum := "36600413e33c4e167089e0a2773dbf1918b6ed8bdd72c80790d75f40f2b772cb", func := "loop.example/g00917/laws.FnExactPlaceOf", spec := "fnExactPlaceOf", unfollowed := true, recurses := true, apart := false }
def FnExactPlaceOfSaid : Prop := fnExactPlaceOfRow.holds Try.pinned (OpenSpec.ofChange fnExactPlaceOfSpec)

/-- ITS FALSE NEIGHBOUR: 'it returns false'. Refute it at one input. -/
def fnExactPlaceOfWrong : ChangeSpec := { name := "fnExactPlaceOf", fn := fun _ => fun
  | [d1, d2] => { results := [.lit (.bool false)], args := [d1, d2] }
  | _ => none }
def FnExactPlaceOfWrongFalsely : Prop := fnExactPlaceOfRow.holds Try.pinned (OpenSpec.ofChange fnExactPlaceOfWrong)

/-- 'laws.FnExactWorkDone': WHATEVER THE INPUT: true; the input reads as it did. -/
def fnExactWorkDoneSpec : ChangeSpec := { name := "fnExactWorkDone", fn := fun _ => fun
  | [d1, d2, d3] => { results := [.lit (.bool true)], args := [d1, d2, d3] }
  | _ => none }
def fnExactWorkDoneRow : OpenClaim := { program := "ytdopgagehhdknaa", sum := "36600413e33c4e167089e0a2773dbf1918b6ed8bdd72c80790d75f40f2b772cb", func := "loop.example/g00917/laws.FnExactWorkDone", spec := "fnExactWorkDone", apart := false }
def FnExactWorkDoneSaid : Prop := fnExactWorkDoneRow.holds Try.pinned (OpenSpec.ofChange fnExactWorkDoneSpec)

/-- ITS FALSE NEIGHBOUR: 'it returns false'. Refute it at one input. -/
def fnExactWorkDoneWrong : ChangeSpec := { name := "fnExactWorkDone", fn := fun _ => fun
  | [d1, d2, d3] => { results := [.lit (.bool false)], args := [d1, d2, d3] }
  | _ => none }
def FnExactWorkDoneWrongFalsely : Prop := fnExactWorkDoneRow.holds Try.pinned (OpenSpec.ofChange fnExactWorkDoneWrong)

/-- 'laws.FnExactStepsApart': WHATEVER THE INPUT: true; the input reads as it did. -/
def fnExactStepsApartSpec : ChangeSpec := { name := "fnExactStepsApart", fn := fun _ => fun
  | [d1, d2, d3] => { results := [.lit (.bool true)], args := [d1, d2, d3] }
  | _ => none }
def fnExactStepsApartRow : OpenClaim := { program := "ytdopgagehhdknaa", sum := "36600413e33c4e167089e0a2773dbf1918b6ed8bdd72c80790d75f40f2b772cb", func := "loop.example/g00917/laws.FnExactStepsApart", spec := "fnExactStepsApart", unfollowed := true, recurses := true, apart := false }
def FnExactStepsApartSaid : Prop := fnExactStepsApartRow.holds Try.pinned (OpenSpec.ofChange fnExactStepsApartSpec)

/-- ITS FALSE NEIGHBOUR: 'it returns false'. Refute it at one input. -/
def fnExactStepsApartWrong : ChangeSpec := { name := "fnExactStepsApart", fn := fun _ => fun
  | [d1, d2, d3] => { results := [.lit (.bool false)], args := [d1, d2, d3] }
  | _ => none }
def FnExactStepsApartWrongFalsely : Prop := fnExactStepsApartRow.holds Try.pinned (OpenSpec.ofChange fnExactStepsApartWrong)

/-- 'laws.FnExactStrongestHour': WHATEVER THE INPUT: true; the input reads as it did. -/
def fnExactStrongestHourSpec : ChangeSpec := { name := "fnExactStrongestHour", fn := fun _ => fun
  | [d] => { results := [.lit (.bool true)], args := [d] }
  | _ => none }
def fnExactStrongestHourRow : OpenClaim := { program := "ytdopgagehhdknaa", sum := "36600413e33c4e167089e0a2773dbf1918b6ed8bdd72c80790d75f40f2b772cb", func := "loop.example/g00917/laws.FnExactStrongestHour", spec := "fnExactStrongestHour", unfollowed := true, recurses := true, apart := false }
def FnExactStrongestHourSaid : Prop := fnExactStrongestHourRow.holds Try.pinned (OpenSpec.ofChange fnExactStrongestHourSpec)

/-- ITS FALSE NEIGHBOUR: 'it returns false'. Refute it at one input. -/
def fnExactStrongestHourWrong : ChangeSpec := { name := "fnExactStrongestHour", fn := fun _ => fun
  | [d] => { results := [.lit (.bool false)], args := [d] }
  | _ => none }
def FnExactStrongestHourWrongFalsely : Prop := fnExactStrongestHourRow.holds Try.pinned (OpenSpec.ofChange fnExactStrongestHourWrong)

/-- 'laws.FnExactTerrainText': WHATEVER THE INPUT: true; the input reads as it did. -/
def fnExactTerrainTextSpec : ChangeSpec := { name := "fnExactTerrainText", fn := fun _ => fun
  | [d] => { results := [.lit (.bool true)], args := [d] }
  | _ => none }
def fnExactTerrainTextRow : OpenClaim := { program := "ytdopgagehhdknaa", sum := "36600413e33c4e167089e0a2773dbf1918b6ed8bdd72c80790d75f40f2b772cb", func := "loop.example/g00917/laws.FnExactTerrainText", spec := "fnExactTerrainText", unfollowed := true, recurses := true, apart := false }
def FnExactTerrainTextSaid : Prop := fnExactTerrainTextRow.holds Try.pinned (OpenSpec.ofChange fnExactTerrainTextSpec)

/-- ITS FALSE NEIGHBOUR: 'it returns false'. Refute it at one input. -/
def fnExactTerrainTextWrong : ChangeSpec := { name := "fnExactTerrainText", fn := fun _ => fun
  | [d] => { results := [.lit (.bool false)], args := [d] }
  | _ => none }
def FnExactTerrainTextWrongFalsely : Prop := fnExactTerrainTextRow.holds Try.pinned (OpenSpec.ofChange fnExactTerrainTextWrong)

/-- 'laws.FnExactAreFuels': WHATEVER THE INPUT: true; the input reads as it did. -/
def fnExactAreFuelsSpec : ChangeSpec := { name := "fnExactAreFuels", fn := fun _ => fun
  | [d] => { results := [.lit (.bool true)], args := [d] }
  | _ => none }
def fnExactAreFuelsRow : OpenClaim := { program := "ytdopgagehhdknaa", sum := "36600413e33c4e167089e0a2773dbf1918b6ed8bdd72c80790d75f40f2b772cb", func := "loop.example/g00917/laws.FnExactAreFuels", spec := "fnExactAreFuels", unfollowed := true, recurses := true, apart := false }
def FnExactAreFuelsSaid : Prop := fnExactAreFuelsRow.holds Try.pinned (OpenSpec.ofChange fnExactAreFuelsSpec)

/-- ITS FALSE NEIGHBOUR: 'it returns false'. Refute it at one input. -/
def fnExactAreFuelsWrong : ChangeSpec := { name := "fnExactAreFuels", fn := fun _ => fun
  | [d] => { results := [.lit (.bool false)], args := [d] }
  | _ => none }
def FnExactAreFuelsWrongFalsely : Prop := fnExactAreFuelsRow.holds Try.pinned (OpenSpec.ofChange fnExactAreFuelsWrong)

/-- 'laws.FnExactBurnableCells': WHATEVER THE INPUT: true; the input reads as it did. -/
def fnExactBurnableCellsSpec : ChangeSpec := { name := "fnExactBurnableCells", fn := fun _ => fun
  | [d] => { results := [.lit (.bool true)], args := [d] }
  | _ => none }
def fnExactBurnableCellsRow : OpenClaim := { program := "ytdopgagehhdknaa", sum := "36600413e33c4e167089e0a2773dbf1918b6ed8bdd72c80790d75f40f2b772cb", func := "loop.example/g00917/laws.FnExactBurnableCells", spec := "fnExactBurnableCells", unfollowed := true, recurses := true, apart := false }
def FnExactBurnableCellsSaid : Prop := fnExactBurnableCellsRow.holds Try.pinned (OpenSpec.ofChange fnExactBurnableCellsSpec)

/-- ITS FALSE NEIGHBOUR: 'it returns false'. Refute it at one input. -/
def fnExactBurnableCellsWrong : ChangeSpec := { name := "fnExactBurnableCells", fn := fun _ => fun
  | [d] => { results := [.lit (.bool false)], args := [d] }
  | _ => none }
def FnExactBurnableCellsWrongFalsely : Prop := fnExactBurnableCellsRow.holds Try.pinned (OpenSpec.ofChange fnExactBurnableCellsWrong)

/- THE SECOND FORM. 'bulk': how many values and letters a reading holds, each counted each time it is reached (what is shared counts as often as it is met; a slice's spare places count too). A statement '..UptoSaid' is the law's where the arguments, and the package variables that the reading takes, are together of bulk at most 1048576: NARROWER than '..Said'. Prove '..Said' where nothing that the law and all that it calls make is longer than what came in: it says more and counts as full. Else prove '..UptoSaid'. A law counts once. -/
mutual
def uptoBulk {H : Type} : DataW H → Nat
  | .lit (.string bytes) => bytes.length + 1
  | .lit _ => 1
  | .nil => 1
  | .ptr d => uptoBulk d + 1
  | .slice elems spare => uptoBulkAll elems + uptoBulkAll spare + 1
  | .agg parts => uptoBulkAll parts + 1
  | .iface _ d => uptoBulk d + 1
  | .map entries => uptoBulkEntries entries + 1
  | .held _ => 1
def uptoBulkAll {H : Type} : List (DataW H) → Nat
  | [] => 0
  | d :: r => uptoBulk d + uptoBulkAll r
def uptoBulkEntries {H : Type} : List (Lit × DataW H) → Nat
  | [] => 0
  | x :: r => uptoBulkEntry x + uptoBulkEntries r
def uptoBulkEntry {H : Type} : Lit × DataW H → Nat
  | (.string bytes, d) => bytes.length + uptoBulk d + 1
  | (_, d) => uptoBulk d + 1
 end
def uptoSmall : (H : Type) → List (DataW H) → Bool := fun _ ds => decide (uptoBulkAll ds ≤ 1048576)
def OpenSpec.upto (s : _root_.Go.ChangeSpec) : _root_.Go.OpenSpec := { _root_.Go.OpenSpec.ofChange s with cond := some uptoSmall }

/-- 'laws.FnExactArePhases', WHERE WHAT IT READS IS OF BULK AT MOST 1048576: true; the input reads as it did. -/
def fnExactArePhasesUptoRow : OpenClaim := { program := "ytdopgagehhdknaa", sum := "36600413e33c4e167089e0a2773dbf1918b6ed8bdd72c80790d75f40f2b772cb", func := "loop.example/g00917/laws.FnExactArePhases", spec := "fnExactArePhases", apart := false, narrowed := true }
def FnExactArePhasesUptoSaid : Prop := fnExactArePhasesUptoRow.holds Try.pinned (OpenSpec.upto fnExactArePhasesSpec)

/-- 'laws.FnExactIsTerrain', WHERE WHAT IT READS IS OF BULK AT MOST 1048576: true; the input reads as it did. -/
def fnExactIsTerrainUptoRow : OpenClaim := { program := "ytdopgagehhdknaa", sum := "36600413e33c4e167089e0a2773dbf1918b6ed8bdd72c80790d75f40f2b772cb", func := "loop.example/g00917/laws.FnExactIsTerrain", spec := "fnExactIsTerrain", unfollowed := true, recurses := true, apart := false, narrowed := true }
def FnExactIsTerrainUptoSaid : Prop := fnExactIsTerrainUptoRow.holds Try.pinned (OpenSpec.upto fnExactIsTerrainSpec)

/-- 'laws.FnExactSpeedAt', WHERE WHAT IT READS IS OF BULK AT MOST 1048576: true; the input reads as it did. -/
def fnExactSpeedAtUptoRow : OpenClaim := { program := "ytdopgagehhdknaa", sum := "36600413e33c4e167089e0a2773dbf1918b6ed8bdd72c80790d75f40f2b772cb", func := "loop.example/g00917/laws.FnExactSpeedAt", spec := "fnExactSpeedAt", apart := false, narrowed := true }
def FnExactSpeedAtUptoSaid : Prop := fnExactSpeedAtUptoRow.holds Try.pinned (OpenSpec.upto fnExactSpeedAtSpec)

/-- 'laws.FnExactCellAt', WHERE WHAT IT READS IS OF BULK AT MOST 1048576: true; the input reads as it did. -/
def fnExactCellAtUptoRow : OpenClaim := { program := "ytdopgagehhdknaa", sum := "36600413e33c4e167089e0a2773dbf1918b6ed8bdd72c80790d75f40f2b772cb", func := "loop.example/g00917/laws.FnExactCellAt", spec := "fnExactCellAt", unfollowed := true, recurses := true, apart := false, narrowed := true }
def FnExactCellAtUptoSaid : Prop := fnExactCellAtUptoRow.holds Try.pinned (OpenSpec.upto fnExactCellAtSpec)

/-- 'laws.FnExactIsForecast', WHERE WHAT IT READS IS OF BULK AT MOST 1048576: true; the input reads as it did. -/
def fnExactIsForecastUptoRow : OpenClaim := { program := "ytdopgagehhdknaa", sum := "36600413e33c4e167089e0a2773dbf1918b6ed8bdd72c80790d75f40f2b772cb", func := "loop.example/g00917/laws.FnExactIsForecast", spec := "fnExactIsForecast", unfollowed := true, recurses := true, apart := false, narrowed := true }
def FnExactIsForecastUptoSaid : Prop := fnExactIsForecastUptoRow.holds Try.pinned (OpenSpec.upto fnExactIsForecastSpec)

/-- 'laws.FnExactPlaceOf', WHERE WHAT IT READS IS OF BULK AT MOST 1048576: true; the input reads as it did. -/
def fnExactPlaceOfUptoRow : OpenClaim := { program := "ytdopgagehhdknaa", sum := "36600413e33c4e167089e0a2773dbf1918b6ed8bdd72c80790d75f40f2b772cb", func := "loop.example/g00917/laws.FnExactPlaceOf", spec := "fnExactPlaceOf", unfollowed := true, recurses := true, apart := false, narrowed := true }
def FnExactPlaceOfUptoSaid : Prop := fnExactPlaceOfUptoRow.holds Try.pinned (OpenSpec.upto fnExactPlaceOfSpec)

/-- 'laws.FnExactWorkDone', WHERE WHAT IT READS IS OF BULK AT MOST 1048576: true; the input reads as it did. -/
def fnExactWorkDoneUptoRow : OpenClaim := { program := "ytdopgagehhdknaa", sum := "36600413e33c4e167089e0a2773dbf1918b6ed8bdd72c80790d75f40f2b772cb", func := "loop.example/g00917/laws.FnExactWorkDone", spec := "fnExactWorkDone", apart := false, narrowed := true }
def FnExactWorkDoneUptoSaid : Prop := fnExactWorkDoneUptoRow.holds Try.pinned (OpenSpec.upto fnExactWorkDoneSpec)

/-- 'laws.FnExactStepsApart', WHERE WHAT IT READS IS OF BULK AT MOST 1048576: true; the input reads as it did. -/
def fnExactStepsApartUptoRow : OpenClaim := { program := "ytdopgagehhdknaa", sum := "36600413e33c4e167089e0a2773dbf1918b6ed8bdd72c80790d75f40f2b772cb", func := "loop.example/g00917/laws.FnExactStepsApart", spec := "fnExactStepsApart", unfollowed := true, recurses := true, apart := false, narrowed := true }
def FnExactStepsApartUptoSaid : Prop := fnExactStepsApartUptoRow.holds Try.pinned (OpenSpec.upto fnExactStepsApartSpec)

/-- 'laws.FnExactStrongestHour', WHERE WHAT IT READS IS OF BULK AT MOST 1048576: true; the input reads as it did. -/
def fnExactStrongestHourUptoRow : OpenClaim := { program := "ytdopgagehhdknaa", sum := "36600413e33c4e167089e0a2773dbf1918b6ed8bdd72c80790d75f40f2b772cb", func := "loop.example/g00917/laws.FnExactStrongestHour", spec := "fnExactStrongestHour", unfollowed := true, recurses := true, apart := false, narrowed := true }
def FnExactStrongestHourUptoSaid : Prop := fnExactStrongestHourUptoRow.holds Try.pinned (OpenSpec.upto fnExactStrongestHourSpec)

/-- 'laws.FnExactTerrainText', WHERE WHAT IT READS IS OF BULK AT MOST 1048576: true; the input reads as it did. -/
def fnExactTerrainTextUptoRow : OpenClaim := { program := "ytdopgagehhdknaa", sum := "36600413e33c4e167089e0a2773dbf1918b6ed8bdd72c80790d75f40f2b772cb", func := "loop.example/g00917/laws.FnExactTerrainText", spec := "fnExactTerrainText", unfollowed := true, recurses := true, apart := false, narrowed := true }
def FnExactTerrainTextUptoSaid : Prop := fnExactTerrainTextUptoRow.holds Try.pinned (OpenSpec.upto fnExactTerrainTextSpec)

/-- 'laws.FnExactAreFuels', WHERE WHAT IT READS IS OF BULK AT MOST 1048576: true; the input reads as it did. -/
def fnExactAreFuelsUptoRow : OpenClaim := { program := "ytdopgagehhdknaa", sum := "36600413e33c4e167089e0a2773dbf1918b6ed8bdd72c80790d75f40f2b772cb", func := "loop.example/g00917/laws.FnExactAreFuels", spec := "fnExactAreFuels", unfollowed := true, recurses := true, apart := false, narrowed := true }
def FnExactAreFuelsUptoSaid : Prop := fnExactAreFuelsUptoRow.holds Try.pinned (OpenSpec.upto fnExactAreFuelsSpec)

/-- 'laws.FnExactBurnableCells', WHERE WHAT IT READS IS OF BULK AT MOST 1048576: true; the input reads as it did. -/
def fnExactBurnableCellsUptoRow : OpenClaim := { program := "ytdopgagehhdknaa", sum := "36600413e33c4e167089e0a2773dbf1918b6ed8bdd72c80790d75f40f2b772cb", func := "loop.example/g00917/laws.FnExactBurnableCells", spec := "fnExactBurnableCells", unfollowed := true, recurses := true, apart := false, narrowed := true }
def FnExactBurnableCellsUptoSaid : Prop := fnExactBurnableCellsUptoRow.holds Try.pinned (OpenSpec.upto fnExactBurnableCellsSpec)

end Rows
end Go.Proofs.Ytdopgagehhdknaa
