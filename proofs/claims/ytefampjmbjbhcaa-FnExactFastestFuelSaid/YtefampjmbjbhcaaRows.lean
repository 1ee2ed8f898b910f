/-
  No cell of these rows narrows 'for every input' (looked for: loops, veiled, ifaces, maps, wideKeys, modest, calm, conditions, laid).
  DERIVED. THE GIVEN ROWS OF THIS SEAT. 8 by the template 'for every input the law returns true; each argument reads behind the call as it read before'; 0 by the template 'total and deterministic' (their statements: YtefampjmbjbhcaaTotals.lean).
  GIVEN WITH THE SEED: the statements are not yours to turn. If you find one false, say at which input.
  Laid BY PROGRAM, IN A SANDBOX (cutbox-rows.mjs): the forced cells as the released guide's own fill.sh prints them over the translation dcf3357eb5bba8be… (all of the seat's roots in one cut). By AI agents, Wed Nov 11 2026. No macro, syntax, notation, axiom, sorry.
-/
import Derived.Test.YtefampjmbjbhcaaChecked
import GoSem.Claim
import GoSem.ClaimJoined
import GoSem.ClaimMapViews
import Derived.JoinedTies
import Derived.KernelRfl
namespace Go.Proofs.Ytefampjmbjbhcaa
/- THE CELL 'sum', in the pinned program and in every row, IS THE sha256 OF THE DUMP (.gsa) THAT YtefampjmbjbhcaaProg.lean LOADS. Nothing in Lean hashes anything: it is a label: what it is worth is what the hold of that sum in a sandbox is worth. -/
noncomputable def Try.pinned : Pinned := { name := "ytefampjmbjbhcaa", sum := "dcf3357eb5bba8be5197d18b26fdf3e83f152afb63d7d6438a53eb5b31191781", checked := Try.checked }
namespace Rows
def none {H : Type} : Left H := { results := [], args := [] }

/-- 'laws.FnExactFillRegion': WHATEVER THE INPUT: true; the input reads as it did. -/
def fnExactFillRegionSpec : ChangeSpec := { name := "fnExactFillRegion", fn := fun _ => fun
  | [d1, d2] => { results := [.lit (.bool true)], args := [d1, d2] }
  | _ => none }
def fnExactFillRegionRow : OpenClaim := { program := "ytefampjmbjbhcaa", sum := "dcf3357eb5bba8be5197d18b26fdf3e83f152afb63d7d6438a53eb5b31191781", func := "loop.example/g00917/laws.FnExactFillRegion", spec := "fnExactFillRegion", unfollowed := true, recurses := true, apart := false }
def FnExactFillRegionSaid : Prop := fnExactFillRegionRow.holds Try.pinned (OpenSpec.ofChange fnExactFillRegionSpec)

/-- ITS FALSE NEIGHBOUR: 'it returns false'. Refute it at one input. -/
def fnExactFillRegionWrong : ChangeSpec := { name := "fnExactFillRegion", fn := fun _ => fun
  | [d1, d2] => { results := [.lit (.bool false)], args := [d1, d2] }
  | _ => none }
def FnExactFillRegionWrongFalsely : Prop := fnExactFillRegionRow.holds Try.pinned (OpenSpec.ofChange fnExactFillRegionWrong)

/-- 'laws.FnSpeeds': WHATEVER THE INPUT: true; the input reads as it did. -/
def fnSpeedsSpec : ChangeSpec := { name := "fnSpeeds", fn := fun _ => fun
  | [d] => { results := [.lit (.bool true)], args := [d] }
  | _ => none }
def fnSpeedsRow : OpenClaim := { program := "ytefampjmbjbhcaa", sum := "dcf3357eb5bba8be5197d18b26fdf3e83f152afb63d7d6438a53eb5b31191781", func := "loop.example/g00917/laws.FnSpeeds", spec := "fnSpeeds", apart := false }
def FnSpeedsSaid : Prop := fnSpeedsRow.holds Try.pinned (OpenSpec.ofChange fnSpeedsSpec)

/-- ITS FALSE NEIGHBOUR: 'it returns false'. Refute it at one input. -/
def fnSpeedsWrong : ChangeSpec := { name := "fnSpeeds", fn := fun _ => fun
  | [d] => { results := [.lit (.bool false)], args := [d] }
  | _ => none }
def FnSpeedsWrongFalsely : Prop := fnSpeedsRow.holds Try.pinned (OpenSpec.ofChange fnSpeedsWrong)

/-- 'laws.FnExactRedFlagHours': WHATEVER THE INPUT: true; the input reads as it did. -/
def fnExactRedFlagHoursSpec : ChangeSpec := { name := "fnExactRedFlagHours", fn := fun _ => fun
  | [d1, d2, d3] => { results := [.lit (.bool true)], args := [d1, d2, d3] }
  | _ => none }
def fnExactRedFlagHoursRow : OpenClaim := { program := "ytefampjmbjbhcaa", sum := "dcf3357eb5bba8be5197d18b26fdf3e83f152afb63d7d6438a53eb5b31191781", func := "loop.example/g00917/laws.FnExactRedFlagHours", spec := "fnExactRedFlagHours", unfollowed := true, recurses := true, apart := false }
def FnExactRedFlagHoursSaid : Prop := fnExactRedFlagHoursRow.holds Try.pinned (OpenSpec.ofChange fnExactRedFlagHoursSpec)

/-- ITS FALSE NEIGHBOUR: 'it returns false'. Refute it at one input. -/
def fnExactRedFlagHoursWrong : ChangeSpec := { name := "fnExactRedFlagHours", fn := fun _ => fun
  | [d1, d2, d3] => { results := [.lit (.bool false)], args := [d1, d2, d3] }
  | _ => none }
def FnExactRedFlagHoursWrongFalsely : Prop := fnExactRedFlagHoursRow.holds Try.pinned (OpenSpec.ofChange fnExactRedFlagHoursWrong)

/-- 'laws.FnExactFastestFuel': WHATEVER THE INPUT: true; the input reads as it did. -/
def fnExactFastestFuelSpec : ChangeSpec := { name := "fnExactFastestFuel", fn := fun _ => fun
  | [d1, d2] => { results := [.lit (.bool true)], args := [d1, d2] }
  | _ => none }
def fnExactFastestFuelRow : OpenClaim := { program := "ytefampjmbjbhcaa", sum := "dcf3357eb5bba8be5197d18b26fdf3e83f152afb63d7d6438a53eb5b31191781", func := "loop.example/g00917/laws.FnExactFastestFuel", spec := "fnExactFastestFuel", unfollowed := true, recurses := true, apart := false }
def FnExactFastestFuelSaid : Prop := fnExactFastestFuelRow.holds Try.pinned (OpenSpec.ofChange fnExactFastestFuelSpec)

/-- ITS FALSE NEIGHBOUR: 'it returns false'. Refute it at one input. -/
def fnExactFastestFuelWrong : ChangeSpec := { name := "fnExactFastestFuel", fn := fun _ => fun
  | [d1, d2] => { results := [.lit (.bool false)], args := [d1, d2] }
  | _ => none }
def FnExactFastestFuelWrongFalsely : Prop := fnExactFastestFuelRow.holds Try.pinned (OpenSpec.ofChange fnExactFastestFuelWrong)

/-- 'laws.FnExactAreFuels': WHATEVER THE INPUT: true; the input reads as it did. -/
def fnExactAreFuelsSpec : ChangeSpec := { name := "fnExactAreFuels", fn := fun _ => fun
  | [d] => { results := [.lit (.bool true)], args := [d] }
  | _ => none }
def fnExactAreFuelsRow : OpenClaim := { program := "ytefampjmbjbhcaa", sum := "dcf3357eb5bba8be5197d18b26fdf3e83f152afb63d7d6438a53eb5b31191781", func := "loop.example/g00917/laws.FnExactAreFuels", spec := "fnExactAreFuels", unfollowed := true, recurses := true, apart := false }
def FnExactAreFuelsSaid : Prop := fnExactAreFuelsRow.holds Try.pinned (OpenSpec.ofChange fnExactAreFuelsSpec)

/-- ITS FALSE NEIGHBOUR: 'it returns false'. Refute it at one input. -/
def fnExactAreFuelsWrong : ChangeSpec := { name := "fnExactAreFuels", fn := fun _ => fun
  | [d] => { results := [.lit (.bool false)], args := [d] }
  | _ => none }
def FnExactAreFuelsWrongFalsely : Prop := fnExactAreFuelsRow.holds Try.pinned (OpenSpec.ofChange fnExactAreFuelsWrong)

/-- 'laws.FnExactAddFuel': WHATEVER THE INPUT: true; the input reads as it did. -/
def fnExactAddFuelSpec : ChangeSpec := { name := "fnExactAddFuel", fn := fun _ => fun
  | [d1, d2] => { results := [.lit (.bool true)], args := [d1, d2] }
  | _ => none }
def fnExactAddFuelRow : OpenClaim := { program := "ytefampjmbjbhcaa", sum := "dcf3357eb5bba8be5197d18b26fdf3e83f152afb63d7d6438a53eb5b31191781", func := "loop.example/g00917/laws.FnExactAddFuel", spec := "fnExactAddFuel", unfollowed := true, recurses := true, apart := false }
def FnExactAddFuelSaid : Prop := fnExactAddFuelRow.holds Try.pinned (OpenSpec.ofChange fnExactAddFuelSpec)

/-- ITS FALSE NEIGHBOUR: 'it returns false'. Refute it at one input. -/
def fnExactAddFuelWrong : ChangeSpec := { name := "fnExactAddFuel", fn := fun _ => fun
  | [d1, d2] => { results := [.lit (.bool false)], args := [d1, d2] }
  | _ => none }
def FnExactAddFuelWrongFalsely : Prop := fnExactAddFuelRow.holds Try.pinned (OpenSpec.ofChange fnExactAddFuelWrong)

/-- 'laws.FnExactBurningFuels': WHATEVER THE INPUT: true; the input reads as it did. -/
def fnExactBurningFuelsSpec : ChangeSpec := { name := "fnExactBurningFuels", fn := fun _ => fun
  | [d1, d2] => { results := [.lit (.bool true)], args := [d1, d2] }
  | _ => none }
def fnExactBurningFuelsRow : OpenClaim := { program := "ytefampjmbjbhcaa", sum := "dcf3357eb5bba8be5197d18b26fdf3e83f152afb63d7d6438a53eb5b31191781", func := "loop.example/g00917/laws.FnExactBurningFuels", spec := "fnExactBurningFuels", unfollowed := true, recurses := true, apart := false }
def FnExactBurningFuelsSaid : Prop := fnExactBurningFuelsRow.holds Try.pinned (OpenSpec.ofChange fnExactBurningFuelsSpec)

/-- ITS FALSE NEIGHBOUR: 'it returns false'. Refute it at one input. -/
def fnExactBurningFuelsWrong : ChangeSpec := { name := "fnExactBurningFuels", fn := fun _ => fun
  | [d1, d2] => { results := [.lit (.bool false)], args := [d1, d2] }
  | _ => none }
def FnExactBurningFuelsWrongFalsely : Prop := fnExactBurningFuelsRow.holds Try.pinned (OpenSpec.ofChange fnExactBurningFuelsWrong)

/-- 'laws.FnForecasts': WHATEVER THE INPUT: true; the input reads as it did. -/
def fnForecastsSpec : ChangeSpec := { name := "fnForecasts", fn := fun _ => fun
  | [d] => { results := [.lit (.bool true)], args := [d] }
  | _ => none }
def fnForecastsRow : OpenClaim := { program := "ytefampjmbjbhcaa", sum := "dcf3357eb5bba8be5197d18b26fdf3e83f152afb63d7d6438a53eb5b31191781", func := "loop.example/g00917/laws.FnForecasts", spec := "fnForecasts", unfollowed := true, recurses := true, apart := false }
def FnForecastsSaid : Prop := fnForecastsRow.holds Try.pinned (OpenSpec.ofChange fnForecastsSpec)

/-- ITS FALSE NEIGHBOUR: 'it returns false'. Refute it at one input. -/
def fnForecastsWrong : ChangeSpec := { name := "fnForecasts", fn := fun _ => fun
  | [d] => { results := [.lit (.bool false)], args := [d] }
  | _ => none }
def FnForecastsWrongFalsely : Prop := fnForecastsRow.holds Try.pinned (OpenSpec.ofChange fnForecastsWrong)

/- THE SECOND FORM. 'bulk': how many values and letters a reading holds, each counted each time it is reached (what is shared counts as often as it is met; a slice's spare places count too). A statement '..UptoSaid' is the law's where the arguments, and the package variables that the reading takes, are together of bulk at most 1048576: NARROWER than '..Said'. Prove '..Said' where nothing that the law and all that it calls make is longer than what came in: it says more and counts as full. Else prove '..UptoSaid'. A law counts once. -/
mutual
def uptoBulk {H : Type} : DataW H → Nat
  | .lit (.string bytes) => bytes.length + 1
  | .lit _ => 1
  | .nil => 1
  | .ptr d => uptoBulk d + 1
  | .slice elems spare => uptoBulkAll elems + uptoBulkAll spare + 1
  | .agg parts => uptoBulkAll parts + 1
  | .iface _ d => uptoBulk d + 1
  | .map entries => uptoBulkEntries entries + 1
  | .held _ => 1
def uptoBulkAll {H : Type} : List (DataW H) → Nat
  | [] => 0
  | d :: r => uptoBulk d + uptoBulkAll r
def uptoBulkEntries {H : Type} : List (Lit × DataW H) → Nat
  | [] => 0
  | x :: r => uptoBulkEntry x + uptoBulkEntries r
def uptoBulkEntry {H : Type} : Lit × DataW H → Nat
  | (.string bytes, d) => bytes.length + uptoBulk d + 1
  | (_, d) => uptoBulk d + 1
 end
def uptoSmall : (H : Type) → List (DataW H) → Bool := fun _ ds => decide (uptoBulkAll ds ≤ 1048576)
def OpenSpec.upto (s : _root_.Go.ChangeSpec) : _root_.Go.OpenSpec := { _root_.Go.OpenSpec.ofChange s with cond := some uptoSmall }

/-- 'laws.FnExactFillRegion', WHERE WHAT IT READS IS OF BULK AT MOST 1048576: true; the input reads as it did. -/
def fnExactFillRegionUptoRow : OpenClaim := { program := "ytefampjmbjbhcaa", sum := "dcf3357eb5bba8be5197d18b26fdf3e83f152afb63d7d6438a53eb5b31191781", func := "loop.example/g00917/laws.FnExactFillRegion", spec := "fnExactFillRegion", unfollowed := true, recurses := true, apart := false, narrowed := true }
def FnExactFillRegionUptoSaid : Prop := fnExactFillRegionUptoRow.holds Try.pinned (OpenSpec.upto fnExactFillRegionSpec)

/-- 'laws.FnSpeeds', WHERE WHAT IT READS IS OF BULK AT MOST 1048576: true; the input reads as it did. -/
def fnSpeedsUptoRow : OpenClaim := { program := "ytefampjmbjbhcaa", sum := "dcf3357eb5bba8be5197d18b26fdf3e83f152afb63d7d6438a53eb5b31191781", func := "loop.example/g00917/laws.FnSpeeds", spec := "fnSpeeds", apart := false, narrowed := true }
def FnSpeedsUptoSaid : Prop := fnSpeedsUptoRow.holds Try.pinned (OpenSpec.upto fnSpeedsSpec)

/-- 'laws.FnExactRedFlagHours', WHERE WHAT IT READS IS OF BULK AT MOST 1048576: true; the input reads as it did. -/
def fnExactRedFlagHoursUptoRow : OpenClaim := { program := "ytefampjmbjbhcaa", sum := "dcf3357eb5bba8be5197d18b26fdf3e83f152afb63d7d6438a53eb5b31191781", func := "loop.example/g00917/laws.FnExactRedFlagHours", spec := "fnExactRedFlagHours", unfollowed := true, recurses := true, apart := false, narrowed := true }
def FnExactRedFlagHoursUptoSaid : Prop := fnExactRedFlagHoursUptoRow.holds Try.pinned (OpenSpec.upto fnExactRedFlagHoursSpec)

/-- 'laws.FnExactFastestFuel', WHERE WHAT IT READS IS OF BULK AT MOST 1048576: true; the input reads as it did. -/
def fnExactFastestFuelUptoRow : OpenClaim := { program := "ytefampjmbjbhcaa", sum := "dcf3357eb5bba8be5197d18b26fdf3e83f152afb63d7d6438a53eb5b31191781", func := "loop.example/g00917/laws.FnExactFastestFuel", spec := "fnExactFastestFuel", unfollowed := true, recurses := true, apart := false, narrowed := true }
def FnExactFastestFuelUptoSaid : Prop := fnExactFastestFuelUptoRow.holds Try.pinned (OpenSpec.upto fnExactFastestFuelSpec)

/-- 'laws.FnExactAreFuels', WHERE WHAT IT READS IS OF BULK AT MOST 1048576: true; the input reads as it did. -/
def fnExactAreFuelsUptoRow : OpenClaim := { program := "ytefampjmbjbhcaa", sum := "dcf3357eb5bba8be5197d18b26fdf3e83f152afb63d7d6438a53eb5b31191781", func := "loop.example/g00917/laws.FnExactAreFuels", spec := "fnExactAreFuels", unfollowed := true, recurses := true, apart := false, narrowed := true }
def FnExactAreFuelsUptoSaid : Prop := fnExactAreFuelsUptoRow.holds Try.pinned (OpenSpec.upto fnExactAreFuelsSpec)

/-- 'laws.FnExactAddFuel', WHERE WHAT IT READS IS OF BULK AT MOST 1048576: true; the input reads as it did. -/
def fnExactAddFuelUptoRow : OpenClaim := { program := "ytefampjmbjbhcaa", sum := "dcf3357eb5bba8be5197d18b26fdf3e83f152afb63d7d6438a53eb5b31191781", func := "loop.example/g00917/laws.FnExactAddFuel", spec := "fnExactAddFuel", unfollowed := true, recurses := true, apart := false, narrowed := true }
def FnExactAddFuelUptoSaid : Prop := fnExactAddFuelUptoRow.holds Try.pinned (OpenSpec.upto fnExactAddFuelSpec)

/-- 'laws.FnExactBurningFuels', WHERE WHAT IT READS IS OF BULK AT MOST 1048576: true; the input reads as it did. -/
def fnExactBurningFuelsUptoRow : OpenClaim := { program := "ytefampjmbjbhcaa", sum := "dcf3357eb5bba8be5197d18b26fdf3e83f152afb63d7d6438a53eb5b31191781", func := "loop.example/g00917/laws.FnExactBurningFuels", spec := "fnExactBurningFuels", unfollowed := true, recurses := true, apart := false, narrowed := true }
def FnExactBurningFuelsUptoSaid : Prop := fnExactBurningFuelsUptoRow.holds Try.pinned (OpenSpec.upto fnExactBurningFuelsSpec)

/-- 'laws.FnForecasts', WHERE WHAT IT READS IS OF BULK AT MOST 1048576: true; the input reads as it did. -/
def fnForecastsUptoRow : OpenClaim := { program := "ytefampjmbjbhcaa", sum := "dcf3357eb5bba8be5197d18b26fdf3e83f152afb63d7d6438a53eb5b31191781", func := "loop.example/g00917/laws.FnForecasts", spec := "fnForecasts", unfollowed := true, recurses := true, apart := false, narrowed := true }
def FnForecastsUptoSaid : Prop := fnForecastsUptoRow.holds Try.pinned (OpenSpec.upto fnForecastsSpec)

end Rows
end Go.Proofs.Ytefampjmbjbhcaa
