/-
  No cell of these rows narrows 'for every input' (looked for: loops, veiled, ifaces, maps, wideKeys, modest, calm, conditions, laid).
  DERIVED. THE GIVEN ROWS OF THIS SEAT. 9 by the template 'for every input the law returns true; each argument reads behind the call as it read before'; 0 by the template 'total and deterministic' (their statements: YtnacofmjipilhaaTotals.lean).
  GIVEN WITH THE SEED: the statements are not yours to turn. If you find one false, say at which input.
  Laid BY PROGRAM, IN A SANDBOX (cutbox-rows.mjs): the forced cells as the released guide's own fill.sh prints them over the translation 8ee8d1c884ba309b… (all of the seat's roots in one cut). By AI agents, Wed Nov 11 2026. No macro, syntax, notation, axiom, sorry.
-/
import Derived.Test.YtnacofmjipilhaaChecked
import GoSem.Claim
import GoSem.ClaimJoined
import GoSem.ClaimMapViews
import Derived.JoinedTies
import Derived.KernelRfl
namespace Go.Proofs.Ytnacofmjipilhaa
/- THE CELL 'sum', in the pinned program and in every row, IS THE sha256 OF THE DUMP (.gsa) THAT YtnacofmjipilhaaProg.lean LOADS. Nothing in Lean hashes anything: it is a label: what it is worth is what the hold of that sum in a sandbox is worth. -/
noncomputable def Try.pinned : Pinned := { name := "ytnacofmjipilhaa", sum := "8ee8d1c884ba309bac5a033869c0d179345bcf07ff688404a0b94687958011e0", checked := Try.checked }
namespace Rows
def none {H : Type} : Left H := { results := [], args := [] }

/-- 'laws.FnExactBurningFuels': WHATEVER THE INPUT: true; the input reads as it did. -/
def fnExactBurningFuelsSpec : ChangeSpec := { name := "fnExactBurningFuels", fn := fun _ => fun
  | [d1, d2] => { results := [.lit (.bool true)], args := [d1, d2] }
  | _ => none }
def fnExactBurningFuelsRow : OpenClaim := { program := "ytnacofmjipilhaa", sum := "8ee8d1c884ba309bac5a033869c0d179345bcf07ff688404a0b94687958011e0", func := "loop.example/g00917/laws.FnExactBurningFuels", spec := "fnExactBurningFuels", unfollowed := true, recurses := true, apart := false }
def FnExactBurningFuelsSaid : Prop := fnExactBurningFuelsRow.holds Try.pinned (OpenSpec.ofChange fnExactBurningFuelsSpec)

/-- ITS FALSE NEIGHBOUR: 'it returns false'. Refute it at one input. -/
def fnExactBurningFuelsWrong : ChangeSpec := { name := "fnExactBurningFuels", fn := fun _ => fun
  | [d1, d2] => { results := [.lit (.bool false)], args := [d1, d2] }
  | _ => none }
def FnExactBurningFuelsWrongFalsely : Prop := fnExactBurningFuelsRow.holds Try.pinned (OpenSpec.ofChange fnExactBurningFuelsWrong)

/-- 'laws.FnExactAddFuel': WHATEVER THE INPUT: true; the input reads as it did. -/
def fnExactAddFuelSpec : ChangeSpec := { name := "fnExactAddFuel", fn := fun _ => fun
  | [d1, d2] => { results := [.lit (.bool true)], args := [d1, d2] }
  | _ => none }
def fnExactAddFuelRow : OpenClaim := { program := "ytnacofmjipilhaa", sum := "8ee8d1c884ba309bac5a033869c0d179345bcf07ff688404a0b94687958011e0", func := "loop.example/g00917/laws.FnExactAddFuel", spec := "fnExactAddFuel", unfollowed := true, recurses := true, apart := false }
def FnExactAddFuelSaid : Prop := fnExactAddFuelRow.holds Try.pinned (OpenSpec.ofChange fnExactAddFuelSpec)

/-- ITS FALSE NEIGHBOUR: 'it returns false'. Refute it at one input. -/
def fnExactAddFuelWrong : ChangeSpec := { name := "fnExactAddFuel", fn := fun _ => fun
  | [d1, d2] => { results := [.lit (.bool false)], args := [d1, d2] }
  | _ => none }
def FnExactAddFuelWrongFalsely : Prop := fnExactAddFuelRow.holds Try.pinned (OpenSpec.ofChange fnExactAddFuelWrong)

/-- 'laws.FnSpeeds': WHATEVER THE INPUT: true; the input reads as it did. -/
def fnSpeedsSpec : ChangeSpec := { name := "fnSpeeds", fn := fun _ => fun
  | [d] => { results := [.lit (.bool true)], args := [d] }
  | _ => none }
def fnSpeedsRow : OpenClaim := { program := "ytnacofmjipilhaa", sum := "8ee8d1c884ba309bac5a033869c0d179345bcf07ff688404a0b94687958011e0", func := "loop.example/g00917/laws.FnSpeeds", spec := "fnSpeeds", apart := false }
def FnSpeedsSaid : Prop := fnSpeedsRow.holds Try.pinned (OpenSpec.ofChange fnSpeedsSpec)

/-- ITS FALSE NEIGHBOUR: 'it returns false'. Refute it at one input. -/
def fnSpeedsWrong : ChangeSpec := { name := "fnSpeeds", fn := fun _ => fun
  | [d] => { results := [.lit (.bool false)], args := [d] }
  | _ => none }
def FnSpeedsWrongFalsely : Prop := fnSpeedsRow.holds Try.pinned (OpenSpec.ofChange fnSpeedsWrong)

/-- 'laws.FnForecasts': WHATEVER THE INPUT: true; the input reads as it did. -/
def fnForecastsSpec : ChangeSpec := { name := "fnForecasts", fn := fun _ => fun
  | [d] => { results := [.lit (.bool true)], args := [d] }
  | _ => none }
def fnForecastsRow : OpenClaim := { program := "ytnacofmjipilhaa", sum := "8ee8d1c884ba309bac5a033869c0d179345bcf07ff688404a0b94687958011e0", func := "loop.example/g00917/laws.FnForecasts", spec := "fnForecasts", unfollowed := true, recurses := true, apart := false }
def FnForecastsSaid : Prop := fnForecastsRow.holds Try.pinned (OpenSpec.ofChange fnForecastsSpec)

/-- ITS FALSE NEIGHBOUR: 'it returns false'. Refute it at one input. -/
def fnForecastsWrong : ChangeSpec := { name := "fnForecasts", fn := fun _ => fun
  | [d] => { results := [.lit (.bool false)], args := [d] }
  | _ => none }
def FnForecastsWrongFalsely : Prop := fnForecastsRow.holds Try.pinned (OpenSpec.ofChange fnForecastsWrong)

/-- 'laws.FnExactMinutesAhead': WHATEVER THE INPUT: true; the input reads as it did. -/
def fnExactMinutesAheadSpec : ChangeSpec := { name := "fnExactMinutesAhead", fn := fun _ => fun
  | [d1, d2, d3, d4, d5] => { results := [.lit (.bool true)], args := [d1, d2, d3, d4, d5] }
  | _ => none }
def fnExactMinutesAheadRow : OpenClaim := { program := "ytnacofmjipilhaa", sum := "8ee8d1c884ba309bac5a033869c0d179345bcf07ff688404a0b94687958011e0", func := "loop.example/g00917/laws.FnExactMinutesAhead", spec := "fnExactMinutesAhead", unfollowed := true, recurses := true, apart := false }
def FnExactMinutesAheadSaid : Prop := fnExactMinutesAheadRow.holds Try.pinned (OpenSpec.ofChange fnExactMinutesAheadSpec)

/-- ITS FALSE NEIGHBOUR: 'it returns false'. Refute it at one input. -/
def fnExactMinutesAheadWrong : ChangeSpec := { name := "fnExactMinutesAhead", fn := fun _ => fun
  | [d1, d2, d3, d4, d5] => { results := [.lit (.bool false)], args := [d1, d2, d3, d4, d5] }
  | _ => none }
def FnExactMinutesAheadWrongFalsely : Prop := fnExactMinutesAheadRow.holds Try.pinned (OpenSpec.ofChange fnExactMinutesAheadWrong)

/-- 'laws.FnExactLastArrival': WHATEVER THE INPUT: true; the input reads as it did. -/
def fnExactLastArrivalSpec : ChangeSpec := { name := "fnExactLastArrival", fn := fun _ => fun
  | [d1, d2, d3, d4] => { results := [.lit (.bool true)], args := [d1, d2, d3, d4] }
  | _ => none }
def fnExactLastArrivalRow : OpenClaim := { program := "ytnacofmjipilhaa", sum := "8ee8d1c884ba309bac5a033869c0d179345bcf07ff688404a0b94687958011e0", func := "loop.example/g00917/laws.FnExactLastArrival", spec := "fnExactLastArrival", unfollowed := true, recurses := true, apart := false }
def FnExactLastArrivalSaid : Prop := fnExactLastArrivalRow.holds Try.pinned (OpenSpec.ofChange fnExactLastArrivalSpec)

/-- ITS FALSE NEIGHBOUR: 'it returns false'. Refute it at one input. -/
def fnExactLastArrivalWrong : ChangeSpec := { name := "fnExactLastArrival", fn := fun _ => fun
  | [d1, d2, d3, d4] => { results := [.lit (.bool false)], args := [d1, d2, d3, d4] }
  | _ => none }
def FnExactLastArrivalWrongFalsely : Prop := fnExactLastArrivalRow.holds Try.pinned (OpenSpec.ofChange fnExactLastArrivalWrong)

/-- 'laws.FnExactArrivalTimes': WHATEVER THE INPUT: true; the input reads as it did. -/
def fnExactArrivalTimesSpec : ChangeSpec := { name := "fnExactArrivalTimes", fn := fun _ => fun
  | [d1, d2, d3, d4] => { results := [.lit (.bool true)], args := [d1, d2, d3, d4] }
  | _ => none }
def fnExactArrivalTimesRow : OpenClaim := { program := "ytnacofmjipilhaa", sum := "8ee8d1c884ba309bac5a033869c0d179345bcf07ff688404a0b94687958011e0", func := "loop.example/g00917/laws.FnExactArrivalTimes", spec := "fnExactArrivalTimes", unfollowed := true, recurses := true, apart := false }
def FnExactArrivalTimesSaid : Prop := fnExactArrivalTimesRow.holds Try.pinned (OpenSpec.ofChange fnExactArrivalTimesSpec)

/-- ITS FALSE NEIGHBOUR: 'it returns false'. Refute it at one input. -/
def fnExactArrivalTimesWrong : ChangeSpec := { name := "fnExactArrivalTimes", fn := fun _ => fun
  | [d1, d2, d3, d4] => { results := [.lit (.bool false)], args := [d1, d2, d3, d4] }
  | _ => none }
def FnExactArrivalTimesWrongFalsely : Prop := fnExactArrivalTimesRow.holds Try.pinned (OpenSpec.ofChange fnExactArrivalTimesWrong)

/-- 'laws.FnExactBurnedBy': WHATEVER THE INPUT: true; the input reads as it did. -/
def fnExactBurnedBySpec : ChangeSpec := { name := "fnExactBurnedBy", fn := fun _ => fun
  | [d1, d2, d3, d4, d5] => { results := [.lit (.bool true)], args := [d1, d2, d3, d4, d5] }
  | _ => none }
def fnExactBurnedByRow : OpenClaim := { program := "ytnacofmjipilhaa", sum := "8ee8d1c884ba309bac5a033869c0d179345bcf07ff688404a0b94687958011e0", func := "loop.example/g00917/laws.FnExactBurnedBy", spec := "fnExactBurnedBy", unfollowed := true, recurses := true, apart := false }
def FnExactBurnedBySaid : Prop := fnExactBurnedByRow.holds Try.pinned (OpenSpec.ofChange fnExactBurnedBySpec)

/-- ITS FALSE NEIGHBOUR: 'it returns false'. Refute it at one input. -/
def fnExactBurnedByWrong : ChangeSpec := { name := "fnExactBurnedBy", fn := fun _ => fun
  | [d1, d2, d3, d4, d5] => { results := [.lit (.bool false)], args := [d1, d2, d3, d4, d5] }
  | _ => none }
def FnExactBurnedByWrongFalsely : Prop := fnExactBurnedByRow.holds Try.pinned (OpenSpec.ofChange fnExactBurnedByWrong)

/-- 'laws.FnExactFirePath': WHATEVER THE INPUT: true; the input reads as it did. -/
def fnExactFirePathSpec : ChangeSpec := { name := "fnExactFirePath", fn := fun _ => fun
  | [d1, d2, d3, d4, d5] => { results := [.lit (.bool true)], args := [d1, d2, d3, d4, d5] }
  | _ => none }
def fnExactFirePathRow : OpenClaim := { program := "ytnacofmjipilhaa", sum := "8ee8d1c884ba309bac5a033869c0d179345bcf07ff688404a0b94687958011e0", func := "loop.example/g00917/laws.FnExactFirePath", spec := "fnExactFirePath", unfollowed := true, recurses := true, apart := false }
def FnExactFirePathSaid : Prop := fnExactFirePathRow.holds Try.pinned (OpenSpec.ofChange fnExactFirePathSpec)

/-- ITS FALSE NEIGHBOUR: 'it returns false'. Refute it at one input. -/
def fnExactFirePathWrong : ChangeSpec := { name := "fnExactFirePath", fn := fun _ => fun
  | [d1, d2, d3, d4, d5] => { results := [.lit (.bool false)], args := [d1, d2, d3, d4, d5] }
  | _ => none }
def FnExactFirePathWrongFalsely : Prop := fnExactFirePathRow.holds Try.pinned (OpenSpec.ofChange fnExactFirePathWrong)

/- THE SECOND FORM. 'bulk': how many values and letters a reading holds, each counted each time it is reached (what is shared counts as often as it is met; a slice's spare places count too). A statement '..UptoSaid' is the law's where the arguments, and the package variables that the reading takes, are together of bulk at most 1048576: NARROWER than '..Said'. Prove '..Said' where nothing that the law and all that it calls make is longer than what came in: it says more and counts as full. Else prove '..UptoSaid'. A law counts once. -/
mutual
def uptoBulk {H : Type} : DataW H → Nat
  | .lit (.string bytes) => bytes.length + 1
  | .lit _ => 1
  | .nil => 1
  | .ptr d => uptoBulk d + 1
  | .slice elems spare => uptoBulkAll elems + uptoBulkAll spare + 1
  | .agg parts => uptoBulkAll parts + 1
  | .iface _ d => uptoBulk d + 1
  | .map entries => uptoBulkEntries entries + 1
  | .held _ => 1
def uptoBulkAll {H : Type} : List (DataW H) → Nat
  | [] => 0
  | d :: r => uptoBulk d + uptoBulkAll r
def uptoBulkEntries {H : Type} : List (Lit × DataW H) → Nat
  | [] => 0
  | x :: r => uptoBulkEntry x + uptoBulkEntries r
def uptoBulkEntry {H : Type} : Lit × DataW H → Nat
  | (.string bytes, d) => bytes.length + uptoBulk d + 1
  | (_, d) => uptoBulk d + 1
 end
def uptoSmall : (H : Type) → List (DataW H) → Bool := fun _ ds => decide (uptoBulkAll ds ≤ 1048576)
def OpenSpec.upto (s : _root_.Go.ChangeSpec) : _root_.Go.OpenSpec := { _root_.Go.OpenSpec.ofChange s with cond := some uptoSmall }

/-- 'laws.FnExactBurningFuels', WHERE WHAT IT READS IS OF BULK AT MOST 1048576: true; the input reads as it did. -/
def fnExactBurningFuelsUptoRow : OpenClaim := { program := "ytnacofmjipilhaa", sum := "8ee8d1c884ba309bac5a033869c0d179345bcf07ff688404a0b94687958011e0", func := "loop.example/g00917/laws.FnExactBurningFuels", spec := "fnExactBurningFuels", unfollowed := true, recurses := true, apart := false, narrowed := true }
def FnExactBurningFuelsUptoSaid : Prop := fnExactBurningFuelsUptoRow.holds Try.pinned (OpenSpec.upto fnExactBurningFuelsSpec)

/-- 'laws.FnExactAddFuel', WHERE WHAT IT READS IS OF BULK AT MOST 1048576: true; the input reads as it did. -/
def fnExactAddFuelUptoRow : OpenClaim := { program := "ytnacofmjipilhaa", sum := "8ee8d1c884ba309bac5a033869c0d179345bcf07ff688404a0b94687958011e0", func := "loop.example/g00917/laws.FnExactAddFuel", spec := "fnExactAddFuel", unfollowed := true, recurses := true, apart := false, narrowed := true }
def FnExactAddFuelUptoSaid : Prop := fnExactAddFuelUptoRow.holds Try.pinned (OpenSpec.upto fnExactAddFuelSpec)

/-- 'laws.FnSpeeds', WHERE WHAT IT READS IS OF BULK AT MOST 1048576: true; the input reads as it did. -/
def fnSpeedsUptoRow : OpenClaim := { program := "ytnacofmjipilhaa", sum := "8ee8d1c884ba309bac5a033869c0d179345bcf07ff688404a0b94687958011e0", func := "loop.example/g00917/laws.FnSpeeds", spec := "fnSpeeds", apart := false, narrowed := true }
def FnSpeedsUptoSaid : Prop := fnSpeedsUptoRow.holds Try.pinned (OpenSpec.upto fnSpeedsSpec)

/-- 'laws.FnForecasts', WHERE WHAT IT READS IS OF BULK AT MOST 1048576: true; the input reads as it did. -/
def fnForecastsUptoRow : OpenClaim := { program := "ytnacofmjipilhaa", sum := "8ee8d1c884ba309bac5a033869c0d179345bcf07ff688404a0b94687958011e0", func := "loop.example/g00917/laws.FnForecasts", spec := "fnForecasts", unfollowed := true, recurses := true, apart := false, narrowed := true }
def FnForecastsUptoSaid : Prop := fnForecastsUptoRow.holds Try.pinned (OpenSpec.upto fnForecastsSpec)

/-- 'laws.FnExactMinutesAhead', WHERE WHAT IT READS IS OF BULK AT MOST 1048576: true; the input reads as it did. -/
def fnExactMinutesAheadUptoRow : OpenClaim := { program := "ytnacofmjipilhaa", sum := "8ee8d1c884ba309bac5a033869c0d179345bcf07ff688404a0b94687958011e0", func := "loop.example/g00917/laws.FnExactMinutesAhead", spec := "fnExactMinutesAhead", unfollowed := true, recurses := true, apart := false, narrowed := true }
def FnExactMinutesAheadUptoSaid : Prop := fnExactMinutesAheadUptoRow.holds Try.pinned (OpenSpec.upto fnExactMinutesAheadSpec)

/-- 'laws.FnExactLastArrival', WHERE WHAT IT READS IS OF BULK AT MOST 1048576: true; the input reads as it did. -/
def fnExactLastArrivalUptoRow : OpenClaim := { program := "ytnacofmjipilhaa", sum := "8ee8d1c884ba309bac5a033869c0d179345bcf07ff688404a0b94687958011e0", func := "loop.example/g00917/laws.FnExactLastArrival", spec := "fnExactLastArrival", unfollowed := true, recurses := true, apart := false, narrowed := true }
def FnExactLastArrivalUptoSaid : Prop := fnExactLastArrivalUptoRow.holds Try.pinned (OpenSpec.upto fnExactLastArrivalSpec)

/-- 'laws.FnExactArrivalTimes', WHERE WHAT IT READS IS OF BULK AT MOST 1048576: true; the input reads as it did. -/
def fnExactArrivalTimesUptoRow : OpenClaim := { program := "ytnacofmjipilhaa", sum := "8ee8d1c884ba309bac5a033869c0d179345bcf07ff688404a0b94687958011e0", func := "loop.example/g00917/laws.FnExactArrivalTimes", spec := "fnExactArrivalTimes", unfollowed := true, recurses := true, apart := false, narrowed := true }
def FnExactArrivalTimesUptoSaid : Prop := fnExactArrivalTimesUptoRow.holds Try.pinned (OpenSpec.upto fnExactArrivalTimesSpec)

/-- 'laws.FnExactBurnedBy', WHERE WHAT IT READS IS OF BULK AT MOST 1048576: true; the input reads as it did. -/
def fnExactBurnedByUptoRow : OpenClaim := { program := "ytnacofmjipilhaa", sum := "8ee8d1c884ba309bac5a033869c0d179345bcf07ff688404a0b94687958011e0", func := "loop.example/g00917/laws.FnExactBurnedBy", spec := "fnExactBurnedBy", unfollowed := true, recurses := true, apart := false, narrowed := true }
def FnExactBurnedByUptoSaid : Prop := fnExactBurnedByUptoRow.holds Try.pinned (OpenSpec.upto fnExactBurnedBySpec)

/-- 'laws.FnExactFirePath', WHERE WHAT IT READS IS OF BULK AT MOST 1048576: true; the input reads as it did. -/
def fnExactFirePathUptoRow : OpenClaim := { program := "ytnacofmjipilhaa", sum := "8ee8d1c884ba309bac5a033869c0d179345bcf07ff688404a0b94687958011e0", func := "loop.example/g00917/laws.FnExactFirePath", spec := "fnExactFirePath", unfollowed := true, recurses := true, apart := false, narrowed := true }
def FnExactFirePathUptoSaid : Prop := fnExactFirePathUptoRow.holds Try.pinned (OpenSpec.upto fnExactFirePathSpec)

end Rows
end Go.Proofs.Ytnacofmjipilhaa
