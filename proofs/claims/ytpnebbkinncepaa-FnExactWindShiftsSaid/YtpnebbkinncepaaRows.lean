/-
  No cell of these rows narrows 'for every input' (looked for: loops, veiled, ifaces, maps, wideKeys, modest, calm, conditions, laid).
  DERIVED. THE GIVEN ROWS OF THIS SEAT. 12 by the template 'for every input the law returns true; each argument reads behind the call as it read before'; 0 by the template 'total and deterministic' (their statements: YtpnebbkinncepaaTotals.lean).
  GIVEN WITH THE SEED: the statements are not yours to turn. If you find one false, say at which input.
  Laid BY PROGRAM, IN A SANDBOX (cutbox-rows.mjs): the forced cells as the released guide's own fill.sh prints them over the translation c653a612d3ad128f… (all of the seat's roots in one cut). By AI agents, Wed Nov 11 2026. No macro, syntax, notation, axiom, sorry.
-/
import Derived.Test.YtpnebbkinncepaaChecked
import GoSem.Claim
import GoSem.ClaimJoined
import GoSem.ClaimMapViews
import Derived.JoinedTies
import Derived.KernelRfl
namespace Go.Proofs.Ytpnebbkinncepaa
/- THE CELL 'sum', in the pinned program and in every row, IS THE sha256 OF THE DUMP (.gsa) THAT YtpnebbkinncepaaProg.lean LOADS. Nothing in Lean hashes anything: it is a label: what it is worth is what the hold of that sum in a sandbox is worth. -/
noncomputable def Try.pinned : Pinned := { name := "ytpnebbkinncepaa", sum := "c653a612d3ad128f4e5247c47ec44e23919a93d5f762e7bc4d2bbe84b643a485", checked := Try.checked }
namespace Rows
def none {H : Type} : Left H := { results := [], args := [] }

/-- 'laws.FnExactNeighborsOf': WHATEVER THE INPUT: true; the input reads as it did. -/
def fnExactNeighborsOfSpec : ChangeSpec := { name := "fnExactNeighborsOf", fn := fun _ => fun
  | [d1, d2] => { results := [.lit (.bool true)], args := [d1, d2] }
  | _ => none }
def fnExactNeighborsOfRow : OpenClaim := { program := "ytpnebbkinncepaa", sum := "c653a612d3ad128f4e5247c47ec44e23919a93d5f762e7bc4d2bbe84b643a485", func := "loop.example/g00917/laws.FnExactNeighborsOf", spec := "fnExactNeighborsOf", unfollowed := true, recurses := true, apart := false }
def FnExactNeighborsOfSaid : Prop := fnExactNeighborsOfRow.holds Try.pinned (OpenSpec.ofChange fnExactNeighborsOfSpec)

/-- ITS FALSE NEIGHBOUR: 'it returns false'. Refute it at one input. -/
def fnExactNeighborsOfWrong : ChangeSpec := { name := "fnExactNeighborsOf", fn := fun _ => fun
  | [d1, d2] => { results := [.lit (.bool false)], args := [d1, d2] }
  | _ => none }
def FnExactNeighborsOfWrongFalsely : Prop := fnExactNeighborsOfRow.holds Try.pinned (OpenSpec.ofChange fnExactNeighborsOfWrong)

/-- 'laws.FnSpeeds': WHATEVER THE INPUT: true; the input reads as it did. -/
def fnSpeedsSpec : ChangeSpec := { name := "fnSpeeds", fn := fun _ => fun
  | [d] => { results := [.lit (.bool true)], args := [d] }
  | _ => none }
def fnSpeedsRow : OpenClaim := { program := "ytpnebbkinncepaa", sum := "c653a612d3ad128f4e5247c47ec44e23919a93d5f762e7bc4d2bbe84b643a485", func := "loop.example/g00917/laws.FnSpeeds", spec := "fnSpeeds", apart := false }
def FnSpeedsSaid : Prop := fnSpeedsRow.holds Try.pinned (OpenSpec.ofChange fnSpeedsSpec)

/-- ITS FALSE NEIGHBOUR: 'it returns false'. Refute it at one input. -/
def fnSpeedsWrong : ChangeSpec := { name := "fnSpeeds", fn := fun _ => fun
  | [d] => { results := [.lit (.bool false)], args := [d] }
  | _ => none }
def FnSpeedsWrongFalsely : Prop := fnSpeedsRow.holds Try.pinned (OpenSpec.ofChange fnSpeedsWrong)

/-- 'laws.FnExactWorstDirection': WHATEVER THE INPUT: true; the input reads as it did. -/
def fnExactWorstDirectionSpec : ChangeSpec := { name := "fnExactWorstDirection", fn := fun _ => fun
  | [d] => { results := [.lit (.bool true)], args := [d] }
  | _ => none }
def fnExactWorstDirectionRow : OpenClaim := { program := "ytpnebbkinncepaa", sum := "c653a612d3ad128f4e5247c47ec44e23919a93d5f762e7bc4d2bbe84b643a485", func := "loop.example/g00917/laws.FnExactWorstDirection", spec := "fnExactWorstDirection", unfollowed := true, recurses := true, apart := false }
def FnExactWorstDirectionSaid : Prop := fnExactWorstDirectionRow.holds Try.pinned (OpenSpec.ofChange fnExactWorstDirectionSpec)

/-- ITS FALSE NEIGHBOUR: 'it returns false'. Refute it at one input. -/
def fnExactWorstDirectionWrong : ChangeSpec := { name := "fnExactWorstDirection", fn := fun _ => fun
  | [d] => { results := [.lit (.bool false)], args := [d] }
  | _ => none }
def FnExactWorstDirectionWrongFalsely : Prop := fnExactWorstDirectionRow.holds Try.pinned (OpenSpec.ofChange fnExactWorstDirectionWrong)

/-- 'laws.FnExactRegionPicture': WHATEVER THE INPUT: true; the input reads as it did. -/
def fnExactRegionPictureSpec : ChangeSpec := { name := "fnExactRegionPicture", fn := fun _ => fun
  | [d1, d2] => { results := [.lit (.bool true)], args := [d1, d2] }
  | _ => none }
def fnExactRegionPictureRow : OpenClaim := { program := "ytpnebbkinncepaa", sum := "c653a612d3ad128f4e5247c47ec44e23919a93d5f762e7bc4d2bbe84b643a485", func := "loop.example/g00917/laws.FnExactRegionPicture", spec := "fnExactRegionPicture", unfollowed := true, recurses := true, apart := false }
def FnExactRegionPictureSaid : Prop := fnExactRegionPictureRow.holds Try.pinned (OpenSpec.ofChange fnExactRegionPictureSpec)

/-- ITS FALSE NEIGHBOUR: 'it returns false'. Refute it at one input. -/
def fnExactRegionPictureWrong : ChangeSpec := { name := "fnExactRegionPicture", fn := fun _ => fun
  | [d1, d2] => { results := [.lit (.bool false)], args := [d1, d2] }
  | _ => none }
def FnExactRegionPictureWrongFalsely : Prop := fnExactRegionPictureRow.holds Try.pinned (OpenSpec.ofChange fnExactRegionPictureWrong)

/-- 'laws.FnExactMeanPush': WHATEVER THE INPUT: true; the input reads as it did. -/
def fnExactMeanPushSpec : ChangeSpec := { name := "fnExactMeanPush", fn := fun _ => fun
  | [d1, d2] => { results := [.lit (.bool true)], args := [d1, d2] }
  | _ => none }
def fnExactMeanPushRow : OpenClaim := { program := "ytpnebbkinncepaa", sum := "c653a612d3ad128f4e5247c47ec44e23919a93d5f762e7bc4d2bbe84b643a485", func := "loop.example/g00917/laws.FnExactMeanPush", spec := "fnExactMeanPush", unfollowed := true, recurses := true, apart := false }
def FnExactMeanPushSaid : Prop := fnExactMeanPushRow.holds Try.pinned (OpenSpec.ofChange fnExactMeanPushSpec)

/-- ITS FALSE NEIGHBOUR: 'it returns false'. Refute it at one input. -/
def fnExactMeanPushWrong : ChangeSpec := { name := "fnExactMeanPush", fn := fun _ => fun
  | [d1, d2] => { results := [.lit (.bool false)], args := [d1, d2] }
  | _ => none }
def FnExactMeanPushWrongFalsely : Prop := fnExactMeanPushRow.holds Try.pinned (OpenSpec.ofChange fnExactMeanPushWrong)

/-- 'laws.FnExactCommonRegion': WHATEVER THE INPUT: true; the input reads as it did. -/
def fnExactCommonRegionSpec : ChangeSpec := { name := "fnExactCommonRegion", fn := fun _ => fun
  | [d1, d2, d3] => { results := [.lit (.bool true)], args := [d1, d2, d3] }
  | _ => none }
def fnExactCommonRegionRow : OpenClaim := { program := "ytpnebbkinncepaa", sum := "c653a612d3ad128f4e5247c47ec44e23919a93d5f762e7bc4d2bbe84b643a485", func := "loop.example/g00917/laws.FnExactCommonRegion", spec := "fnExactCommonRegion", unfollowed := true, recurses := true, apart := false }
def FnExactCommonRegionSaid : Prop := fnExactCommonRegionRow.holds Try.pinned (OpenSpec.ofChange fnExactCommonRegionSpec)

/-- ITS FALSE NEIGHBOUR: 'it returns false'. Refute it at one input. -/
def fnExactCommonRegionWrong : ChangeSpec := { name := "fnExactCommonRegion", fn := fun _ => fun
  | [d1, d2, d3] => { results := [.lit (.bool false)], args := [d1, d2, d3] }
  | _ => none }
def FnExactCommonRegionWrongFalsely : Prop := fnExactCommonRegionRow.holds Try.pinned (OpenSpec.ofChange fnExactCommonRegionWrong)

/-- 'laws.FnExactJoinRegions': WHATEVER THE INPUT: true; the input reads as it did. -/
def fnExactJoinRegionsSpec : ChangeSpec := { name := "fnExactJoinRegions", fn := fun _ => fun
  | [d1, d2, d3] => { results := [.lit (.bool true)], args := [d1, d2, d3] }
  | _ => none }
def fnExactJoinRegionsRow : OpenClaim := { program := "ytpnebbkinncepaa", sum := "c653a612d3ad128f4e5247c47ec44e23919a93d5f762e7bc4d2bbe84b643a485", func := "loop.example/g00917/laws.FnExactJoinRegions", spec := "fnExactJoinRegions", unfollowed := true, recurses := true, apart := false }
def FnExactJoinRegionsSaid : Prop := fnExactJoinRegionsRow.holds Try.pinned (OpenSpec.ofChange fnExactJoinRegionsSpec)

/-- ITS FALSE NEIGHBOUR: 'it returns false'. Refute it at one input. -/
def fnExactJoinRegionsWrong : ChangeSpec := { name := "fnExactJoinRegions", fn := fun _ => fun
  | [d1, d2, d3] => { results := [.lit (.bool false)], args := [d1, d2, d3] }
  | _ => none }
def FnExactJoinRegionsWrongFalsely : Prop := fnExactJoinRegionsRow.holds Try.pinned (OpenSpec.ofChange fnExactJoinRegionsWrong)

/-- 'laws.FnExactWindShifts': WHATEVER THE INPUT: true; the input reads as it did. -/
def fnExactWindShiftsSpec : ChangeSpec := { name := "fnExactWindShifts", fn := fun _ => fun
  | [d1, d2] => { results := [.lit (.bool true)], args := [d1, d2] }
  | _ => none }
def fnExactWindShiftsRow : OpenClaim := { program := "ytpnebbkinncepaa", sum := "c653a612d3ad128f4e5247c47ec44e23919a93d5f762e7bc4d2bbe84b643a485", func := "loop.example/g00917/laws.FnExactWindShifts", spec := "fnExactWindShifts", unfollowed := true, recurses := true, apart := false }
def FnExactWindShiftsSaid : Prop := fnExactWindShiftsRow.holds Try.pinned (OpenSpec.ofChange fnExactWindShiftsSpec)

/-- ITS FALSE NEIGHBOUR: 'it returns false'. Refute it at one input. -/
def fnExactWindShiftsWrong : ChangeSpec := { name := "fnExactWindShifts", fn := fun _ => fun
  | [d1, d2] => { results := [.lit (.bool false)], args := [d1, d2] }
  | _ => none }
def FnExactWindShiftsWrongFalsely : Prop := fnExactWindShiftsRow.holds Try.pinned (OpenSpec.ofChange fnExactWindShiftsWrong)

/-- 'laws.FnExactEdgeLength': WHATEVER THE INPUT: true; the input reads as it did. -/
def fnExactEdgeLengthSpec : ChangeSpec := { name := "fnExactEdgeLength", fn := fun _ => fun
  | [d1, d2] => { results := [.lit (.bool true)], args := [d1, d2] }
  | _ => none }
def fnExactEdgeLengthRow : OpenClaim := { program := "ytpnebbkinncepaa", sum := "c653a612d3ad128f4e5247c47ec44e23919a93d5f762e7bc4d2bbe84b643a485", func := "loop.example/g00917/laws.FnExactEdgeLength", spec := "fnExactEdgeLength", unfollowed := true, recurses := true, apart := false }
def FnExactEdgeLengthSaid : Prop := fnExactEdgeLengthRow.holds Try.pinned (OpenSpec.ofChange fnExactEdgeLengthSpec)

/-- ITS FALSE NEIGHBOUR: 'it returns false'. Refute it at one input. -/
def fnExactEdgeLengthWrong : ChangeSpec := { name := "fnExactEdgeLength", fn := fun _ => fun
  | [d1, d2] => { results := [.lit (.bool false)], args := [d1, d2] }
  | _ => none }
def FnExactEdgeLengthWrongFalsely : Prop := fnExactEdgeLengthRow.holds Try.pinned (OpenSpec.ofChange fnExactEdgeLengthWrong)

/-- 'laws.FnExactGrowRegion': WHATEVER THE INPUT: true; the input reads as it did. -/
def fnExactGrowRegionSpec : ChangeSpec := { name := "fnExactGrowRegion", fn := fun _ => fun
  | [d1, d2] => { results := [.lit (.bool true)], args := [d1, d2] }
  | _ => none }
def fnExactGrowRegionRow : OpenClaim := { program := "ytpnebbkinncepaa", sum := "c653a612d3ad128f4e5247c47ec44e23919a93d5f762e7bc4d2bbe84b643a485", func := "loop.example/g00917/laws.FnExactGrowRegion", spec := "fnExactGrowRegion", unfollowed := true, recurses := true, apart := false }
def FnExactGrowRegionSaid : Prop := fnExactGrowRegionRow.holds Try.pinned (OpenSpec.ofChange fnExactGrowRegionSpec)

/-- ITS FALSE NEIGHBOUR: 'it returns false'. Refute it at one input. -/
def fnExactGrowRegionWrong : ChangeSpec := { name := "fnExactGrowRegion", fn := fun _ => fun
  | [d1, d2] => { results := [.lit (.bool false)], args := [d1, d2] }
  | _ => none }
def FnExactGrowRegionWrongFalsely : Prop := fnExactGrowRegionRow.holds Try.pinned (OpenSpec.ofChange fnExactGrowRegionWrong)

/-- 'laws.FnExactRedFlagHours': WHATEVER THE INPUT: true; the input reads as it did. -/
def fnExactRedFlagHoursSpec : ChangeSpec := { name := "fnExactRedFlagHours", fn := fun _ => fun
  | [d1, d2, d3] => { results := [.lit (.bool true)], args := [d1, d2, d3] }
  | _ => none }
def fnExactRedFlagHoursRow : OpenClaim := { program := "ytpnebbkinncepaa", sum := "c653a612d3ad128f4e5247c47ec44e23919a93d5f762e7bc4d2bbe84b643a485", func := "loop.example/g00917/laws.FnExactRedFlagHours", spec := "fnExactRedFlagHours", unfollowed := true, recurses := true, apart := false }
def FnExactRedFlagHoursSaid : Prop := fnExactRedFlagHoursRow.holds Try.pinned (OpenSpec.ofChange fnExactRedFlagHoursSpec)

/-- ITS FALSE NEIGHBOUR: 'it returns false'. Refute it at one input. -/
def fnExactRedFlagHoursWrong : ChangeSpec := { name := "fnExactRedFlagHours", fn := fun _ => fun
  | [d1, d2, d3] => { results := [.lit (.bool false)], args := [d1, d2, d3] }
  | _ => none }
def FnExactRedFlagHoursWrongFalsely : Prop := fnExactRedFlagHoursRow.holds Try.pinned (OpenSpec.ofChange fnExactRedFlagHoursWrong)

/-- 'laws.FnExactFastestFuel': WHATEVER THE INPUT: true; the input reads as it did. -/
def fnExactFastestFuelSpec : ChangeSpec := { name := "fnExactFastestFuel", fn := fun _ => fun
  | [d1, d2] => { results := [.lit (.bool true)], args := [d1, d2] }
  | _ => none }
def fnExactFastestFuelRow : OpenClaim := { program := "ytpnebbkinncepaa", sum := "c653a612d3ad128f4e5247c47ec44e23919a93d5f762e7bc4d2bbe84b643a485", func := "loop.example/g00917/laws.FnExactFastestFuel", spec := "fnExactFastestFuel", unfollowed := true, recurses := true, apart := false }
def FnExactFastestFuelSaid : Prop := fnExactFastestFuelRow.holds Try.pinned (OpenSpec.ofChange fnExactFastestFuelSpec)

/-- ITS FALSE NEIGHBOUR: 'it returns false'. Refute it at one input. -/
def fnExactFastestFuelWrong : ChangeSpec := { name := "fnExactFastestFuel", fn := fun _ => fun
  | [d1, d2] => { results := [.lit (.bool false)], args := [d1, d2] }
  | _ => none }
def FnExactFastestFuelWrongFalsely : Prop := fnExactFastestFuelRow.holds Try.pinned (OpenSpec.ofChange fnExactFastestFuelWrong)

/- THE SECOND FORM. 'bulk': how many values and letters a reading holds, each counted each time it is reached (what is shared counts as often as it is met; a slice's spare places count too). A statement '..UptoSaid' is the law's where the arguments, and the package variables that the reading takes, are together of bulk at most 1048576: NARROWER than '..Said'. Prove '..Said' where nothing that the law and all that it calls make is longer than what came in: it says more and counts as full. Else prove '..UptoSaid'. A law counts once. -/
mutual
def uptoBulk {H : Type} : DataW H → Nat
  | .lit (.string bytes) => bytes.length + 1
  | .lit _ => 1
  | .nil => 1
  | .ptr d => uptoBulk d + 1
  | .slice elems spare => uptoBulkAll elems + uptoBulkAll spare + 1
  | .agg parts => uptoBulkAll parts + 1
  | .iface _ d => uptoBulk d + 1
  | .map entries => uptoBulkEntries entries + 1
  | .held _ => 1
def uptoBulkAll {H : Type} : List (DataW H) → Nat
  | [] => 0
  | d :: r => uptoBulk d + uptoBulkAll r
def uptoBulkEntries {H : Type} : List (Lit × DataW H) → Nat
  | [] => 0
  | x :: r => uptoBulkEntry x + uptoBulkEntries r
def uptoBulkEntry {H : Type} : Lit × DataW H → Nat
  | (.string bytes, d) => bytes.length + uptoBulk d + 1
  | (_, d) => uptoBulk d + 1
 end
def uptoSmall : (H : Type) → List (DataW H) → Bool := fun _ ds => decide (uptoBulkAll ds ≤ 1048576)
def OpenSpec.upto (s : _root_.Go.ChangeSpec) : _root_.Go.OpenSpec := { _root_.Go.OpenSpec.ofChange s with cond := some uptoSmall }

/-- 'laws.FnExactNeighborsOf', WHERE WHAT IT READS IS OF BULK AT MOST 1048576: true; the input reads as it did. -/
def fnExactNeighborsOfUptoRow : OpenClaim := { program := "ytpnebbkinncepaa", sum := "c653a612d3ad128f4e5247c47ec44e23919a93d5f762e7bc4d2bbe84b643a485", func := "loop.example/g00917/laws.FnExactNeighborsOf", spec := "fnExactNeighborsOf", unfollowed := true, recurses := true, apart := false, narrowed := true }
def FnExactNeighborsOfUptoSaid : Prop := fnExactNeighborsOfUptoRow.holds Try.pinned (OpenSpec.upto fnExactNeighborsOfSpec)

/-- 'laws.FnSpeeds', WHERE WHAT IT READS IS OF BULK AT MOST 1048576: true; the input reads as it did. -/
def fnSpeedsUptoRow : OpenClaim := { program := "ytpnebbkinncepaa", sum := "c653a612d3ad128f4e5247c47ec44e23919a93d5f762e7bc4d2bbe84b643a485", func := "loop.example/g00917/laws.FnSpeeds", spec := "fnSpeeds", apart := false, narrowed := true }
def FnSpeedsUptoSaid : Prop := fnSpeedsUptoRow.holds Try.pinned (OpenSpec.upto fnSpeedsSpec)

/-- 'laws.FnExactWorstDirection', WHERE WHAT IT READS IS OF BULK AT MOST 1048576: true; the input reads as it did. -/
def fnExactWorstDirectionUptoRow : OpenClaim := { program := "ytpnebbkinncepaa", sum := "c653a612d3ad128f4e5247c47ec44e23919a93d5f762e7bc4d2bbe84b643a485", func := "loop.example/g00917/laws.FnExactWorstDirection", spec := "fnExactWorstDirection", unfollowed := true, recurses := true, apart := false, narrowed := true }
def FnExactWorstDirectionUptoSaid : Prop := fnExactWorstDirectionUptoRow.holds Try.pinned (OpenSpec.upto fnExactWorstDirectionSpec)

/-- 'laws.FnExactRegionPicture', WHERE WHAT IT READS IS OF BULK AT MOST 1048576: true; the input reads as it did. -/
def fnExactRegionPictureUptoRow : OpenClaim := { program := "ytpnebbkinncepaa", sum := "c653a612d3ad128f4e5247c47ec44e23919a93d5f762e7bc4d2bbe84b643a485", func := "loop.example/g00917/laws.FnExactRegionPicture", spec := "fnExactRegionPicture", unfollowed := true, recurses := true, apart := false, narrowed := true }
def FnExactRegionPictureUptoSaid : Prop := fnExactRegionPictureUptoRow.holds Try.pinned (OpenSpec.upto fnExactRegionPictureSpec)

/-- 'laws.FnExactMeanPush', WHERE WHAT IT READS IS OF BULK AT MOST 1048576: true; the input reads as it did. -/
def fnExactMeanPushUptoRow : OpenClaim := { program := "ytpnebbkinncepaa", sum := "c653a612d3ad128f4e5247c47ec44e23919a93d5f762e7bc4d2bbe84b643a485", func := "loop.example/g00917/laws.FnExactMeanPush", spec := "fnExactMeanPush", unfollowed := true, recurses := true, apart := false, narrowed := true }
def FnExactMeanPushUptoSaid : Prop := fnExactMeanPushUptoRow.holds Try.pinned (OpenSpec.upto fnExactMeanPushSpec)

/-- 'laws.FnExactCommonRegion', WHERE WHAT IT READS IS OF BULK AT MOST 1048576: true; the input reads as it did. -/
def fnExactCommonRegionUptoRow : OpenClaim := { program := "ytpnebbkinncepaa", sum := "c653a612d3ad128f4e5247c47ec44e23919a93d5f762e7bc4d2bbe84b643a485", func := "loop.example/g00917/laws.FnExactCommonRegion", spec := "fnExactCommonRegion", unfollowed := true, recurses := true, apart := false, narrowed := true }
def FnExactCommonRegionUptoSaid : Prop := fnExactCommonRegionUptoRow.holds Try.pinned (OpenSpec.upto fnExactCommonRegionSpec)

/-- 'laws.FnExactJoinRegions', WHERE WHAT IT READS IS OF BULK AT MOST 1048576: true; the input reads as it did. -/
def fnExactJoinRegionsUptoRow : OpenClaim := { program := "ytpnebbkinncepaa", sum := "c653a612d3ad128f4e5247c47ec44e23919a93d5f762e7bc4d2bbe84b643a485", func := "loop.example/g00917/laws.FnExactJoinRegions", spec := "fnExactJoinRegions", unfollowed := true, recurses := true, apart := false, narrowed := true }
def FnExactJoinRegionsUptoSaid : Prop := fnExactJoinRegionsUptoRow.holds Try.pinned (OpenSpec.upto fnExactJoinRegionsSpec)

/-- 'laws.FnExactWindShifts', WHERE WHAT IT READS IS OF BULK AT MOST 1048576: true; the input reads as it did. -/
def fnExactWindShiftsUptoRow : OpenClaim := { program := "ytpnebbkinncepaa", sum := "c653a612d3ad128f4e5247c47ec44e23919a93d5f762e7bc4d2bbe84b643a485", func := "loop.example/g00917/laws.FnExactWindShifts", spec := "fnExactWindShifts", unfollowed := true, recurses := true, apart := false, narrowed := true }
def FnExactWindShiftsUptoSaid : Prop := fnExactWindShiftsUptoRow.holds Try.pinned (OpenSpec.upto fnExactWindShiftsSpec)

/-- 'laws.FnExactEdgeLength', WHERE WHAT IT READS IS OF BULK AT MOST 1048576: true; the input reads as it did. -/
def fnExactEdgeLengthUptoRow : OpenClaim := { program := "ytpnebbkinncepaa", sum := "c653a612d3ad128f4e5247c47ec44e23919a93d5f762e7bc4d2bbe84b643a485", func := "loop.example/g00917/laws.FnExactEdgeLength", spec := "fnExactEdgeLength", unfollowed := true, recurses := true, apart := false, narrowed := true }
def FnExactEdgeLengthUptoSaid : Prop := fnExactEdgeLengthUptoRow.holds Try.pinned (OpenSpec.upto fnExactEdgeLengthSpec)

/-- 'laws.FnExactGrowRegion', WHERE WHAT IT READS IS OF BULK AT MOST 1048576: true; the input reads as it did. -/
def fnExactGrowRegionUptoRow : OpenClaim := { program := "ytpnebbkinncepaa", sum := "c653a612d3ad128f4e5247c47ec44e23919a93d5f762e7bc4d2bbe84b643a485", func := "loop.example/g00917/laws.FnExactGrowRegion", spec := "fnExactGrowRegion", unfollowed := true, recurses := true, apart := false, narrowed := true }
def FnExactGrowRegionUptoSaid : Prop := fnExactGrowRegionUptoRow.holds Try.pinned (OpenSpec.upto fnExactGrowRegionSpec)

/-- 'laws.FnExactRedFlagHours', WHERE WHAT IT READS IS OF BULK AT MOST 1048576: true; the input reads as it did. -/
def fnExactRedFlagHoursUptoRow : OpenClaim := { program := "ytpnebbkinncepaa", sum := "c653a612d3ad128f4e5247c47ec44e23919a93d5f762e7bc4d2bbe84b643a485", func := "loop.example/g00917/laws.FnExactRedFlagHours", spec := "fnExactRedFlagHours", unfollowed := true, recurses := true, apart := false, narrowed := true }
def FnExactRedFlagHoursUptoSaid : Prop := fnExactRedFlagHoursUptoRow.holds Try.pinned (OpenSpec.upto fnExactRedFlagHoursSpec)

/-- 'laws.FnExactFastestFuel', WHERE WHAT IT READS IS OF BULK AT MOST 1048576: true; the input reads as it did. -/
def fnExactFastestFuelUptoRow : OpenClaim := { program := "ytpnebbkinncepaa", sum := "c653a612d3ad128f4e5247c47ec44e23919a93d5f762e7bc4d2bbe84b643a485", func := "loop.example/g00917/laws.FnExactFastestFuel", spec := "fnExactFastestFuel", unfollowed := true, recurses := true, apart := false, narrowed := true }
def FnExactFastestFuelUptoSaid : Prop := fnExactFastestFuelUptoRow.holds Try.pinned (OpenSpec.upto fnExactFastestFuelSpec)

end Rows
end Go.Proofs.Ytpnebbkinncepaa
