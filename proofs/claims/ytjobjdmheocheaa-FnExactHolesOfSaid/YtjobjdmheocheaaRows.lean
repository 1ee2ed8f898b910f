/-
  No cell of these rows narrows 'for every input' (looked for: loops, veiled, ifaces, maps, wideKeys, modest, calm, conditions, laid).
  DERIVED. THE GIVEN ROWS OF THIS SEAT. 12 by the template 'for every input the law returns true; each argument reads behind the call as it read before'; 0 by the template 'total and deterministic' (their statements: YtjobjdmheocheaaTotals.lean).
  GIVEN WITH THE SEED: the statements are not yours to turn. If you find one false, say at which input.
  Laid BY PROGRAM, IN A SANDBOX (cutbox-rows.mjs): the forced cells as the released guide's own fill.sh prints them over the translation 53b92ca757cc6c4a… (all of the seat's roots in one cut). By AI agents, Wed Nov 11 2026. No macro, syntax, notation, axiom, sorry.
-/
import Derived.Test.YtjobjdmheocheaaChecked
import GoSem.Claim
import GoSem.ClaimJoined
import GoSem.ClaimMapViews
import Derived.JoinedTies
import Derived.KernelRfl
namespace Go.Proofs.Ytjobjdmheocheaa
/- THE CELL 'sum', in the pinned program and in every row, IS THE sha256 OF THE DUMP (.gsa) THAT YtjobjdmheocheaaProg.lean LOADS. Nothing in Lean hashes anything: it is a label: what it is worth is what the hold of that sum in a sandbox is worth. -/
noncomputable def Try.pinned : Pinned := { name := "ytjobjdmheocheaa", sum := "53b92ca757cc6c4aeb28e709ac4345984df8ce8101d6c97f5b633e4d1352a4dc", checked := Try.checked }
namespace Rows
def none {H : Type} : Left H := { results := [], args := [] }

/-- 'laws.FnExactCommonRegion': WHATEVER THE INPUT: true; the input reads as it did. -/
def fnExactCommonRegionSpec : ChangeSpec := { name := "fnExactCommonRegion", fn := fun _ => fun
  | [d1, d2, d3] => { results := [.lit (.bool true)], args := [d1, d2, d3] }
  | _ => none }
def fnExactCommonRegionRow : OpenClaim := { program := "ytjobjdmheocheaa", sum := "53b92ca757cc6c4aeb28e709ac4345984df8ce8101d6c97f5b633e4d1352a4dc", func := "loop.example/g00917/laws.FnExactCommonRegion", spec := "fnExactCommonRegion", unfollowed := true, recurses := true, apart := false }
def FnExactCommonRegionSaid : Prop := fnExactCommonRegionRow.holds Try.pinned (OpenSpec.ofChange fnExactCommonRegionSpec)

/-- ITS FALSE NEIGHBOUR: 'it returns false'. Refute it at one input. -/
def fnExactCommonRegionWrong : ChangeSpec := { name := "fnExactCommonRegion", fn := fun _ => fun
  | [d1, d2, d3] => { results := [.lit (.bool false)], args := [d1, d2, d3] }
  | _ => none }
def FnExactCommonRegionWrongFalsely : Prop := fnExactCommonRegionRow.holds Try.pinned (OpenSpec.ofChange fnExactCommonRegionWrong)

/-- 'laws.FnExactJoinRegions': WHATEVER THE INPUT: true; the input reads as it did. -/
def fnExactJoinRegionsSpec : ChangeSpec := { name := "fnExactJoinRegions", fn := fun _ => fun
  | [d1, d2, d3] => { results := [.lit (.bool true)], args := [d1, d2, d3] }
  | _ => none }
def fnExactJoinRegionsRow : OpenClaim := { program := "ytjobjdmheocheaa", sum := "53b92ca757cc6c4aeb28e709ac4345984df8ce8101d6c97f5b633e4d1352a4dc", func := "loop.example/g00917/laws.FnExactJoinRegions", spec := "fnExactJoinRegions", unfollowed := true, recurses := true, apart := false }
def FnExactJoinRegionsSaid : Prop := fnExactJoinRegionsRow.holds Try.pinned (OpenSpec.ofChange fnExactJoinRegionsSpec)

/-- ITS FALSE NEIGHBOUR: 'it returns false'. Refute it at one input. -/
def fnExactJoinRegionsWrong : ChangeSpec := { name := "fnExactJoinRegions", fn := fun _ => fun
  | [d1, d2, d3] => { results := [.lit (.bool false)], args := [d1, d2, d3] }
  | _ => none }
def FnExactJoinRegionsWrongFalsely : Prop := fnExactJoinRegionsRow.holds Try.pinned (OpenSpec.ofChange fnExactJoinRegionsWrong)

/-- 'laws.FnExactGrowRegion': WHATEVER THE INPUT: true; the input reads as it did. -/
def fnExactGrowRegionSpec : ChangeSpec := { name := "fnExactGrowRegion", fn := fun _ => fun
  | [d1, d2] => { results := [.lit (.bool true)], args := [d1, d2] }
  | _ => none }
def fnExactGrowRegionRow : OpenClaim := { program := "ytjobjdmheocheaa", sum := "53b92ca757cc6c4aeb28e709ac4345984df8ce8101d6c97f5b633e4d1352a4dc", func := "loop.example/g00917/laws.FnExactGrowRegion", spec := "fnExactGrowRegion", unfollowed := true, recurses := true, apart := false }
def FnExactGrowRegionSaid : Prop := fnExactGrowRegionRow.holds Try.pinned (OpenSpec.ofChange fnExactGrowRegionSpec)

/-- ITS FALSE NEIGHBOUR: 'it returns false'. Refute it at one input. -/
def fnExactGrowRegionWrong : ChangeSpec := { name := "fnExactGrowRegion", fn := fun _ => fun
  | [d1, d2] => { results := [.lit (.bool false)], args := [d1, d2] }
  | _ => none }
def FnExactGrowRegionWrongFalsely : Prop := fnExactGrowRegionRow.holds Try.pinned (OpenSpec.ofChange fnExactGrowRegionWrong)

/-- 'laws.FnExactEdgeLength': WHATEVER THE INPUT: true; the input reads as it did. -/
def fnExactEdgeLengthSpec : ChangeSpec := { name := "fnExactEdgeLength", fn := fun _ => fun
  | [d1, d2] => { results := [.lit (.bool true)], args := [d1, d2] }
  | _ => none }
def fnExactEdgeLengthRow : OpenClaim := { program := "ytjobjdmheocheaa", sum := "53b92ca757cc6c4aeb28e709ac4345984df8ce8101d6c97f5b633e4d1352a4dc", func := "loop.example/g00917/laws.FnExactEdgeLength", spec := "fnExactEdgeLength", unfollowed := true, recurses := true, apart := false }
def FnExactEdgeLengthSaid : Prop := fnExactEdgeLengthRow.holds Try.pinned (OpenSpec.ofChange fnExactEdgeLengthSpec)

/-- ITS FALSE NEIGHBOUR: 'it returns false'. Refute it at one input. -/
def fnExactEdgeLengthWrong : ChangeSpec := { name := "fnExactEdgeLength", fn := fun _ => fun
  | [d1, d2] => { results := [.lit (.bool false)], args := [d1, d2] }
  | _ => none }
def FnExactEdgeLengthWrongFalsely : Prop := fnExactEdgeLengthRow.holds Try.pinned (OpenSpec.ofChange fnExactEdgeLengthWrong)

/-- 'laws.FnExactShrinkRegion': WHATEVER THE INPUT: true; the input reads as it did. -/
def fnExactShrinkRegionSpec : ChangeSpec := { name := "fnExactShrinkRegion", fn := fun _ => fun
  | [d1, d2] => { results := [.lit (.bool true)], args := [d1, d2] }
  | _ => none }
def fnExactShrinkRegionRow : OpenClaim := { program := "ytjobjdmheocheaa", sum := "53b92ca757cc6c4aeb28e709ac4345984df8ce8101d6c97f5b633e4d1352a4dc", func := "loop.example/g00917/laws.FnExactShrinkRegion", spec := "fnExactShrinkRegion", unfollowed := true, recurses := true, apart := false }
def FnExactShrinkRegionSaid : Prop := fnExactShrinkRegionRow.holds Try.pinned (OpenSpec.ofChange fnExactShrinkRegionSpec)

/-- ITS FALSE NEIGHBOUR: 'it returns false'. Refute it at one input. -/
def fnExactShrinkRegionWrong : ChangeSpec := { name := "fnExactShrinkRegion", fn := fun _ => fun
  | [d1, d2] => { results := [.lit (.bool false)], args := [d1, d2] }
  | _ => none }
def FnExactShrinkRegionWrongFalsely : Prop := fnExactShrinkRegionRow.holds Try.pinned (OpenSpec.ofChange fnExactShrinkRegionWrong)

/-- 'laws.FnExactFrontOf': WHATEVER THE INPUT: true; the input reads as it did. -/
def fnExactFrontOfSpec : ChangeSpec := { name := "fnExactFrontOf", fn := fun _ => fun
  | [d1, d2] => { results := [.lit (.bool true)], args := [d1, d2] }
  | _ => none }
def fnExactFrontOfRow : OpenClaim := { program := "ytjobjdmheocheaa", sum := "53b92ca757cc6c4aeb28e709ac4345984df8ce8101d6c97f5b633e4d1352a4dc", func := "loop.example/g00917/laws.FnExactFrontOf", spec := "fnExactFrontOf", unfollowed := true, recurses := true, apart := false }
def FnExactFrontOfSaid : Prop := fnExactFrontOfRow.holds Try.pinned (OpenSpec.ofChange fnExactFrontOfSpec)

/-- ITS FALSE NEIGHBOUR: 'it returns false'. Refute it at one input. -/
def fnExactFrontOfWrong : ChangeSpec := { name := "fnExactFrontOf", fn := fun _ => fun
  | [d1, d2] => { results := [.lit (.bool false)], args := [d1, d2] }
  | _ => none }
def FnExactFrontOfWrongFalsely : Prop := fnExactFrontOfRow.holds Try.pinned (OpenSpec.ofChange fnExactFrontOfWrong)

/-- 'laws.FnExactRegionPicture': WHATEVER THE INPUT: true; the input reads as it did. -/
def fnExactRegionPictureSpec : ChangeSpec := { name := "fnExactRegionPicture", fn := fun _ => fun
  | [d1, d2] => { results := [.lit (.bool true)], args := [d1, d2] }
  | _ => none }
def fnExactRegionPictureRow : OpenClaim := { program := "ytjobjdmheocheaa", sum := "53b92ca757cc6c4aeb28e709ac4345984df8ce8101d6c97f5b633e4d1352a4dc", func := "loop.example/g00917/laws.FnExactRegionPicture", spec := "fnExactRegionPicture", unfollowed := true, recurses := true, apart := false }
def FnExactRegionPictureSaid : Prop := fnExactRegionPictureRow.holds Try.pinned (OpenSpec.ofChange fnExactRegionPictureSpec)

/-- ITS FALSE NEIGHBOUR: 'it returns false'. Refute it at one input. -/
def fnExactRegionPictureWrong : ChangeSpec := { name := "fnExactRegionPicture", fn := fun _ => fun
  | [d1, d2] => { results := [.lit (.bool false)], args := [d1, d2] }
  | _ => none }
def FnExactRegionPictureWrongFalsely : Prop := fnExactRegionPictureRow.holds Try.pinned (OpenSpec.ofChange fnExactRegionPictureWrong)

/-- 'laws.FnExactTerrainText': WHATEVER THE INPUT: true; the input reads as it did. -/
def fnExactTerrainTextSpec : ChangeSpec := { name := "fnExactTerrainText", fn := fun _ => fun
  | [d] => { results := [.lit (.bool true)], args := [d] }
  | _ => none }
def fnExactTerrainTextRow : OpenClaim := { program := "ytjobjdmheocheaa", sum := "53b92ca757cc6c4aeb28e709ac4345984df8ce8101d6c97f5b633e4d1352a4dc", func := "loop.example/g00917/laws.FnExactTerrainText", spec := "fnExactTerrainText", unfollowed := true, recurses := true, apart := false }
def FnExactTerrainTextSaid : Prop := fnExactTerrainTextRow.holds Try.pinned (OpenSpec.ofChange fnExactTerrainTextSpec)

/-- ITS FALSE NEIGHBOUR: 'it returns false'. Refute it at one input. -/
def fnExactTerrainTextWrong : ChangeSpec := { name := "fnExactTerrainText", fn := fun _ => fun
  | [d] => { results := [.lit (.bool false)], args := [d] }
  | _ => none }
def FnExactTerrainTextWrongFalsely : Prop := fnExactTerrainTextRow.holds Try.pinned (OpenSpec.ofChange fnExactTerrainTextWrong)

/-- 'laws.FnExactReachable': WHATEVER THE INPUT: true; the input reads as it did. -/
def fnExactReachableSpec : ChangeSpec := { name := "fnExactReachable", fn := fun _ => fun
  | [d1, d2] => { results := [.lit (.bool true)], args := [d1, d2] }
  | _ => none }
def fnExactReachableRow : OpenClaim := { program := "ytjobjdmheocheaa", sum := "53b92ca757cc6c4aeb28e709ac4345984df8ce8101d6c97f5b633e4d1352a4dc", func := "loop.example/g00917/laws.FnExactReachable", spec := "fnExactReachable", unfollowed := true, recurses := true, apart := false }
def FnExactReachableSaid : Prop := fnExactReachableRow.holds Try.pinned (OpenSpec.ofChange fnExactReachableSpec)

/-- ITS FALSE NEIGHBOUR: 'it returns false'. Refute it at one input. -/
def fnExactReachableWrong : ChangeSpec := { name := "fnExactReachable", fn := fun _ => fun
  | [d1, d2] => { results := [.lit (.bool false)], args := [d1, d2] }
  | _ => none }
def FnExactReachableWrongFalsely : Prop := fnExactReachableRow.holds Try.pinned (OpenSpec.ofChange fnExactReachableWrong)

/-- 'laws.FnExactPartsOf': WHATEVER THE INPUT: true; the input reads as it did. -/
def fnExactPartsOfSpec : ChangeSpec := { name := "fnExactPartsOf", fn := fun _ => fun
  | [d1, d2] => { results := [.lit (.bool true)], args := [d1, d2] }
  | _ => none }
def fnExactPartsOfRow : OpenClaim := { program := "ytjobjdmheocheaa", sum := "53b92ca757cc6c4aeb28e709ac4345984df8ce8101d6c97f5b633e4d1352a4dc", func := "loop.example/g00917/laws.FnExactPartsOf", spec := "fnExactPartsOf", unfollowed := true, recurses := true, apart := false }
def FnExactPartsOfSaid : Prop := fnExactPartsOfRow.holds Try.pinned (OpenSpec.ofChange fnExactPartsOfSpec)

/-- ITS FALSE NEIGHBOUR: 'it returns false'. Refute it at one input. -/
def fnExactPartsOfWrong : ChangeSpec := { name := "fnExactPartsOf", fn := fun _ => fun
  | [d1, d2] => { results := [.lit (.bool false)], args := [d1, d2] }
  | _ => none }
def FnExactPartsOfWrongFalsely : Prop := fnExactPartsOfRow.holds Try.pinned (OpenSpec.ofChange fnExactPartsOfWrong)

/-- 'laws.FnExactHolesOf': WHATEVER THE INPUT: true; the input reads as it did. -/
def fnExactHolesOfSpec : ChangeSpec := { name := "fnExactHolesOf", fn := fun _ => fun
  | [d1, d2] => { results := [.lit (.bool true)], args := [d1, d2] }
  | _ => none }
def fnExactHolesOfRow : OpenClaim := { program := "ytjobjdmheocheaa", sum := "53b92ca757cc6c4aeb28e709ac4345984df8ce8101d6c97f5b633e4d1352a4dc", func := "loop.example/g00917/laws.FnExactHolesOf", spec := "fnExactHolesOf", unfollowed := true, recurses := true, apart := false }
def FnExactHolesOfSaid : Prop := fnExactHolesOfRow.holds Try.pinned (OpenSpec.ofChange fnExactHolesOfSpec)

/-- ITS FALSE NEIGHBOUR: 'it returns false'. Refute it at one input. -/
def fnExactHolesOfWrong : ChangeSpec := { name := "fnExactHolesOf", fn := fun _ => fun
  | [d1, d2] => { results := [.lit (.bool false)], args := [d1, d2] }
  | _ => none }
def FnExactHolesOfWrongFalsely : Prop := fnExactHolesOfRow.holds Try.pinned (OpenSpec.ofChange fnExactHolesOfWrong)

/-- 'laws.FnExactFillRegion': WHATEVER THE INPUT: true; the input reads as it did. -/
def fnExactFillRegionSpec : ChangeSpec := { name := "fnExactFillRegion", fn := fun _ => fun
  | [d1, d2] => { results := [.lit (.bool true)], args := [d1, d2] }
  | _ => none }
def fnExactFillRegionRow : OpenClaim := { program := "ytjobjdmheocheaa", sum := "53b92ca757cc6c4aeb28e709ac4345984df8ce8101d6c97f5b633e4d1352a4dc", func := "loop.example/g00917/laws.FnExactFillRegion", spec := "fnExactFillRegion", unfollowed := true, recurses := true, apart := false }
def FnExactFillRegionSaid : Prop := fnExactFillRegionRow.holds Try.pinned (OpenSpec.ofChange fnExactFillRegionSpec)

/-- ITS FALSE NEIGHBOUR: 'it returns false'. Refute it at one input. -/
def fnExactFillRegionWrong : ChangeSpec := { name := "fnExactFillRegion", fn := fun _ => fun
  | [d1, d2] => { results := [.lit (.bool false)], args := [d1, d2] }
  | _ => none }
def FnExactFillRegionWrongFalsely : Prop := fnExactFillRegionRow.holds Try.pinned (OpenSpec.ofChange fnExactFillRegionWrong)

/- THE SECOND FORM. 'bulk': how many values and letters a reading holds, each counted each time it is reached (what is shared counts as often as it is met; a slice's spare places count too). A statement '..UptoSaid' is the law's where the arguments, and the package variables that the reading takes, are together of bulk at most 1048576: NARROWER than '..Said'. Prove '..Said' where nothing that the law and all that it calls make is longer than what came in: it says more and counts as full. Else prove '..UptoSaid'. A law counts once. -/
mutual
def uptoBulk {H : Type} : DataW H → Nat
  | .lit (.string bytes) => bytes.length + 1
  | .lit _ => 1
  | .nil => 1
  | .ptr d => uptoBulk d + 1
  | .slice elems spare => uptoBulkAll elems + uptoBulkAll spare + 1
  | .agg parts => uptoBulkAll parts + 1
  | .iface _ d => uptoBulk d + 1
  | .map entries => uptoBulkEntries entries + 1
  | .held _ => 1
def uptoBulkAll {H : Type} : List (DataW H) → Nat
  | [] => 0
  | d :: r => uptoBulk d + uptoBulkAll r
def uptoBulkEntries {H : Type} : List (Lit × DataW H) → Nat
  | [] => 0
  | x :: r => uptoBulkEntry x + uptoBulkEntries r
def uptoBulkEntry {H : Type} : Lit × DataW H → Nat
  | (.string bytes, d) => bytes.length + uptoBulk d + 1
  | (_, d) => uptoBulk d + 1
 end
def uptoSmall : (H : Type) → List (DataW H) → Bool := fun _ ds => decide (uptoBulkAll ds ≤ 1048576)
def OpenSpec.upto (s : _root_.Go.ChangeSpec) : _root_.Go.OpenSpec := { _root_.Go.OpenSpec.ofChange s with cond := some uptoSmall }

/-- 'laws.FnExactCommonRegion', WHERE WHAT IT READS IS OF BULK AT MOST 1048576: true; the input reads as it did. -/
def fnExactCommonRegionUptoRow : OpenClaim := { program := "ytjobjdmheocheaa", sum := "53b92ca757cc6c4aeb28e709ac4345984df8ce8101d6c97f5b633e4d1352a4dc", func := "loop.example/g00917/laws.FnExactCommonRegion", spec := "fnExactCommonRegion", unfollowed := true, recurses := true, apart := false, narrowed := true }
def FnExactCommonRegionUptoSaid : Prop := fnExactCommonRegionUptoRow.holds Try.pinned (OpenSpec.upto fnExactCommonRegionSpec)

/-- 'laws.FnExactJoinRegions', WHERE WHAT IT READS IS OF BULK AT MOST 1048576: true; the input reads as it did. -/
def fnExactJoinRegionsUptoRow : OpenClaim := { program := "ytjobjdmheocheaa", sum := "53b92ca757cc6c4aeb28e709ac4345984df8ce8101d6c97f5b633e4d1352a4dc", func := "loop.example/g00917/laws.FnExactJoinRegions", spec := "fnExactJoinRegions", unfollowed := true, recurses := true, apart := false, narrowed := true }
def FnExactJoinRegionsUptoSaid : Prop := fnExactJoinRegionsUptoRow.holds Try.pinned (OpenSpec.upto fnExactJoinRegionsSpec)

/-- 'laws.FnExactGrowRegion', WHERE WHAT IT READS IS OF BULK AT MOST 1048576: true; the input reads as it did. -/
def fnExactGrowRegionUptoRow : OpenClaim := { program := "ytjobjdmheocheaa", sum := "53b92ca757cc6c4aeb28e709ac4345984df8ce8101d6c97f5b633e4d1352a4dc", func := "loop.example/g00917/laws.FnExactGrowRegion", spec := "fnExactGrowRegion", unfollowed := true, recurses := true, apart := false, narrowed := true }
def FnExactGrowRegionUptoSaid : Prop := fnExactGrowRegionUptoRow.holds Try.pinned (OpenSpec.upto fnExactGrowRegionSpec)

/-- 'laws.FnExactEdgeLength', WHERE WHAT IT READS IS OF BULK AT MOST 1048576: true; the input reads as it did. -/
def fnExactEdgeLengthUptoRow : OpenClaim := { program := "ytjobjdmheocheaa", sum := "53b92ca757cc6c4aeb28e709ac4345984df8ce8101d6c97f5b633e4d1352a4dc", func := "loop.example/g00917/laws.FnExactEdgeLength", spec := "fnExactEdgeLength", unfollowed := true, recurses := true, apart := false, narrowed := true }
def FnExactEdgeLengthUptoSaid : Prop := fnExactEdgeLengthUptoRow.holds Try.pinned (OpenSpec.upto fnExactEdgeLengthSpec)

/-- 'laws.FnExactShrinkRegion', WHERE WHAT IT READS IS OF BULK AT MOST 1048576: true; the input reads as it did. -/
def fnExactShrinkRegionUptoRow : OpenClaim := { program := "ytjobjdmheocheaa", sum := "53b92ca757cc6c4aeb28e709ac4345984df8ce8101d6c97f5b633e4d1352a4dc", func := "loop.example/g00917/laws.FnExactShrinkRegion", spec := "fnExactShrinkRegion", unfollowed := true, recurses := true, apart := false, narrowed := true }
def FnExactShrinkRegionUptoSaid : Prop := fnExactShrinkRegionUptoRow.holds Try.pinned (OpenSpec.upto fnExactShrinkRegionSpec)

/-- 'laws.FnExactFrontOf', WHERE WHAT IT READS IS OF BULK AT MOST 1048576: true; the input reads as it did. -/
def fnExactFrontOfUptoRow : OpenClaim := { program := "ytjobjdmheocheaa", sum := "53b92ca757cc6c4aeb28e709ac4345984df8ce8101d6c97f5b633e4d1352a4dc", func := "loop.example/g00917/laws.FnExactFrontOf", spec := "fnExactFrontOf", unfollowed := true, recurses := true, apart := false, narrowed := true }
def FnExactFrontOfUptoSaid : Prop := fnExactFrontOfUptoRow.holds Try.pinned (OpenSpec.upto fnExactFrontOfSpec)

/-- 'laws.FnExactRegionPicture', WHERE WHAT IT READS IS OF BULK AT MOST 1048576: true; the input reads as it did. -/
def fnExactRegionPictureUptoRow : OpenClaim := { program := "ytjobjdmheocheaa", sum := "53b92ca757cc6c4aeb28e709ac4345984df8ce8101d6c97f5b633e4d1352a4dc", func := "loop.example/g00917/laws.FnExactRegionPicture", spec := "fnExactRegionPicture", unfollowed := true, recurses := true, apart := false, narrowed := true }
def FnExactRegionPictureUptoSaid : Prop := fnExactRegionPictureUptoRow.holds Try.pinned (OpenSpec.upto fnExactRegionPictureSpec)

/-- 'laws.FnExactTerrainText', WHERE WHAT IT READS IS OF BULK AT MOST 1048576: true; the input reads as it did. -/
def fnExactTerrainTextUptoRow : OpenClaim := { program := "ytjobjdmheocheaa", sum := "53b92ca757cc6c4aeb28e709ac4345984df8ce8101d6c97f5b633e4d1352a4dc", func := "loop.example/g00917/laws.FnExactTerrainText", spec := "fnExactTerrainText", unfollowed := true, recurses := true, apart := false, narrowed := true }
def FnExactTerrainTextUptoSaid : Prop := fnExactTerrainTextUptoRow.holds Try.pinned (OpenSpec.upto fnExactTerrainTextSpec)

/-- 'laws.FnExactReachable', WHERE WHAT IT READS IS OF BULK AT MOST 1048576: true; the input reads as it did. -/
def fnExactReachableUptoRow : OpenClaim := { program := "ytjobjdmheocheaa", sum := "53b92ca757cc6c4aeb28e709ac4345984df8ce8101d6c97f5b633e4d1352a4dc", func := "loop.example/g00917/laws.FnExactReachable", spec := "fnExactReachable", unfollowed := true, recurses := true, apart := false, narrowed := true }
def FnExactReachableUptoSaid : Prop := fnExactReachableUptoRow.holds Try.pinned (OpenSpec.upto fnExactReachableSpec)

/-- 'laws.FnExactPartsOf', WHERE WHAT IT READS IS OF BULK AT MOST 1048576: true; the input reads as it did. -/
def fnExactPartsOfUptoRow : OpenClaim := { program := "ytjobjdmheocheaa", sum := "53b92ca757cc6c4aeb28e709ac4345984df8ce8101d6c97f5b633e4d1352a4dc", func := "loop.example/g00917/laws.FnExactPartsOf", spec := "fnExactPartsOf", unfollowed := true, recurses := true, apart := false, narrowed := true }
def FnExactPartsOfUptoSaid : Prop := fnExactPartsOfUptoRow.holds Try.pinned (OpenSpec.upto fnExactPartsOfSpec)

/-- 'laws.FnExactHolesOf', WHERE WHAT IT READS IS OF BULK AT MOST 1048576: true; the input reads as it did. -/
def fnExactHolesOfUptoRow : OpenClaim := { program := "ytjobjdmheocheaa", sum := "53b92ca757cc6c4aeb28e709ac4345984df8ce8101d6c97f5b633e4d1352a4dc", func := "loop.example/g00917/laws.FnExactHolesOf", spec := "fnExactHolesOf", unfollowed := true, recurses := true, apart := false, narrowed := true }
def FnExactHolesOfUptoSaid : Prop := fnExactHolesOfUptoRow.holds Try.pinned (OpenSpec.upto fnExactHolesOfSpec)

/-- 'laws.FnExactFillRegion', WHERE WHAT IT READS IS OF BULK AT MOST 1048576: true; the input reads as it did. -/
def fnExactFillRegionUptoRow : OpenClaim := { program := "ytjobjdmheocheaa", sum := "53b92ca757cc6c4aeb28e709ac4345984df8ce8101d6c97f5b633e4d1352a4dc", func := "loop.example/g00917/laws.FnExactFillRegion", spec := "fnExactFillRegion", unfollowed := true, recurses := true, apart := false, narrowed := true }
def FnExactFillRegionUptoSaid : Prop := fnExactFillRegionUptoRow.holds Try.pinned (OpenSpec.upto fnExactFillRegionSpec)

end Rows
end Go.Proofs.Ytjobjdmheocheaa
