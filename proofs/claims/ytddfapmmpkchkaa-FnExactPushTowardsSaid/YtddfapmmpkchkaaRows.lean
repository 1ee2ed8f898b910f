/-
  No cell of these rows narrows 'for every input' (looked for: loops, veiled, ifaces, maps, wideKeys, modest, calm, conditions, laid).
  DERIVED. THE GIVEN ROWS OF THIS SEAT. 10 by the template 'for every input the law returns true; each argument reads behind the call as it read before'; 0 by the template 'total and deterministic' (their statements: YtddfapmmpkchkaaTotals.lean).
  GIVEN WITH THE SEED: the statements are not yours to turn. If you find one false, say at which input.
  Laid BY PROGRAM, IN A SANDBOX (cutbox-rows.mjs): the forced cells as the released guide's own fill.sh prints them over the translation 97b70c2d19a426e7… (all of the seat's roots in one cut). By AI agents, Wed Nov 11 2026. No macro, syntax, notation, axiom, sorry.
-/
import Derived.Test.YtddfapmmpkchkaaChecked
import GoSem.Claim
import GoSem.ClaimJoined
import GoSem.ClaimMapViews
import Derived.JoinedTies
import Derived.KernelRfl
namespace Go.Proofs.Ytddfapmmpkchkaa
/- THE CELL 'sum', in the pinned program and in every row, IS THE sha256 OF THE DUMP (.gsa) THAT YtddfapmmpkchkaaProg.lean LOADS. Nothing in Lean hashes anything: it is a label: what it is worth is what the hold of that sum in a sandbox is worth. -/
noncomputable def Try.pinned : Pinned := { name := "ytddfapmmpkchkaa", sum := "97b70c2d19a426e79261337cbd08da711eb590dbcb49ca72a5ebf87a1dd793a3", checked := Try.checked }
namespace Rows
def none {H : Type} : Left H := { results := [], args := [] }

/-- 'laws.FnExactConstants': WHATEVER THE INPUT: true; the input reads as it did. -/
def fnExactConstantsSpec : ChangeSpec := { name := "fnExactConstants", fn := fun _ => fun
  | [] => { results := [.lit (.bool true)], args := [] }
  | _ => none }
def fnExactConstantsRow : OpenClaim := { program := "ytddfapmmpkchkaa", sum := "97b70c2d19a426e79261337cbd08da711eb590dbcb49ca72a5ebf87a1dd793a3", func := "loop.example/g00917/laws.FnExactConstants", spec := "fnExactConstants", apart := false }
def FnExactConstantsSaid : Prop := fnExactConstantsRow.holds Try.pinned (OpenSpec.ofChange fnExactConstantsSpec)

/-- ITS FALSE NEIGHBOUR: 'it returns false'. Refute it at one input. -/
def fnExactConstantsWrong : ChangeSpec := { name := "fnExactConstants", fn := fun _ => fun
  | [] => { results := [.lit (.bool false)], args := [] }
  | _ => none }
def FnExactConstantsWrongFalsely : Prop := fnExactConstantsRow.holds Try.pinned (OpenSpec.ofChange fnExactConstantsWrong)

/-- 'laws.FnExactLessString': WHATEVER THE INPUT: true; the input reads as it did. -/
def fnExactLessStringSpec : ChangeSpec := { name := "fnExactLessString", fn := fun _ => fun
  | [d1, d2] => { results := [.lit (.bool true)], args := [d1, d2] }
  | _ => none }
def fnExactLessStringRow : OpenClaim := { program := "ytddfapmmpkchkaa", sum := "97b70c2d19a426e79261337cbd08da711eb590dbcb49ca72a5ebf87a1dd793a3", func := "loop.example/g00917/laws.FnExactLessString", spec := "fnExactLessString", apart := false }
def FnExactLessStringSaid : Prop := fnExactLessStringRow.holds Try.pinned (OpenSpec.ofChange fnExactLessStringSpec)

/-- ITS FALSE NEIGHBOUR: 'it returns false'. Refute it at one input. -/
def fnExactLessStringWrong : ChangeSpec := { name := "fnExactLessString", fn := fun _ => fun
  | [d1, d2] => { results := [.lit (.bool false)], args := [d1, d2] }
  | _ => none }
def FnExactLessStringWrongFalsely : Prop := fnExactLessStringRow.holds Try.pinned (OpenSpec.ofChange fnExactLessStringWrong)

/-- 'laws.FnExactIsBreeze': WHATEVER THE INPUT: true; the input reads as it did. -/
def fnExactIsBreezeSpec : ChangeSpec := { name := "fnExactIsBreeze", fn := fun _ => fun
  | [d] => { results := [.lit (.bool true)], args := [d] }
  | _ => none }
def fnExactIsBreezeRow : OpenClaim := { program := "ytddfapmmpkchkaa", sum := "97b70c2d19a426e79261337cbd08da711eb590dbcb49ca72a5ebf87a1dd793a3", func := "loop.example/g00917/laws.FnExactIsBreeze", spec := "fnExactIsBreeze", apart := false }
def FnExactIsBreezeSaid : Prop := fnExactIsBreezeRow.holds Try.pinned (OpenSpec.ofChange fnExactIsBreezeSpec)

/-- ITS FALSE NEIGHBOUR: 'it returns false'. Refute it at one input. -/
def fnExactIsBreezeWrong : ChangeSpec := { name := "fnExactIsBreeze", fn := fun _ => fun
  | [d] => { results := [.lit (.bool false)], args := [d] }
  | _ => none }
def FnExactIsBreezeWrongFalsely : Prop := fnExactIsBreezeRow.holds Try.pinned (OpenSpec.ofChange fnExactIsBreezeWrong)

/-- 'laws.FnExactChecksum': WHATEVER THE INPUT: true; the input reads as it did. -/
def fnExactChecksumSpec : ChangeSpec := { name := "fnExactChecksum", fn := fun _ => fun
  | [d] => { results := [.lit (.bool true)], args := [d] }
  | _ => none }
def fnExactChecksumRow : OpenClaim := { program := "ytddfapmmpkchkaa", sum := "97b70c2d19a426e79261337cbd08da711eb590dbcb49ca72a5ebf87a1dd793a3", func := "loop.example/g00917/laws.FnExactChecksum", spec := "fnExactChecksum", apart := false }
def FnExactChecksumSaid : Prop := fnExactChecksumRow.holds Try.pinned (OpenSpec.ofChange fnExactChecksumSpec)

/-- ITS FALSE NEIGHBOUR: 'it returns false'. Refute it at one input. -/
def fnExactChecksumWrong : ChangeSpec := { name := "fnExactChecksum", fn := fun _ => fun
  | [d] => { results := [.lit (.bool false)], args := [d] }
  | _ => none }
def FnExactChecksumWrongFalsely : Prop := fnExactChecksumRow.holds Try.pinned (OpenSpec.ofChange fnExactChecksumWrong)

/-- 'laws.FnExactTurnBetween': WHATEVER THE INPUT: true; the input reads as it did. -/
def fnExactTurnBetweenSpec : ChangeSpec := { name := "fnExactTurnBetween", fn := fun _ => fun
  | [d1, d2] => { results := [.lit (.bool true)], args := [d1, d2] }
  | _ => none }
def fnExactTurnBetweenRow : OpenClaim := { program := "ytddfapmmpkchkaa", sum := "97b70c2d19a426e79261337cbd08da711eb590dbcb49ca72a5ebf87a1dd793a3", func := "loop.example/g00917/laws.FnExactTurnBetween", spec := "fnExactTurnBetween", apart := false }
def FnExactTurnBetweenSaid : Prop := fnExactTurnBetweenRow.holds Try.pinned (OpenSpec.ofChange fnExactTurnBetweenSpec)

/-- ITS FALSE NEIGHBOUR: 'it returns false'. Refute it at one input. -/
def fnExactTurnBetweenWrong : ChangeSpec := { name := "fnExactTurnBetween", fn := fun _ => fun
  | [d1, d2] => { results := [.lit (.bool false)], args := [d1, d2] }
  | _ => none }
def FnExactTurnBetweenWrongFalsely : Prop := fnExactTurnBetweenRow.holds Try.pinned (OpenSpec.ofChange fnExactTurnBetweenWrong)

/-- 'laws.FnExactIsFuel': WHATEVER THE INPUT: true; the input reads as it did. -/
def fnExactIsFuelSpec : ChangeSpec := { name := "fnExactIsFuel", fn := fun _ => fun
  | [d] => { results := [.lit (.bool true)], args := [d] }
  | _ => none }
def fnExactIsFuelRow : OpenClaim := { program := "ytddfapmmpkchkaa", sum := "97b70c2d19a426e79261337cbd08da711eb590dbcb49ca72a5ebf87a1dd793a3", func := "loop.example/g00917/laws.FnExactIsFuel", spec := "fnExactIsFuel", apart := false }
def FnExactIsFuelSaid : Prop := fnExactIsFuelRow.holds Try.pinned (OpenSpec.ofChange fnExactIsFuelSpec)

/-- ITS FALSE NEIGHBOUR: 'it returns false'. Refute it at one input. -/
def fnExactIsFuelWrong : ChangeSpec := { name := "fnExactIsFuel", fn := fun _ => fun
  | [d] => { results := [.lit (.bool false)], args := [d] }
  | _ => none }
def FnExactIsFuelWrongFalsely : Prop := fnExactIsFuelRow.holds Try.pinned (OpenSpec.ofChange fnExactIsFuelWrong)

/-- 'laws.FnExactPushTowards': WHATEVER THE INPUT: true; the input reads as it did. -/
def fnExactPushTowardsSpec : ChangeSpec := { name := "fnExactPushTowards", fn := fun _ => fun
  | [d1, d2] => { results := [.lit (.bool true)], args := [d1, d2] }
  | _ => none }
def fnExactPushTowardsRow : OpenClaim := { program := "ytddfapmmpkchkaa", sum := "97b70c2d19a426e79261337cbd08da711eb590dbcb49ca72a5ebf87a1dd793a3", func := "loop.example/g00917/laws.FnExactPushTowards", spec := "fnExactPushTowards", apart := false }
def FnExactPushTowardsSaid : Prop := fnExactPushTowardsRow.holds Try.pinned (OpenSpec.ofChange fnExactPushTowardsSpec)

/-- ITS FALSE NEIGHBOUR: 'it returns false'. Refute it at one input. -/
def fnExactPushTowardsWrong : ChangeSpec := { name := "fnExactPushTowards", fn := fun _ => fun
  | [d1, d2] => { results := [.lit (.bool false)], args := [d1, d2] }
  | _ => none }
def FnExactPushTowardsWrongFalsely : Prop := fnExactPushTowardsRow.holds Try.pinned (OpenSpec.ofChange fnExactPushTowardsWrong)

/-- 'laws.FnExactHeatOf': WHATEVER THE INPUT: true; the input reads as it did. -/
def fnExactHeatOfSpec : ChangeSpec := { name := "fnExactHeatOf", fn := fun _ => fun
  | [d1, d2] => { results := [.lit (.bool true)], args := [d1, d2] }
  | _ => none }
def fnExactHeatOfRow : OpenClaim := { program := "ytddfapmmpkchkaa", sum := "97b70c2d19a426e79261337cbd08da711eb590dbcb49ca72a5ebf87a1dd793a3", func := "loop.example/g00917/laws.FnExactHeatOf", spec := "fnExactHeatOf", apart := false }
def FnExactHeatOfSaid : Prop := fnExactHeatOfRow.holds Try.pinned (OpenSpec.ofChange fnExactHeatOfSpec)

/-- ITS FALSE NEIGHBOUR: 'it returns false'. Refute it at one input. -/
def fnExactHeatOfWrong : ChangeSpec := { name := "fnExactHeatOf", fn := fun _ => fun
  | [d1, d2] => { results := [.lit (.bool false)], args := [d1, d2] }
  | _ => none }
def FnExactHeatOfWrongFalsely : Prop := fnExactHeatOfRow.holds Try.pinned (OpenSpec.ofChange fnExactHeatOfWrong)

/-- 'laws.FnExactSpeedIn': WHATEVER THE INPUT: true; the input reads as it did. -/
def fnExactSpeedInSpec : ChangeSpec := { name := "fnExactSpeedIn", fn := fun _ => fun
  | [d1, d2, d3] => { results := [.lit (.bool true)], args := [d1, d2, d3] }
  | _ => none }
def fnExactSpeedInRow : OpenClaim := { program := "ytddfapmmpkchkaa", sum := "97b70c2d19a426e79261337cbd08da711eb590dbcb49ca72a5ebf87a1dd793a3", func := "loop.example/g00917/laws.FnExactSpeedIn", spec := "fnExactSpeedIn", apart := false }
def FnExactSpeedInSaid : Prop := fnExactSpeedInRow.holds Try.pinned (OpenSpec.ofChange fnExactSpeedInSpec)

/-- ITS FALSE NEIGHBOUR: 'it returns false'. Refute it at one input. -/
def fnExactSpeedInWrong : ChangeSpec := { name := "fnExactSpeedIn", fn := fun _ => fun
  | [d1, d2, d3] => { results := [.lit (.bool false)], args := [d1, d2, d3] }
  | _ => none }
def FnExactSpeedInWrongFalsely : Prop := fnExactSpeedInRow.holds Try.pinned (OpenSpec.ofChange fnExactSpeedInWrong)

/-- 'laws.FnExactDampestFor': WHATEVER THE INPUT: true; the input reads as it did. -/
def fnExactDampestForSpec : ChangeSpec := { name := "fnExactDampestFor", fn := fun _ => fun
  | [d1, d2, d3] => { results := [.lit (.bool true)], args := [d1, d2, d3] }
  | _ => none }
def fnExactDampestForRow : OpenClaim := { program := "ytddfapmmpkchkaa", sum := "97b70c2d19a426e79261337cbd08da711eb590dbcb49ca72a5ebf87a1dd793a3", func := "loop.example/g00917/laws.FnExactDampestFor", spec := "fnExactDampestFor", apart := false }
def FnExactDampestForSaid : Prop := fnExactDampestForRow.holds Try.pinned (OpenSpec.ofChange fnExactDampestForSpec)

/-- ITS FALSE NEIGHBOUR: 'it returns false'. Refute it at one input. -/
def fnExactDampestForWrong : ChangeSpec := { name := "fnExactDampestFor", fn := fun _ => fun
  | [d1, d2, d3] => { results := [.lit (.bool false)], args := [d1, d2, d3] }
  | _ => none }
def FnExactDampestForWrongFalsely : Prop := fnExactDampestForRow.holds Try.pinned (OpenSpec.ofChange fnExactDampestForWrong)

/- THE SECOND FORM. 'bulk': how many values and letters a reading holds, each counted each time it is reached (what is shared counts as often as it is met; a slice's spare places count too). A statement '..UptoSaid' is the law's where the arguments, and the package variables that the reading takes, are together of bulk at most 1048576: NARROWER than '..Said'. Prove '..Said' where nothing that the law and all that it calls make is longer than what came in: it says more and counts as full. Else prove '..UptoSaid'. A law counts once. -/
mutual
def uptoBulk {H : Type} : DataW H → Nat
  | .lit (.string bytes) => bytes.length + 1
  | .lit _ => 1
  | .nil => 1
  | .ptr d => uptoBulk d + 1
  | .slice elems spare => uptoBulkAll elems + uptoBulkAll spare + 1
  | .agg parts => uptoBulkAll parts + 1
  | .iface _ d => uptoBulk d + 1
  | .map entries => uptoBulkEntries entries + 1
  | .held _ => 1
def uptoBulkAll {H : Type} : List (DataW H) → Nat
  | [] => 0
  | d :: r => uptoBulk d + uptoBulkAll r
def uptoBulkEntries {H : Type} : List (Lit × DataW H) → Nat
  | [] => 0
  | x :: r => uptoBulkEntry x + uptoBulkEntries r
def uptoBulkEntry {H : Type} : Lit × DataW H → Nat
  | (.string bytes, d) => bytes.length + uptoBulk d + 1
  | (_, d) => uptoBulk d + 1
 end
def uptoSmall : (H : Type) → List (DataW H) → Bool := fun _ ds => decide (uptoBulkAll ds ≤ 1048576)
def OpenSpec.upto (s : _root_.Go.ChangeSpec) : _root_.Go.OpenSpec := { _root_.Go.OpenSpec.ofChange s with cond := some uptoSmall }

/-- 'laws.FnExactConstants', WHERE WHAT IT READS IS OF BULK AT MOST 1048576: true; the input reads as it did. -/
def fnExactConstantsUptoRow : OpenClaim := { program := "ytddfapmmpkchkaa", sum := "97b70c2d19a426e79261337cbd08da711eb590dbcb49ca72a5ebf87a1dd793a3", func := "loop.example/g00917/laws.FnExactConstants", spec := "fnExactConstants", apart := false, narrowed := true }
def FnExactConstantsUptoSaid : Prop := fnExactConstantsUptoRow.holds Try.pinned (OpenSpec.upto fnExactConstantsSpec)

/-- 'laws.FnExactLessString', WHERE WHAT IT READS IS OF BULK AT MOST 1048576: true; the input reads as it did. -/
def fnExactLessStringUptoRow : OpenClaim := { program := "ytddfapmmpkchkaa", sum := "97b70c2d19a426e79261337cbd08da711eb590dbcb49ca72a5ebf87a1dd793a3", func := "loop.example/g00917/laws.FnExactLessString", spec := "fnExactLessString", apart := false, narrowed := true }
def FnExactLessStringUptoSaid : Prop := fnExactLessStringUptoRow.holds Try.pinned (OpenSpec.upto fnExactLessStringSpec)

/-- 'laws.FnExactIsBreeze', WHERE WHAT IT READS IS OF BULK AT MOST 1048576: true; the input reads as it did. -/
def fnExactIsBreezeUptoRow : OpenClaim := { program := "ytddfapmmpkchkaa", sum := "97b70c2d19a426e79261337cbd08da711eb590dbcb49ca72a5ebf87a1dd793a3", func := "loop.example/g00917/laws.FnExactIsBreeze", spec := "fnExactIsBreeze", apart := false, narrowed := true }
def FnExactIsBreezeUptoSaid : Prop := fnExactIsBreezeUptoRow.holds Try.pinned (OpenSpec.upto fnExactIsBreezeSpec)

/-- 'laws.FnExactChecksum', WHERE WHAT IT READS IS OF BULK AT MOST 1048576: true; the input reads as it did. -/
def fnExactChecksumUptoRow : OpenClaim := { program := "ytddfapmmpkchkaa", sum := "97b70c2d19a426e79261337cbd08da711eb590dbcb49ca72a5ebf87a1dd793a3", func := "loop.example/g00917/laws.FnExactChecksum", spec := "fnExactChecksum", apart := false, narrowed := true }
def FnExactChecksumUptoSaid : Prop := fnExactChecksumUptoRow.holds Try.pinned (OpenSpec.upto fnExactChecksumSpec)

/-- 'laws.FnExactTurnBetween', WHERE WHAT IT READS IS OF BULK AT MOST 1048576: true; the input reads as it did. -/
def fnExactTurnBetweenUptoRow : OpenClaim := { program := "ytddfapmmpkchkaa", sum := "97b70c2d19a426e79261337cbd08da711eb590dbcb49ca72a5ebf87a1dd793a3", func := "loop.example/g00917/laws.FnExactTurnBetween", spec := "fnExactTurnBetween", apart := false, narrowed := true }
def FnExactTurnBetweenUptoSaid : Prop := fnExactTurnBetweenUptoRow.holds Try.pinned (OpenSpec.upto fnExactTurnBetweenSpec)

/-- 'laws.FnExactIsFuel', WHERE WHAT IT READS IS OF BULK AT MOST 1048576: true; the input reads as it did. -/
def fnExactIsFuelUptoRow : OpenClaim := { program := "ytddfapmmpkchkaa", sum := "97b70c2d19a426e79261337cbd08da711eb590dbcb49ca72a5ebf87a1dd793a3", func := "loop.example/g00917/laws.FnExactIsFuel", spec := "fnExactIsFuel", apart := false, narrowed := true }
def FnExactIsFuelUptoSaid : Prop := fnExactIsFuelUptoRow.holds Try.pinned (OpenSpec.upto fnExactIsFuelSpec)

/-- 'laws.FnExactPushTowards', WHERE WHAT IT READS IS OF BULK AT MOST 1048576: true; the input reads as it did. -/
def fnExactPushTowardsUptoRow : OpenClaim := { program := "ytddfapmmpkchkaa", sum := "97b70c2d19a426e79261337cbd08da711eb590dbcb49ca72a5ebf87a1dd793a3", func := "loop.example/g00917/laws.FnExactPushTowards", spec := "fnExactPushTowards", apart := false, narrowed := true }
def FnExactPushTowardsUptoSaid : Prop := fnExactPushTowardsUptoRow.holds Try.pinned (OpenSpec.upto fnExactPushTowardsSpec)

/-- 'laws.FnExactHeatOf', WHERE WHAT IT READS IS OF BULK AT MOST 1048576: true; the input reads as it did. -/
def fnExactHeatOfUptoRow : OpenClaim := { program := "ytddfapmmpkchkaa", sum := "97b70c2d19a426e79261337cbd08da711eb590dbcb49ca72a5ebf87a1dd793a3", func := "loop.example/g00917/laws.FnExactHeatOf", spec := "fnExactHeatOf", apart := false, narrowed := true }
def FnExactHeatOfUptoSaid : Prop := fnExactHeatOfUptoRow.holds Try.pinned (OpenSpec.upto fnExactHeatOfSpec)

/-- 'laws.FnExactSpeedIn', WHERE WHAT IT READS IS OF BULK AT MOST 1048576: true; the input reads as it did. -/
def fnExactSpeedInUptoRow : OpenClaim := { program := "ytddfapmmpkchkaa", sum := "97b70c2d19a426e79261337cbd08da711eb590dbcb49ca72a5ebf87a1dd793a3", func := "loop.example/g00917/laws.FnExactSpeedIn", spec := "fnExactSpeedIn", apart := false, narrowed := true }
def FnExactSpeedInUptoSaid : Prop := fnExactSpeedInUptoRow.holds Try.pinned (OpenSpec.upto fnExactSpeedInSpec)

/-- 'laws.FnExactDampestFor', WHERE WHAT IT READS IS OF BULK AT MOST 1048576: true; the input reads as it did. -/
def fnExactDampestForUptoRow : OpenClaim := { program := "ytddfapmmpkchkaa", sum := "97b70c2d19a426e79261337cbd08da711eb590dbcb49ca72a5ebf87a1dd793a3", func := "loop.example/g00917/laws.FnExactDampestFor", spec := "fnExactDampestFor", apart := false, narrowed := true }
def FnExactDampestForUptoSaid : Prop := fnExactDampestForUptoRow.holds Try.pinned (OpenSpec.upto fnExactDampestForSpec)

end Rows
end Go.Proofs.Ytddfapmmpkchkaa
