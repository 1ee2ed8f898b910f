/-
  DERIVED. GIVEN WITH THE SEED: THE CARDS: each row of YtddnghfioghidaaDoorRows.lean that lists a variable, with what it lists TIED to the program's text (the seventh form; the later family's looks); each row that meets fmt, with fmt's text TOLD by the authors' own Lean function (tested against real Go, not proved from fmt's source: count such statements apart). THE CARD IS WHAT COUNTS. Prove the row's statement (the work); the ties are given (YtddnghfioghidaaDoorTie.lean); close each card by the builder's one call (the guide's Derived/Test/ToyasCard.lean, 'card_holds'). Laid BY PROGRAM, IN A SANDBOX (cutbox-door.mjs). By AI agents, Wed Nov 11 2026. No macro, syntax, notation, axiom, sorry.
-/
import Derived.Test.YtddnghfioghidaaDoorRows
import GoSem.ClaimSeven
namespace Go.Proofs.YtddnghfioghidaaDoor
namespace Rows

/-- THE TIED CARD OF 'laws.FnExactSplitString'. -/
def fnExactSplitStringCard : Claim7 := { stood := { row := fnExactSplitStringRow, standIns := [], harness := (true, "a64092c0d91823f8f6b142458e85c942dff3abef76a811f77243bd2608d0bb5f"), looks := true }, kinds := [], alts := [], laidByText := true, laidKinds := [.data, .pinned], laidTests := true, laidLooks := .later }
def FnExactSplitStringCardSaid : Prop := Claim7.holds Tryd.pinned (.plain (OpenSpec.ofChange fnExactSplitStringSpec)) fnExactSplitStringCard

/-- THE TIED CARD OF 'laws.FnExactParseBreeze'. -/
def fnExactParseBreezeCard : Claim7 := { stood := { row := fnExactParseBreezeRow, standIns := [], harness := (true, "a64092c0d91823f8f6b142458e85c942dff3abef76a811f77243bd2608d0bb5f"), looks := true }, kinds := [], alts := [], laidByText := true, laidKinds := [.data, .data, .data, .data, .sentinel, .sentinel, .pinned], laidTests := true, laidLooks := .later }
def FnExactParseBreezeCardSaid : Prop := Claim7.holds Tryd.pinned (.plain (OpenSpec.ofChange fnExactParseBreezeSpec)) fnExactParseBreezeCard

/-- THE TIED CARD OF 'laws.FnExactFuelText'. -/
def fnExactFuelTextCard : Claim7 := { stood := { row := fnExactFuelTextRow, standIns := [], harness := (true, "a64092c0d91823f8f6b142458e85c942dff3abef76a811f77243bd2608d0bb5f"), looks := true }, kinds := [], alts := [], laidByText := true, laidKinds := [.data, .data, .data], laidTests := true, laidLooks := .later }
def FnExactFuelTextCardSaid : Prop := Claim7.holds Tryd.pinned (.plain (OpenSpec.ofChange fnExactFuelTextSpec)) fnExactFuelTextCard

/-- THE TIED CARD OF 'laws.FnExactParseFuel'. -/
def fnExactParseFuelCard : Claim7 := { stood := { row := fnExactParseFuelRow, standIns := [], harness := (true, "a64092c0d91823f8f6b142458e85c942dff3abef76a811f77243bd2608d0bb5f"), looks := true }, kinds := [], alts := [], laidByText := true, laidKinds := [.data, .data, .data, .data, .sentinel, .sentinel, .pinned], laidTests := true, laidLooks := .later }
def FnExactParseFuelCardSaid : Prop := Claim7.holds Tryd.pinned (.plain (OpenSpec.ofChange fnExactParseFuelSpec)) fnExactParseFuelCard

/-- THE TIED CARD OF 'laws.FnSplitJoin'. -/
def fnSplitJoinCard : Claim7 := { stood := { row := fnSplitJoinRow, standIns := [], harness := (true, "a64092c0d91823f8f6b142458e85c942dff3abef76a811f77243bd2608d0bb5f"), looks := true }, kinds := [], alts := [], laidByText := true, laidKinds := [.data, .pinned], laidTests := true, laidLooks := .later }
def FnSplitJoinCardSaid : Prop := Claim7.holds Tryd.pinned (.plain (OpenSpec.ofChange fnSplitJoinSpec)) fnSplitJoinCard

/-- THE TIED CARD OF 'laws.FnStrings'. -/
def fnStringsCard : Claim7 := { stood := { row := fnStringsRow, standIns := [], harness := (true, "a64092c0d91823f8f6b142458e85c942dff3abef76a811f77243bd2608d0bb5f"), looks := true }, kinds := [], alts := [], laidByText := true, laidKinds := [.data, .data, .data, .sentinel, .sentinel], laidTests := true, laidLooks := .later }
def FnStringsCardSaid : Prop := Claim7.holds Tryd.pinned (.plain (OpenSpec.ofChange fnStringsSpec)) fnStringsCard

/-- THE TIED CARD OF 'laws.FnExactParseTerrain'. -/
def fnExactParseTerrainCard : Claim7 := { stood := { row := fnExactParseTerrainRow, standIns := [], harness := (true, "a64092c0d91823f8f6b142458e85c942dff3abef76a811f77243bd2608d0bb5f"), looks := true }, kinds := [], alts := [], laidByText := true, laidKinds := [.data, .pinned], laidTests := true, laidLooks := .later }
def FnExactParseTerrainCardSaid : Prop := Claim7.holds Tryd.pinned (.plain (OpenSpec.ofChange fnExactParseTerrainSpec)) fnExactParseTerrainCard

/-- THE TIED CARD OF 'laws.FnBreezes'. -/
def fnBreezesCard : Claim7 := { stood := { row := fnBreezesRow, standIns := [], harness := (true, "a64092c0d91823f8f6b142458e85c942dff3abef76a811f77243bd2608d0bb5f"), looks := true }, kinds := [], alts := [], laidByText := true, laidKinds := [.data, .data, .data, .data, .sentinel, .sentinel, .pinned], laidTests := true, laidLooks := .later }
def FnBreezesCardSaid : Prop := Claim7.holds Tryd.pinned (.plain (OpenSpec.ofChange fnBreezesSpec)) fnBreezesCard

/-- THE SECOND FORM's CARD OF 'laws.FnExactSplitString'. -/
def fnExactSplitStringUptoCard : Claim7 := { stood := { row := fnExactSplitStringUptoRow, standIns := [], harness := (true, "a64092c0d91823f8f6b142458e85c942dff3abef76a811f77243bd2608d0bb5f"), looks := true }, kinds := [], alts := [], laidByText := true, laidKinds := [.data, .pinned], laidTests := true, laidLooks := .later }
def FnExactSplitStringUptoCardSaid : Prop := Claim7.holds Tryd.pinned (.plain (OpenSpec.upto fnExactSplitStringSpec)) fnExactSplitStringUptoCard

/-- THE SECOND FORM's CARD OF 'laws.FnExactParseBreeze'. -/
def fnExactParseBreezeUptoCard : Claim7 := { stood := { row := fnExactParseBreezeUptoRow, standIns := [], harness := (true, "a64092c0d91823f8f6b142458e85c942dff3abef76a811f77243bd2608d0bb5f"), looks := true }, kinds := [], alts := [], laidByText := true, laidKinds := [.data, .data, .data, .data, .sentinel, .sentinel, .pinned], laidTests := true, laidLooks := .later }
def FnExactParseBreezeUptoCardSaid : Prop := Claim7.holds Tryd.pinned (.plain (OpenSpec.upto fnExactParseBreezeSpec)) fnExactParseBreezeUptoCard

/-- THE SECOND FORM's CARD OF 'laws.FnExactFuelText'. -/
def fnExactFuelTextUptoCard : Claim7 := { stood := { row := fnExactFuelTextUptoRow, standIns := [], harness := (true, "a64092c0d91823f8f6b142458e85c942dff3abef76a811f77243bd2608d0bb5f"), looks := true }, kinds := [], alts := [], laidByText := true, laidKinds := [.data, .data, .data], laidTests := true, laidLooks := .later }
def FnExactFuelTextUptoCardSaid : Prop := Claim7.holds Tryd.pinned (.plain (OpenSpec.upto fnExactFuelTextSpec)) fnExactFuelTextUptoCard

/-- THE SECOND FORM's CARD OF 'laws.FnExactParseFuel'. -/
def fnExactParseFuelUptoCard : Claim7 := { stood := { row := fnExactParseFuelUptoRow, standIns := [], harness := (true, "a64092c0d91823f8f6b142458e85c942dff3abef76a811f77243bd2608d0bb5f"), looks := true }, kinds := [], alts := [], laidByText := true, laidKinds := [.data, .data, .data, .data, .sentinel, .sentinel, .pinned], laidTests := true, laidLooks := .later }
def FnExactParseFuelUptoCardSaid : Prop := Claim7.holds Tryd.pinned (.plain (OpenSpec.upto fnExactParseFuelSpec)) fnExactParseFuelUptoCard

/-- THE SECOND FORM's CARD OF 'laws.FnSplitJoin'. -/
def fnSplitJoinUptoCard : Claim7 := { stood := { row := fnSplitJoinUptoRow, standIns := [], harness := (true, "a64092c0d91823f8f6b142458e85c942dff3abef76a811f77243bd2608d0bb5f"), looks := true }, kinds := [], alts := [], laidByText := true, laidKinds := [.data, .pinned], laidTests := true, laidLooks := .later }
def FnSplitJoinUptoCardSaid : Prop := Claim7.holds Tryd.pinned (.plain (OpenSpec.upto fnSplitJoinSpec)) fnSplitJoinUptoCard

/-- THE SECOND FORM's CARD OF 'laws.FnStrings'. -/
def fnStringsUptoCard : Claim7 := { stood := { row := fnStringsUptoRow, standIns := [], harness := (true, "a64092c0d91823f8f6b142458e85c942dff3abef76a811f77243bd2608d0bb5f"), looks := true }, kinds := [], alts := [], laidByText := true, laidKinds := [.data, .data, .data, .sentinel, .sentinel], laidTests := true, laidLooks := .later }
def FnStringsUptoCardSaid : Prop := Claim7.holds Tryd.pinned (.plain (OpenSpec.upto fnStringsSpec)) fnStringsUptoCard

/-- THE SECOND FORM's CARD OF 'laws.FnExactParseTerrain'. -/
def fnExactParseTerrainUptoCard : Claim7 := { stood := { row := fnExactParseTerrainUptoRow, standIns := [], harness := (true, "a64092c0d91823f8f6b142458e85c942dff3abef76a811f77243bd2608d0bb5f"), looks := true }, kinds := [], alts := [], laidByText := true, laidKinds := [.data, .pinned], laidTests := true, laidLooks := .later }
def FnExactParseTerrainUptoCardSaid : Prop := Claim7.holds Tryd.pinned (.plain (OpenSpec.upto fnExactParseTerrainSpec)) fnExactParseTerrainUptoCard

/-- THE SECOND FORM's CARD OF 'laws.FnBreezes'. -/
def fnBreezesUptoCard : Claim7 := { stood := { row := fnBreezesUptoRow, standIns := [], harness := (true, "a64092c0d91823f8f6b142458e85c942dff3abef76a811f77243bd2608d0bb5f"), looks := true }, kinds := [], alts := [], laidByText := true, laidKinds := [.data, .data, .data, .data, .sentinel, .sentinel, .pinned], laidTests := true, laidLooks := .later }
def FnBreezesUptoCardSaid : Prop := Claim7.holds Tryd.pinned (.plain (OpenSpec.upto fnBreezesSpec)) fnBreezesUptoCard
end Rows
end Go.Proofs.YtddnghfioghidaaDoor
