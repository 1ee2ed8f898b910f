/-
  DERIVED. GIVEN WITH THE SEED: THE CARDS: each row of YtabedcpibnnnhaaDoorRows.lean that lists a variable, with what it lists TIED to the program's text (the seventh form; the later family's looks); each row that meets fmt, with fmt's text TOLD by the authors' own Lean function (tested against real Go, not proved from fmt's source: count such statements apart). THE CARD IS WHAT COUNTS. Prove the row's statement (the work); the ties are given (YtabedcpibnnnhaaDoorTie.lean); close each card by the builder's one call (the guide's Derived/Test/ToyasCard.lean, 'card_holds'). Laid BY PROGRAM, IN A SANDBOX (cutbox-door.mjs). By AI agents, Wed Nov 11 2026. No macro, syntax, notation, axiom, sorry.
-/
import Derived.Test.YtabedcpibnnnhaaDoorRows
import GoSem.ClaimSeven
namespace Go.Proofs.YtabedcpibnnnhaaDoor
namespace Rows

/-- THE TIED CARD OF 'laws.FnStrings'. -/
def fnStringsCard : Claim7 := { stood := { row := fnStringsRow, standIns := [], harness := (true, "1bc418486c525293c149fd31809b774809e3d2f13b776d816489c80c7f0b6c47"), looks := true }, kinds := [], alts := [], laidByText := true, laidKinds := [.data, .data, .data, .sentinel, .sentinel], laidTests := true, laidLooks := .later }
def FnStringsCardSaid : Prop := Claim7.holds Tryd.pinned (.plain (OpenSpec.ofChange fnStringsSpec)) fnStringsCard

/-- THE TIED CARD OF 'laws.FnExactParseTerrain'. -/
def fnExactParseTerrainCard : Claim7 := { stood := { row := fnExactParseTerrainRow, standIns := [], harness := (true, "1bc418486c525293c149fd31809b774809e3d2f13b776d816489c80c7f0b6c47"), looks := true }, kinds := [], alts := [], laidByText := true, laidKinds := [.data, .pinned], laidTests := true, laidLooks := .later }
def FnExactParseTerrainCardSaid : Prop := Claim7.holds Tryd.pinned (.plain (OpenSpec.ofChange fnExactParseTerrainSpec)) fnExactParseTerrainCard

/-- THE TIED CARD OF 'laws.FnBreezes'. -/
def fnBreezesCard : Claim7 := { stood := { row := fnBreezesRow, standIns := [], harness := (true, "1bc418486c525293c149fd31809b774809e3d2f13b776d816489c80c7f0b6c47"), looks := true }, kinds := [], alts := [], laidByText := true, laidKinds := [.data, .data, .data, .data, .sentinel, .sentinel, .pinned], laidTests := true, laidLooks := .later }
def FnBreezesCardSaid : Prop := Claim7.holds Tryd.pinned (.plain (OpenSpec.ofChange fnBreezesSpec)) fnBreezesCard

/-- THE SECOND FORM's CARD OF 'laws.FnStrings'. -/
def fnStringsUptoCard : Claim7 := { stood := { row := fnStringsUptoRow, standIns := [], harness := (true, "1bc418486c525293c149fd31809b774809e3d2f13b776d816489c80c7f0b6c47"), looks := true }, kinds := [], alts := [], laidByText := true, laidKinds := [.data, .data, .data, .sentinel, .sentinel], laidTests := true, laidLooks := .later }
def FnStringsUptoCardSaid : Prop := Claim7.holds Tryd.pinned (.plain (OpenSpec.upto fnStringsSpec)) fnStringsUptoCard

/-- THE SECOND FORM's CARD OF 'laws.FnExactParseTerrain'. -/
def fnExactParseTerrainUptoCard : Claim7 := { stood := { row := fnExactParseTerrainUptoRow, standIns := [], harness := (true, "1bc418486c525293c149fd31809b774809e3d2f13b776d816489c80c7f0b6c47"), looks := true }, kinds := [], alts := [], laidByText := true, laidKinds := [.data, .pinned], laidTests := true, laidLooks := .later }
def FnExactParseTerrainUptoCardSaid : Prop := Claim7.holds Tryd.pinned (.plain (OpenSpec.upto fnExactParseTerrainSpec)) fnExactParseTerrainUptoCard

/-- THE SECOND FORM's CARD OF 'laws.FnBreezes'. -/
def fnBreezesUptoCard : Claim7 := { stood := { row := fnBreezesUptoRow, standIns := [], harness := (true, "1bc418486c525293c149fd31809b774809e3d2f13b776d816489c80c7f0b6c47"), looks := true }, kinds := [], alts := [], laidByText := true, laidKinds := [.data, .data, .data, .data, .sentinel, .sentinel, .pinned], laidTests := true, laidLooks := .later }
def FnBreezesUptoCardSaid : Prop := Claim7.holds Tryd.pinned (.plain (OpenSpec.upto fnBreezesSpec)) fnBreezesUptoCard
end Rows
end Go.Proofs.YtabedcpibnnnhaaDoor
