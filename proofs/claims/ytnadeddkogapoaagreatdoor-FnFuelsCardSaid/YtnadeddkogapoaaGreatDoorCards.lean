/-
  DERIVED. GIVEN WITH THE SEED: THE CARDS: each row of YtnadeddkogapoaaGreatDoorRows.lean that lists a variable, with what it lists TIED to the program's text (the seventh form; the later family's looks); each row that meets fmt, with fmt's text TOLD by the authors' own Lean function (tested against real Go, not proved from fmt's source: count such statements apart). THE CARD IS WHAT COUNTS. Prove the row's statement (the work); the ties are given (YtnadeddkogapoaaGreatDoorTie.lean); close each card by the builder's one call (the guide's Derived/Test/ToyasCard.lean, 'card_holds'). Laid BY PROGRAM, IN A SANDBOX (cutbox-door.mjs). By AI agents, Wed Nov 11 2026. No macro, syntax, notation, axiom, sorry.
-/
import Derived.Test.YtnadeddkogapoaaGreatDoorRows
import GoSem.ClaimSeven
namespace Go.Proofs.YtnadeddkogapoaaGreatDoor
namespace Rows

/-- THE TIED CARD OF 'laws.FnFuels'. -/
def fnFuelsCard : Claim7 := { stood := { row := fnFuelsRow, standIns := [], harness := (true, "eab5be46d383f3d115cd8e97df66debbbd524c80f23e648b36b51af8d58e6d16"), looks := true }, kinds := [], alts := [], laidByText := true, laidKinds := [.data, .data, .data, .data, .sentinel, .sentinel, .pinned], laidTests := true, laidLooks := .later }
def FnFuelsCardSaid : Prop := Claim7.holds Tryz.pinned (.plain (OpenSpec.ofChange fnFuelsSpec)) fnFuelsCard

/-- THE SECOND FORM's CARD OF 'laws.FnFuels'. -/
def fnFuelsUptoCard : Claim7 := { stood := { row := fnFuelsUptoRow, standIns := [], harness := (true, "eab5be46d383f3d115cd8e97df66debbbd524c80f23e648b36b51af8d58e6d16"), looks := true }, kinds := [], alts := [], laidByText := true, laidKinds := [.data, .data, .data, .data, .sentinel, .sentinel, .pinned], laidTests := true, laidLooks := .later }
def FnFuelsUptoCardSaid : Prop := Claim7.holds Tryz.pinned (.plain (OpenSpec.upto fnFuelsSpec)) fnFuelsUptoCard
end Rows
end Go.Proofs.YtnadeddkogapoaaGreatDoor
