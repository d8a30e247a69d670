/-
  DERIVED. GIVEN WITH THE SEED: THE CARDS: each row of YtkhnjckkjdldbaaGreatDoorRows.lean that lists a variable, with what it lists TIED to the program's text (the seventh form; the later family's looks); each row that meets fmt, with fmt's text TOLD by the authors' own Lean function (tested against real Go, not proved from fmt's source: count such statements apart). THE CARD IS WHAT COUNTS. Prove the row's statement (the work); the ties are given (YtkhnjckkjdldbaaGreatDoorTie.lean); close each card by the builder's one call (the guide's Derived/Test/ToyasCard.lean, 'card_holds'). Laid BY PROGRAM, IN A SANDBOX (cutbox-door.mjs). By AI agents, Wed Nov 11 2026. No macro, syntax, notation, axiom, sorry.
-/
import Derived.Test.YtkhnjckkjdldbaaGreatDoorRows
import GoSem.ClaimSeven
namespace Go.Proofs.YtkhnjckkjdldbaaGreatDoor
namespace Rows

/-- THE TIED CARD OF 'lagoonlaw18.WatchCalls'. -/
def watchCallsCard : Claim7 := { stood := { row := watchCallsRow, standIns := [], harness := (true, "0b422dca9cf3424c6b97c4579d84c085dc8ab3099b55efb9a5393e15196d133f"), looks := true }, kinds := [], alts := [], laidByText := true, laidKinds := [.data, .data, .data, .data, .pinned], laidTests := true, laidLooks := .later }
def WatchCallsCardSaid : Prop := Claim7.holds Tryz.pinned (.plain (OpenSpec.ofChange watchCallsSpec)) watchCallsCard

/-- THE SECOND FORM's CARD OF 'lagoonlaw18.WatchCalls'. -/
def watchCallsUptoCard : Claim7 := { stood := { row := watchCallsUptoRow, standIns := [], harness := (true, "0b422dca9cf3424c6b97c4579d84c085dc8ab3099b55efb9a5393e15196d133f"), looks := true }, kinds := [], alts := [], laidByText := true, laidKinds := [.data, .data, .data, .data, .pinned], laidTests := true, laidLooks := .later }
def WatchCallsUptoCardSaid : Prop := Claim7.holds Tryz.pinned (.plain (OpenSpec.upto watchCallsSpec)) watchCallsUptoCard
end Rows
end Go.Proofs.YtkhnjckkjdldbaaGreatDoor
