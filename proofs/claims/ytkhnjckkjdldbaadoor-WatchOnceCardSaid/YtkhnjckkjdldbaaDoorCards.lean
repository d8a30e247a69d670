/-
  DERIVED. GIVEN WITH THE SEED: THE CARDS: each row of YtkhnjckkjdldbaaDoorRows.lean that lists a variable, with what it lists TIED to the program's text (the seventh form; the later family's looks); each row that meets fmt, with fmt's text TOLD by the authors' own Lean function (tested against real Go, not proved from fmt's source: count such statements apart). THE CARD IS WHAT COUNTS. Prove the row's statement (the work); the ties are given (YtkhnjckkjdldbaaDoorTie.lean); close each card by the builder's one call (the guide's Derived/Test/ToyasCard.lean, 'card_holds'). Laid BY PROGRAM, IN A SANDBOX (cutbox-door.mjs). By AI agents, Wed Nov 11 2026. No macro, syntax, notation, axiom, sorry.
-/
import Derived.Test.YtkhnjckkjdldbaaDoorRows
import GoSem.ClaimSeven
namespace Go.Proofs.YtkhnjckkjdldbaaDoor
namespace Rows

/-- THE TIED CARD OF 'lagoonlaw18.WatchOnce'. -/
def watchOnceCard : Claim7 := { stood := { row := watchOnceRow, standIns := [], harness := (true, "2389ce021e4fabd1a29993a5739e5c9d4ef2d234dfcf3cdbdf0fb3979264fa19"), looks := true }, kinds := [], alts := [], laidByText := true, laidKinds := [.data, .pinned], laidTests := true, laidLooks := .later }
def WatchOnceCardSaid : Prop := Claim7.holds Tryd.pinned (.plain (OpenSpec.ofChange watchOnceSpec)) watchOnceCard

/-- THE TIED CARD OF 'lagoonlaw18.WatchParts'. -/
def watchPartsCard : Claim7 := { stood := { row := watchPartsRow, standIns := [], harness := (true, "2389ce021e4fabd1a29993a5739e5c9d4ef2d234dfcf3cdbdf0fb3979264fa19"), looks := true }, kinds := [], alts := [], laidByText := true, laidKinds := [.data, .pinned], laidTests := true, laidLooks := .later }
def WatchPartsCardSaid : Prop := Claim7.holds Tryd.pinned (.plain (OpenSpec.ofChange watchPartsSpec)) watchPartsCard

/-- THE TIED CARD OF 'lagoonlaw18.WatchNil'. -/
def watchNilCard : Claim7 := { stood := { row := watchNilRow, standIns := [], harness := (true, "2389ce021e4fabd1a29993a5739e5c9d4ef2d234dfcf3cdbdf0fb3979264fa19"), looks := true }, kinds := [], alts := [], laidByText := true, laidKinds := [.data, .pinned], laidTests := true, laidLooks := .later }
def WatchNilCardSaid : Prop := Claim7.holds Tryd.pinned (.plain (OpenSpec.ofChange watchNilSpec)) watchNilCard

/-- THE SECOND FORM's CARD OF 'lagoonlaw18.WatchOnce'. -/
def watchOnceUptoCard : Claim7 := { stood := { row := watchOnceUptoRow, standIns := [], harness := (true, "2389ce021e4fabd1a29993a5739e5c9d4ef2d234dfcf3cdbdf0fb3979264fa19"), looks := true }, kinds := [], alts := [], laidByText := true, laidKinds := [.data, .pinned], laidTests := true, laidLooks := .later }
def WatchOnceUptoCardSaid : Prop := Claim7.holds Tryd.pinned (.plain (OpenSpec.upto watchOnceSpec)) watchOnceUptoCard

/-- THE SECOND FORM's CARD OF 'lagoonlaw18.WatchParts'. -/
def watchPartsUptoCard : Claim7 := { stood := { row := watchPartsUptoRow, standIns := [], harness := (true, "2389ce021e4fabd1a29993a5739e5c9d4ef2d234dfcf3cdbdf0fb3979264fa19"), looks := true }, kinds := [], alts := [], laidByText := true, laidKinds := [.data, .pinned], laidTests := true, laidLooks := .later }
def WatchPartsUptoCardSaid : Prop := Claim7.holds Tryd.pinned (.plain (OpenSpec.upto watchPartsSpec)) watchPartsUptoCard

/-- THE SECOND FORM's CARD OF 'lagoonlaw18.WatchNil'. -/
def watchNilUptoCard : Claim7 := { stood := { row := watchNilUptoRow, standIns := [], harness := (true, "2389ce021e4fabd1a29993a5739e5c9d4ef2d234dfcf3cdbdf0fb3979264fa19"), looks := true }, kinds := [], alts := [], laidByText := true, laidKinds := [.data, .pinned], laidTests := true, laidLooks := .later }
def WatchNilUptoCardSaid : Prop := Claim7.holds Tryd.pinned (.plain (OpenSpec.upto watchNilSpec)) watchNilUptoCard
end Rows
end Go.Proofs.YtkhnjckkjdldbaaDoor
