/-
  DERIVED. GIVEN WITH THE SEED: THE CARDS: each row of YtgjgafibipepeaaDoorRows.lean that lists a variable, with what it lists TIED to the program's text (the seventh form; the later family's looks); each row that meets fmt, with fmt's text TOLD by the authors' own Lean function (tested against real Go, not proved from fmt's source: count such statements apart). THE CARD IS WHAT COUNTS. Prove the row's statement (the work); the ties are given (YtgjgafibipepeaaDoorTie.lean); close each card by the builder's one call (the guide's Derived/Test/ToyasCard.lean, 'card_holds'). Laid BY PROGRAM, IN A SANDBOX (cutbox-door.mjs). By AI agents, Wed Nov 11 2026. No macro, syntax, notation, axiom, sorry.
-/
import Derived.Test.YtgjgafibipepeaaDoorRows
import GoSem.ClaimSeven
namespace Go.Proofs.YtgjgafibipepeaaDoor
namespace Rows

/-- THE TIED CARD OF 'lagoonlaw06.AclRanges'. -/
def aclRangesCard : Claim7 := { stood := { row := aclRangesRow, standIns := [], harness := (true, "cc6939cb20afade22a113865673aba2646daa83a438150c3af659d1b4f6915ca"), looks := true }, kinds := [], alts := [], laidByText := true, laidKinds := [.data, .data, .data, .data, .sentinel, .sentinel, .pinned], laidTests := true, laidLooks := .later }
def AclRangesCardSaid : Prop := Claim7.holds Tryd.pinned (.plain (OpenSpec.ofChange aclRangesSpec)) aclRangesCard

/-- THE TIED CARD OF 'lagoonlaw06.AclBits'. -/
def aclBitsCard : Claim7 := { stood := { row := aclBitsRow, standIns := [], harness := (true, "cc6939cb20afade22a113865673aba2646daa83a438150c3af659d1b4f6915ca"), looks := true }, kinds := [], alts := [], laidByText := true, laidKinds := [.data, .data, .data, .data, .sentinel, .sentinel, .pinned], laidTests := true, laidLooks := .later }
def AclBitsCardSaid : Prop := Claim7.holds Tryd.pinned (.plain (OpenSpec.ofChange aclBitsSpec)) aclBitsCard

/-- THE TIED CARD OF 'lagoonlaw06.AclMeets'. -/
def aclMeetsCard : Claim7 := { stood := { row := aclMeetsRow, standIns := [], harness := (true, "cc6939cb20afade22a113865673aba2646daa83a438150c3af659d1b4f6915ca"), looks := true }, kinds := [], alts := [], laidByText := true, laidKinds := [.data, .data, .data, .data, .sentinel, .sentinel, .pinned], laidTests := true, laidLooks := .later }
def AclMeetsCardSaid : Prop := Claim7.holds Tryd.pinned (.plain (OpenSpec.ofChange aclMeetsSpec)) aclMeetsCard

/-- THE SECOND FORM's CARD OF 'lagoonlaw06.AclRanges'. -/
def aclRangesUptoCard : Claim7 := { stood := { row := aclRangesUptoRow, standIns := [], harness := (true, "cc6939cb20afade22a113865673aba2646daa83a438150c3af659d1b4f6915ca"), looks := true }, kinds := [], alts := [], laidByText := true, laidKinds := [.data, .data, .data, .data, .sentinel, .sentinel, .pinned], laidTests := true, laidLooks := .later }
def AclRangesUptoCardSaid : Prop := Claim7.holds Tryd.pinned (.plain (OpenSpec.upto aclRangesSpec)) aclRangesUptoCard

/-- THE SECOND FORM's CARD OF 'lagoonlaw06.AclBits'. -/
def aclBitsUptoCard : Claim7 := { stood := { row := aclBitsUptoRow, standIns := [], harness := (true, "cc6939cb20afade22a113865673aba2646daa83a438150c3af659d1b4f6915ca"), looks := true }, kinds := [], alts := [], laidByText := true, laidKinds := [.data, .data, .data, .data, .sentinel, .sentinel, .pinned], laidTests := true, laidLooks := .later }
def AclBitsUptoCardSaid : Prop := Claim7.holds Tryd.pinned (.plain (OpenSpec.upto aclBitsSpec)) aclBitsUptoCard

/-- THE SECOND FORM's CARD OF 'lagoonlaw06.AclMeets'. -/
def aclMeetsUptoCard : Claim7 := { stood := { row := aclMeetsUptoRow, standIns := [], harness := (true, "cc6939cb20afade22a113865673aba2646daa83a438150c3af659d1b4f6915ca"), looks := true }, kinds := [], alts := [], laidByText := true, laidKinds := [.data, .data, .data, .data, .sentinel, .sentinel, .pinned], laidTests := true, laidLooks := .later }
def AclMeetsUptoCardSaid : Prop := Claim7.holds Tryd.pinned (.plain (OpenSpec.upto aclMeetsSpec)) aclMeetsUptoCard
end Rows
end Go.Proofs.YtgjgafibipepeaaDoor
