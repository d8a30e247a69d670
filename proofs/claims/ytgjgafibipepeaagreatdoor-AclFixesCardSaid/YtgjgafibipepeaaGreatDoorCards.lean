/-
  DERIVED. GIVEN WITH THE SEED: THE CARDS: each row of YtgjgafibipepeaaGreatDoorRows.lean that lists a variable, with what it lists TIED to the program's text (the seventh form; the later family's looks); each row that meets fmt, with fmt's text TOLD by the authors' own Lean function (tested against real Go, not proved from fmt's source: count such statements apart). THE CARD IS WHAT COUNTS. Prove the row's statement (the work); the ties are given (YtgjgafibipepeaaGreatDoorTie.lean); close each card by the builder's one call (the guide's Derived/Test/ToyasCard.lean, 'card_holds'). Laid BY PROGRAM, IN A SANDBOX (cutbox-door.mjs). By AI agents, Wed Nov 11 2026. No macro, syntax, notation, axiom, sorry.
-/
import Derived.Test.YtgjgafibipepeaaGreatDoorRows
import GoSem.ClaimSeven
namespace Go.Proofs.YtgjgafibipepeaaGreatDoor
namespace Rows

/-- THE TIED CARD OF 'lagoonlaw06.AclChecks'. -/
def aclChecksCard : Claim7 := { stood := { row := aclChecksRow, standIns := [], harness := (true, "fefaba299b235ba7511d2fa624696219a956d4dc0163970d75f8506881906267"), looks := true }, kinds := [], alts := [], laidByText := true, laidKinds := [.data, .data, .data, .data, .sentinel, .sentinel, .pinned], laidTests := true, laidLooks := .later }
def AclChecksCardSaid : Prop := Claim7.holds Tryz.pinned (.plain (OpenSpec.ofChange aclChecksSpec)) aclChecksCard

/-- THE TIED CARD OF 'lagoonlaw06.AclFixes'. -/
def aclFixesCard : Claim7 := { stood := { row := aclFixesRow, standIns := [], harness := (true, "fefaba299b235ba7511d2fa624696219a956d4dc0163970d75f8506881906267"), looks := true }, kinds := [], alts := [], laidByText := true, laidKinds := [.data, .data, .data, .data, .sentinel, .sentinel, .pinned], laidTests := true, laidLooks := .later }
def AclFixesCardSaid : Prop := Claim7.holds Tryz.pinned (.plain (OpenSpec.ofChange aclFixesSpec)) aclFixesCard

/-- THE TIED CARD OF 'lagoonlaw06.AclAllows'. -/
def aclAllowsCard : Claim7 := { stood := { row := aclAllowsRow, standIns := [], harness := (true, "fefaba299b235ba7511d2fa624696219a956d4dc0163970d75f8506881906267"), looks := true }, kinds := [], alts := [], laidByText := true, laidKinds := [.data, .data, .data, .data, .sentinel, .sentinel, .pinned], laidTests := true, laidLooks := .later }
def AclAllowsCardSaid : Prop := Claim7.holds Tryz.pinned (.plain (OpenSpec.ofChange aclAllowsSpec)) aclAllowsCard

/-- THE SECOND FORM's CARD OF 'lagoonlaw06.AclChecks'. -/
def aclChecksUptoCard : Claim7 := { stood := { row := aclChecksUptoRow, standIns := [], harness := (true, "fefaba299b235ba7511d2fa624696219a956d4dc0163970d75f8506881906267"), looks := true }, kinds := [], alts := [], laidByText := true, laidKinds := [.data, .data, .data, .data, .sentinel, .sentinel, .pinned], laidTests := true, laidLooks := .later }
def AclChecksUptoCardSaid : Prop := Claim7.holds Tryz.pinned (.plain (OpenSpec.upto aclChecksSpec)) aclChecksUptoCard

/-- THE SECOND FORM's CARD OF 'lagoonlaw06.AclFixes'. -/
def aclFixesUptoCard : Claim7 := { stood := { row := aclFixesUptoRow, standIns := [], harness := (true, "fefaba299b235ba7511d2fa624696219a956d4dc0163970d75f8506881906267"), looks := true }, kinds := [], alts := [], laidByText := true, laidKinds := [.data, .data, .data, .data, .sentinel, .sentinel, .pinned], laidTests := true, laidLooks := .later }
def AclFixesUptoCardSaid : Prop := Claim7.holds Tryz.pinned (.plain (OpenSpec.upto aclFixesSpec)) aclFixesUptoCard

/-- THE SECOND FORM's CARD OF 'lagoonlaw06.AclAllows'. -/
def aclAllowsUptoCard : Claim7 := { stood := { row := aclAllowsUptoRow, standIns := [], harness := (true, "fefaba299b235ba7511d2fa624696219a956d4dc0163970d75f8506881906267"), looks := true }, kinds := [], alts := [], laidByText := true, laidKinds := [.data, .data, .data, .data, .sentinel, .sentinel, .pinned], laidTests := true, laidLooks := .later }
def AclAllowsUptoCardSaid : Prop := Claim7.holds Tryz.pinned (.plain (OpenSpec.upto aclAllowsSpec)) aclAllowsUptoCard
end Rows
end Go.Proofs.YtgjgafibipepeaaGreatDoor
