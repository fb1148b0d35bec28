/-
  DERIVED. GIVEN WITH THE SEED: THE CARDS: each row of YtkgpnlfioghijaaGreatDoorRows.lean that lists a variable, with what it lists TIED to the program's text (the seventh form; the later family's looks); each row that meets fmt, with fmt's text TOLD by the authors' own Lean function (tested against real Go, not proved from fmt's source: count such statements apart). THE CARD IS WHAT COUNTS. Prove the row's statement (the work); the ties are given (YtkgpnlfioghijaaGreatDoorTie.lean); close each card by the builder's one call (the guide's Derived/Test/ToyasCard.lean, 'card_holds'). Laid BY PROGRAM, IN A SANDBOX (cutbox-door.mjs). By AI agents, Wed Nov 11 2026. No macro, syntax, notation, axiom, sorry.
-/
import Derived.Test.YtkgpnlfioghijaaGreatDoorRows
import GoSem.ClaimSeven
namespace Go.Proofs.YtkgpnlfioghijaaGreatDoor
namespace Rows

/-- THE TIED CARD OF 'spoorlaw11.OwnNames'. -/
def ownNamesCard : Claim7 := { stood := { row := ownNamesRow, standIns := [], harness := (true, "2d6ea967c6bee38e03df2f53c0ae895281f97863095f65cdb8c3aefef02df901"), looks := false }, kinds := [], alts := [], laidByText := true, laidKinds := [.data, .pinned], laidTests := true, laidLooks := .later }
def OwnNamesCardSaid : Prop := Claim7.holds Tryz.pinned (.plain (OpenSpec.ofChange ownNamesSpec)) ownNamesCard

/-- THE SECOND FORM's CARD OF 'spoorlaw11.OwnNames'. -/
def ownNamesUptoCard : Claim7 := { stood := { row := ownNamesUptoRow, standIns := [], harness := (true, "2d6ea967c6bee38e03df2f53c0ae895281f97863095f65cdb8c3aefef02df901"), looks := false }, kinds := [], alts := [], laidByText := true, laidKinds := [.data, .pinned], laidTests := true, laidLooks := .later }
def OwnNamesUptoCardSaid : Prop := Claim7.holds Tryz.pinned (.plain (OpenSpec.upto ownNamesSpec)) ownNamesUptoCard
end Rows
end Go.Proofs.YtkgpnlfioghijaaGreatDoor
