/-
  DERIVED. GIVEN WITH THE SEED: THE CARDS: each row of YtabjigkabgecaaaGreatDoorRows.lean that lists a variable, with what it lists TIED to the program's text (the seventh form; the later family's looks); each row that meets fmt, with fmt's text TOLD by the authors' own Lean function (tested against real Go, not proved from fmt's source: count such statements apart). THE CARD IS WHAT COUNTS. Prove the row's statement (the work); the ties are given (YtabjigkabgecaaaGreatDoorTie.lean); close each card by the builder's one call (the guide's Derived/Test/ToyasCard.lean, 'card_holds'). Laid BY PROGRAM, IN A SANDBOX (cutbox-door.mjs). By AI agents, Wed Nov 11 2026. No macro, syntax, notation, axiom, sorry.
-/
import Derived.Test.YtabjigkabgecaaaGreatDoorRows
import GoSem.ClaimSeven
namespace Go.Proofs.YtabjigkabgecaaaGreatDoor
namespace Rows

/-- THE TIED CARD OF 'spoorlaw11.OwnNil'. -/
def ownNilCard : Claim7 := { stood := { row := ownNilRow, standIns := [], harness := (true, "f45325b53f5d22a0cff03a41fb323296f582456d523bf39225d3e11f609e0eb6"), looks := false }, kinds := [], alts := [], laidByText := true, laidKinds := [.data, .pinned], laidTests := true, laidLooks := .later }
def OwnNilCardSaid : Prop := Claim7.holds Tryz.pinned (.plain (OpenSpec.ofChange ownNilSpec)) ownNilCard

/-- THE TIED CARD OF 'spoorlaw17.MatchNil'. -/
def matchNilCard : Claim7 := { stood := { row := matchNilRow, standIns := [], harness := (true, "f45325b53f5d22a0cff03a41fb323296f582456d523bf39225d3e11f609e0eb6"), looks := false }, kinds := [], alts := [], laidByText := true, laidKinds := [.data, .data, .data, .data, .pinned], laidTests := true, laidLooks := .later }
def MatchNilCardSaid : Prop := Claim7.holds Tryz.pinned (.plain (OpenSpec.ofChange matchNilSpec)) matchNilCard

/-- THE TIED CARD OF 'spoorlaw22.WatchNames'. -/
def watchNamesCard : Claim7 := { stood := { row := watchNamesRow, standIns := [], harness := (true, "f45325b53f5d22a0cff03a41fb323296f582456d523bf39225d3e11f609e0eb6"), looks := false }, kinds := [], alts := [], laidByText := true, laidKinds := [.data, .data, .data, .data, .pinned], laidTests := true, laidLooks := .later }
def WatchNamesCardSaid : Prop := Claim7.holds Tryz.pinned (.plain (OpenSpec.ofChange watchNamesSpec)) watchNamesCard

/-- THE SECOND FORM's CARD OF 'spoorlaw11.OwnNil'. -/
def ownNilUptoCard : Claim7 := { stood := { row := ownNilUptoRow, standIns := [], harness := (true, "f45325b53f5d22a0cff03a41fb323296f582456d523bf39225d3e11f609e0eb6"), looks := false }, kinds := [], alts := [], laidByText := true, laidKinds := [.data, .pinned], laidTests := true, laidLooks := .later }
def OwnNilUptoCardSaid : Prop := Claim7.holds Tryz.pinned (.plain (OpenSpec.upto ownNilSpec)) ownNilUptoCard

/-- THE SECOND FORM's CARD OF 'spoorlaw17.MatchNil'. -/
def matchNilUptoCard : Claim7 := { stood := { row := matchNilUptoRow, standIns := [], harness := (true, "f45325b53f5d22a0cff03a41fb323296f582456d523bf39225d3e11f609e0eb6"), looks := false }, kinds := [], alts := [], laidByText := true, laidKinds := [.data, .data, .data, .data, .pinned], laidTests := true, laidLooks := .later }
def MatchNilUptoCardSaid : Prop := Claim7.holds Tryz.pinned (.plain (OpenSpec.upto matchNilSpec)) matchNilUptoCard

/-- THE SECOND FORM's CARD OF 'spoorlaw22.WatchNames'. -/
def watchNamesUptoCard : Claim7 := { stood := { row := watchNamesUptoRow, standIns := [], harness := (true, "f45325b53f5d22a0cff03a41fb323296f582456d523bf39225d3e11f609e0eb6"), looks := false }, kinds := [], alts := [], laidByText := true, laidKinds := [.data, .data, .data, .data, .pinned], laidTests := true, laidLooks := .later }
def WatchNamesUptoCardSaid : Prop := Claim7.holds Tryz.pinned (.plain (OpenSpec.upto watchNamesSpec)) watchNamesUptoCard
end Rows
end Go.Proofs.YtabjigkabgecaaaGreatDoor
