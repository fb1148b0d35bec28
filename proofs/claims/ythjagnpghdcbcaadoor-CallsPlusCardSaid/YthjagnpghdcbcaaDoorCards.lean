/-
  DERIVED. GIVEN WITH THE SEED: THE CARDS: each row of YthjagnpghdcbcaaDoorRows.lean that lists a variable, with what it lists TIED to the program's text (the seventh form; the later family's looks); each row that meets fmt, with fmt's text TOLD by the authors' own Lean function (tested against real Go, not proved from fmt's source: count such statements apart). THE CARD IS WHAT COUNTS. Prove the row's statement (the work); the ties are given (YthjagnpghdcbcaaDoorTie.lean); close each card by the builder's one call (the guide's Derived/Test/ToyasCard.lean, 'card_holds'). Laid BY PROGRAM, IN A SANDBOX (cutbox-door.mjs). By AI agents, Wed Nov 11 2026. No macro, syntax, notation, axiom, sorry.
-/
import Derived.Test.YthjagnpghdcbcaaDoorRows
import GoSem.ClaimSeven
namespace Go.Proofs.YthjagnpghdcbcaaDoor
namespace Rows

/-- THE TIED CARD OF 'spoorlaw14.CallsPlus'. -/
def callsPlusCard : Claim7 := { stood := { row := callsPlusRow, standIns := [], harness := (true, "0f7d84ca9eb3221b0884c53086b002070232a55d1fa092f46b1c349f80713720"), looks := false }, kinds := [], alts := [], laidByText := true, laidKinds := [.data, .pinned], laidTests := true, laidLooks := .later }
def CallsPlusCardSaid : Prop := Claim7.holds Tryd.pinned (.plain (OpenSpec.ofChange callsPlusSpec)) callsPlusCard

/-- THE SECOND FORM's CARD OF 'spoorlaw14.CallsPlus'. -/
def callsPlusUptoCard : Claim7 := { stood := { row := callsPlusUptoRow, standIns := [], harness := (true, "0f7d84ca9eb3221b0884c53086b002070232a55d1fa092f46b1c349f80713720"), looks := false }, kinds := [], alts := [], laidByText := true, laidKinds := [.data, .pinned], laidTests := true, laidLooks := .later }
def CallsPlusUptoCardSaid : Prop := Claim7.holds Tryd.pinned (.plain (OpenSpec.upto callsPlusSpec)) callsPlusUptoCard
end Rows
end Go.Proofs.YthjagnpghdcbcaaDoor
