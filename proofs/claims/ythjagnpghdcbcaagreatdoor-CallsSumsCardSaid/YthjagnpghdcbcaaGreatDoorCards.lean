/-
  DERIVED. GIVEN WITH THE SEED: THE CARDS: each row of YthjagnpghdcbcaaGreatDoorRows.lean that lists a variable, with what it lists TIED to the program's text (the seventh form; the later family's looks); each row that meets fmt, with fmt's text TOLD by the authors' own Lean function (tested against real Go, not proved from fmt's source: count such statements apart). THE CARD IS WHAT COUNTS. Prove the row's statement (the work); the ties are given (YthjagnpghdcbcaaGreatDoorTie.lean); close each card by the builder's one call (the guide's Derived/Test/ToyasCard.lean, 'card_holds'). Laid BY PROGRAM, IN A SANDBOX (cutbox-door.mjs). By AI agents, Wed Nov 11 2026. No macro, syntax, notation, axiom, sorry.
-/
import Derived.Test.YthjagnpghdcbcaaGreatDoorRows
import GoSem.ClaimSeven
namespace Go.Proofs.YthjagnpghdcbcaaGreatDoor
namespace Rows

/-- THE TIED CARD OF 'spoorlaw14.CallsSums'. -/
def callsSumsCard : Claim7 := { stood := { row := callsSumsRow, standIns := [], harness := (true, "291dd55fb236eed1ea4f82a6158d5963d841ea485164031cf3d37bb0c6700a4c"), looks := false }, kinds := [], alts := [], laidByText := true, laidKinds := [.data, .pinned], laidTests := true, laidLooks := .later }
def CallsSumsCardSaid : Prop := Claim7.holds Tryz.pinned (.plain (OpenSpec.ofChange callsSumsSpec)) callsSumsCard

/-- THE TIED CARD OF 'spoorlaw14.CallsBack'. -/
def callsBackCard : Claim7 := { stood := { row := callsBackRow, standIns := [], harness := (true, "291dd55fb236eed1ea4f82a6158d5963d841ea485164031cf3d37bb0c6700a4c"), looks := false }, kinds := [], alts := [], laidByText := true, laidKinds := [.data, .pinned], laidTests := true, laidLooks := .later }
def CallsBackCardSaid : Prop := Claim7.holds Tryz.pinned (.plain (OpenSpec.ofChange callsBackSpec)) callsBackCard

/-- THE TIED CARD OF 'spoorlaw14.CallsDelta'. -/
def callsDeltaCard : Claim7 := { stood := { row := callsDeltaRow, standIns := [], harness := (true, "291dd55fb236eed1ea4f82a6158d5963d841ea485164031cf3d37bb0c6700a4c"), looks := false }, kinds := [], alts := [], laidByText := true, laidKinds := [.data, .pinned], laidTests := true, laidLooks := .later }
def CallsDeltaCardSaid : Prop := Claim7.holds Tryz.pinned (.plain (OpenSpec.ofChange callsDeltaSpec)) callsDeltaCard

/-- THE TIED CARD OF 'spoorlaw14.CallsTurned'. -/
def callsTurnedCard : Claim7 := { stood := { row := callsTurnedRow, standIns := [], harness := (true, "291dd55fb236eed1ea4f82a6158d5963d841ea485164031cf3d37bb0c6700a4c"), looks := false }, kinds := [], alts := [], laidByText := true, laidKinds := [.data, .pinned], laidTests := true, laidLooks := .later }
def CallsTurnedCardSaid : Prop := Claim7.holds Tryz.pinned (.plain (OpenSpec.ofChange callsTurnedSpec)) callsTurnedCard

/-- THE SECOND FORM's CARD OF 'spoorlaw14.CallsSums'. -/
def callsSumsUptoCard : Claim7 := { stood := { row := callsSumsUptoRow, standIns := [], harness := (true, "291dd55fb236eed1ea4f82a6158d5963d841ea485164031cf3d37bb0c6700a4c"), looks := false }, kinds := [], alts := [], laidByText := true, laidKinds := [.data, .pinned], laidTests := true, laidLooks := .later }
def CallsSumsUptoCardSaid : Prop := Claim7.holds Tryz.pinned (.plain (OpenSpec.upto callsSumsSpec)) callsSumsUptoCard

/-- THE SECOND FORM's CARD OF 'spoorlaw14.CallsBack'. -/
def callsBackUptoCard : Claim7 := { stood := { row := callsBackUptoRow, standIns := [], harness := (true, "291dd55fb236eed1ea4f82a6158d5963d841ea485164031cf3d37bb0c6700a4c"), looks := false }, kinds := [], alts := [], laidByText := true, laidKinds := [.data, .pinned], laidTests := true, laidLooks := .later }
def CallsBackUptoCardSaid : Prop := Claim7.holds Tryz.pinned (.plain (OpenSpec.upto callsBackSpec)) callsBackUptoCard

/-- THE SECOND FORM's CARD OF 'spoorlaw14.CallsDelta'. -/
def callsDeltaUptoCard : Claim7 := { stood := { row := callsDeltaUptoRow, standIns := [], harness := (true, "291dd55fb236eed1ea4f82a6158d5963d841ea485164031cf3d37bb0c6700a4c"), looks := false }, kinds := [], alts := [], laidByText := true, laidKinds := [.data, .pinned], laidTests := true, laidLooks := .later }
def CallsDeltaUptoCardSaid : Prop := Claim7.holds Tryz.pinned (.plain (OpenSpec.upto callsDeltaSpec)) callsDeltaUptoCard

/-- THE SECOND FORM's CARD OF 'spoorlaw14.CallsTurned'. -/
def callsTurnedUptoCard : Claim7 := { stood := { row := callsTurnedUptoRow, standIns := [], harness := (true, "291dd55fb236eed1ea4f82a6158d5963d841ea485164031cf3d37bb0c6700a4c"), looks := false }, kinds := [], alts := [], laidByText := true, laidKinds := [.data, .pinned], laidTests := true, laidLooks := .later }
def CallsTurnedUptoCardSaid : Prop := Claim7.holds Tryz.pinned (.plain (OpenSpec.upto callsTurnedSpec)) callsTurnedUptoCard
end Rows
end Go.Proofs.YthjagnpghdcbcaaGreatDoor
