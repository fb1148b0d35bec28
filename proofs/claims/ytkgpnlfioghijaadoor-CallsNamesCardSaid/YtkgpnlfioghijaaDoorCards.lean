/-
  DERIVED. GIVEN WITH THE SEED: THE CARDS: each row of YtkgpnlfioghijaaDoorRows.lean that lists a variable, with what it lists TIED to the program's text (the seventh form; the later family's looks); each row that meets fmt, with fmt's text TOLD by the authors' own Lean function (tested against real Go, not proved from fmt's source: count such statements apart). THE CARD IS WHAT COUNTS. Prove the row's statement (the work); the ties are given (YtkgpnlfioghijaaDoorTie.lean); close each card by the builder's one call (the guide's Derived/Test/ToyasCard.lean, 'card_holds'). Laid BY PROGRAM, IN A SANDBOX (cutbox-door.mjs). By AI agents, Wed Nov 11 2026. No macro, syntax, notation, axiom, sorry.
-/
import Derived.Test.YtkgpnlfioghijaaDoorRows
import GoSem.ClaimSeven
namespace Go.Proofs.YtkgpnlfioghijaaDoor
namespace Rows

/-- THE TIED CARD OF 'spoorlaw10.ForestNames'. -/
def forestNamesCard : Claim7 := { stood := { row := forestNamesRow, standIns := [], harness := (true, "150548ba11ee62bcb66f1eae4b87028091034694e27ebe7a38b069b9ee216d94"), looks := false }, kinds := [], alts := [], laidByText := true, laidKinds := [.data, .pinned], laidTests := true, laidLooks := .later }
def ForestNamesCardSaid : Prop := Claim7.holds Tryd.pinned (.plain (OpenSpec.ofChange forestNamesSpec)) forestNamesCard

/-- THE TIED CARD OF 'spoorlaw12.SweepNames'. -/
def sweepNamesCard : Claim7 := { stood := { row := sweepNamesRow, standIns := [], harness := (true, "150548ba11ee62bcb66f1eae4b87028091034694e27ebe7a38b069b9ee216d94"), looks := false }, kinds := [], alts := [], laidByText := true, laidKinds := [.data, .pinned], laidTests := true, laidLooks := .later }
def SweepNamesCardSaid : Prop := Claim7.holds Tryd.pinned (.plain (OpenSpec.ofChange sweepNamesSpec)) sweepNamesCard

/-- THE TIED CARD OF 'spoorlaw14.CallsNames'. -/
def callsNamesCard : Claim7 := { stood := { row := callsNamesRow, standIns := [], harness := (true, "150548ba11ee62bcb66f1eae4b87028091034694e27ebe7a38b069b9ee216d94"), looks := false }, kinds := [], alts := [], laidByText := true, laidKinds := [.data, .pinned], laidTests := true, laidLooks := .later }
def CallsNamesCardSaid : Prop := Claim7.holds Tryd.pinned (.plain (OpenSpec.ofChange callsNamesSpec)) callsNamesCard

/-- THE SECOND FORM's CARD OF 'spoorlaw10.ForestNames'. -/
def forestNamesUptoCard : Claim7 := { stood := { row := forestNamesUptoRow, standIns := [], harness := (true, "150548ba11ee62bcb66f1eae4b87028091034694e27ebe7a38b069b9ee216d94"), looks := false }, kinds := [], alts := [], laidByText := true, laidKinds := [.data, .pinned], laidTests := true, laidLooks := .later }
def ForestNamesUptoCardSaid : Prop := Claim7.holds Tryd.pinned (.plain (OpenSpec.upto forestNamesSpec)) forestNamesUptoCard

/-- THE SECOND FORM's CARD OF 'spoorlaw12.SweepNames'. -/
def sweepNamesUptoCard : Claim7 := { stood := { row := sweepNamesUptoRow, standIns := [], harness := (true, "150548ba11ee62bcb66f1eae4b87028091034694e27ebe7a38b069b9ee216d94"), looks := false }, kinds := [], alts := [], laidByText := true, laidKinds := [.data, .pinned], laidTests := true, laidLooks := .later }
def SweepNamesUptoCardSaid : Prop := Claim7.holds Tryd.pinned (.plain (OpenSpec.upto sweepNamesSpec)) sweepNamesUptoCard

/-- THE SECOND FORM's CARD OF 'spoorlaw14.CallsNames'. -/
def callsNamesUptoCard : Claim7 := { stood := { row := callsNamesUptoRow, standIns := [], harness := (true, "150548ba11ee62bcb66f1eae4b87028091034694e27ebe7a38b069b9ee216d94"), looks := false }, kinds := [], alts := [], laidByText := true, laidKinds := [.data, .pinned], laidTests := true, laidLooks := .later }
def CallsNamesUptoCardSaid : Prop := Claim7.holds Tryd.pinned (.plain (OpenSpec.upto callsNamesSpec)) callsNamesUptoCard
end Rows
end Go.Proofs.YtkgpnlfioghijaaDoor
