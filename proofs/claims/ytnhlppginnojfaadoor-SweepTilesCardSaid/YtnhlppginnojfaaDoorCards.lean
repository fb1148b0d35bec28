/-
  DERIVED. GIVEN WITH THE SEED: THE CARDS: each row of YtnhlppginnojfaaDoorRows.lean that lists a variable, with what it lists TIED to the program's text (the seventh form; the later family's looks); each row that meets fmt, with fmt's text TOLD by the authors' own Lean function (tested against real Go, not proved from fmt's source: count such statements apart). THE CARD IS WHAT COUNTS. Prove the row's statement (the work); the ties are given (YtnhlppginnojfaaDoorTie.lean); close each card by the builder's one call (the guide's Derived/Test/ToyasCard.lean, 'card_holds'). Laid BY PROGRAM, IN A SANDBOX (cutbox-door.mjs). By AI agents, Wed Nov 11 2026. No macro, syntax, notation, axiom, sorry.
-/
import Derived.Test.YtnhlppginnojfaaDoorRows
import GoSem.ClaimSeven
namespace Go.Proofs.YtnhlppginnojfaaDoor
namespace Rows

/-- THE TIED CARD OF 'spoorlaw12.SweepTiles'. -/
def sweepTilesCard : Claim7 := { stood := { row := sweepTilesRow, standIns := [], harness := (true, "faf9157c4045d0f847164f091f2a602994bd4a3e99cab81b69d7a27dbd9857a0"), looks := false }, kinds := [], alts := [], laidByText := true, laidKinds := [.data, .pinned], laidTests := true, laidLooks := .later }
def SweepTilesCardSaid : Prop := Claim7.holds Tryd.pinned (.plain (OpenSpec.ofChange sweepTilesSpec)) sweepTilesCard

/-- THE TIED CARD OF 'spoorlaw12.SweepLast'. -/
def sweepLastCard : Claim7 := { stood := { row := sweepLastRow, standIns := [], harness := (true, "faf9157c4045d0f847164f091f2a602994bd4a3e99cab81b69d7a27dbd9857a0"), looks := false }, kinds := [], alts := [], laidByText := true, laidKinds := [.data, .pinned], laidTests := true, laidLooks := .later }
def SweepLastCardSaid : Prop := Claim7.holds Tryd.pinned (.plain (OpenSpec.ofChange sweepLastSpec)) sweepLastCard

/-- THE SECOND FORM's CARD OF 'spoorlaw12.SweepTiles'. -/
def sweepTilesUptoCard : Claim7 := { stood := { row := sweepTilesUptoRow, standIns := [], harness := (true, "faf9157c4045d0f847164f091f2a602994bd4a3e99cab81b69d7a27dbd9857a0"), looks := false }, kinds := [], alts := [], laidByText := true, laidKinds := [.data, .pinned], laidTests := true, laidLooks := .later }
def SweepTilesUptoCardSaid : Prop := Claim7.holds Tryd.pinned (.plain (OpenSpec.upto sweepTilesSpec)) sweepTilesUptoCard

/-- THE SECOND FORM's CARD OF 'spoorlaw12.SweepLast'. -/
def sweepLastUptoCard : Claim7 := { stood := { row := sweepLastUptoRow, standIns := [], harness := (true, "faf9157c4045d0f847164f091f2a602994bd4a3e99cab81b69d7a27dbd9857a0"), looks := false }, kinds := [], alts := [], laidByText := true, laidKinds := [.data, .pinned], laidTests := true, laidLooks := .later }
def SweepLastUptoCardSaid : Prop := Claim7.holds Tryd.pinned (.plain (OpenSpec.upto sweepLastSpec)) sweepLastUptoCard
end Rows
end Go.Proofs.YtnhlppginnojfaaDoor
