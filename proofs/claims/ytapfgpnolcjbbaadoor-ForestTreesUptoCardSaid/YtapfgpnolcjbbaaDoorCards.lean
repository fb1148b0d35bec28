/-
  DERIVED. GIVEN WITH THE SEED: THE CARDS: each row of YtapfgpnolcjbbaaDoorRows.lean that lists a variable, with what it lists TIED to the program's text (the seventh form; the later family's looks); each row that meets fmt, with fmt's text TOLD by the authors' own Lean function (tested against real Go, not proved from fmt's source: count such statements apart). THE CARD IS WHAT COUNTS. Prove the row's statement (the work); the ties are given (YtapfgpnolcjbbaaDoorTie.lean); close each card by the builder's one call (the guide's Derived/Test/ToyasCard.lean, 'card_holds'). Laid BY PROGRAM, IN A SANDBOX (cutbox-door.mjs). By AI agents, Wed Nov 11 2026. No macro, syntax, notation, axiom, sorry.
-/
import Derived.Test.YtapfgpnolcjbbaaDoorRows
import GoSem.ClaimSeven
namespace Go.Proofs.YtapfgpnolcjbbaaDoor
namespace Rows

/-- THE TIED CARD OF 'spoorlaw10.ForestAlone'. -/
def forestAloneCard : Claim7 := { stood := { row := forestAloneRow, standIns := [], harness := (true, "f789c9524048156d9c7b3e58a251b636468116e802df76542a63f93d2a72a095"), looks := false }, kinds := [], alts := [], laidByText := true, laidKinds := [.data, .pinned], laidTests := true, laidLooks := .later }
def ForestAloneCardSaid : Prop := Claim7.holds Tryd.pinned (.plain (OpenSpec.ofChange forestAloneSpec)) forestAloneCard

/-- THE TIED CARD OF 'spoorlaw10.ForestTrees'. -/
def forestTreesCard : Claim7 := { stood := { row := forestTreesRow, standIns := [], harness := (true, "f789c9524048156d9c7b3e58a251b636468116e802df76542a63f93d2a72a095"), looks := false }, kinds := [], alts := [], laidByText := true, laidKinds := [.data, .pinned], laidTests := true, laidLooks := .later }
def ForestTreesCardSaid : Prop := Claim7.holds Tryd.pinned (.plain (OpenSpec.ofChange forestTreesSpec)) forestTreesCard

/-- THE TIED CARD OF 'spoorlaw10.ForestRings'. -/
def forestRingsCard : Claim7 := { stood := { row := forestRingsRow, standIns := [], harness := (true, "f789c9524048156d9c7b3e58a251b636468116e802df76542a63f93d2a72a095"), looks := false }, kinds := [], alts := [], laidByText := true, laidKinds := [.data, .pinned], laidTests := true, laidLooks := .later }
def ForestRingsCardSaid : Prop := Claim7.holds Tryd.pinned (.plain (OpenSpec.ofChange forestRingsSpec)) forestRingsCard

/-- THE TIED CARD OF 'spoorlaw10.ForestMore'. -/
def forestMoreCard : Claim7 := { stood := { row := forestMoreRow, standIns := [], harness := (true, "f789c9524048156d9c7b3e58a251b636468116e802df76542a63f93d2a72a095"), looks := false }, kinds := [], alts := [], laidByText := true, laidKinds := [.data, .pinned], laidTests := true, laidLooks := .later }
def ForestMoreCardSaid : Prop := Claim7.holds Tryd.pinned (.plain (OpenSpec.ofChange forestMoreSpec)) forestMoreCard

/-- THE SECOND FORM's CARD OF 'spoorlaw10.ForestAlone'. -/
def forestAloneUptoCard : Claim7 := { stood := { row := forestAloneUptoRow, standIns := [], harness := (true, "f789c9524048156d9c7b3e58a251b636468116e802df76542a63f93d2a72a095"), looks := false }, kinds := [], alts := [], laidByText := true, laidKinds := [.data, .pinned], laidTests := true, laidLooks := .later }
def ForestAloneUptoCardSaid : Prop := Claim7.holds Tryd.pinned (.plain (OpenSpec.upto forestAloneSpec)) forestAloneUptoCard

/-- THE SECOND FORM's CARD OF 'spoorlaw10.ForestTrees'. -/
def forestTreesUptoCard : Claim7 := { stood := { row := forestTreesUptoRow, standIns := [], harness := (true, "f789c9524048156d9c7b3e58a251b636468116e802df76542a63f93d2a72a095"), looks := false }, kinds := [], alts := [], laidByText := true, laidKinds := [.data, .pinned], laidTests := true, laidLooks := .later }
def ForestTreesUptoCardSaid : Prop := Claim7.holds Tryd.pinned (.plain (OpenSpec.upto forestTreesSpec)) forestTreesUptoCard

/-- THE SECOND FORM's CARD OF 'spoorlaw10.ForestRings'. -/
def forestRingsUptoCard : Claim7 := { stood := { row := forestRingsUptoRow, standIns := [], harness := (true, "f789c9524048156d9c7b3e58a251b636468116e802df76542a63f93d2a72a095"), looks := false }, kinds := [], alts := [], laidByText := true, laidKinds := [.data, .pinned], laidTests := true, laidLooks := .later }
def ForestRingsUptoCardSaid : Prop := Claim7.holds Tryd.pinned (.plain (OpenSpec.upto forestRingsSpec)) forestRingsUptoCard

/-- THE SECOND FORM's CARD OF 'spoorlaw10.ForestMore'. -/
def forestMoreUptoCard : Claim7 := { stood := { row := forestMoreUptoRow, standIns := [], harness := (true, "f789c9524048156d9c7b3e58a251b636468116e802df76542a63f93d2a72a095"), looks := false }, kinds := [], alts := [], laidByText := true, laidKinds := [.data, .pinned], laidTests := true, laidLooks := .later }
def ForestMoreUptoCardSaid : Prop := Claim7.holds Tryd.pinned (.plain (OpenSpec.upto forestMoreSpec)) forestMoreUptoCard
end Rows
end Go.Proofs.YtapfgpnolcjbbaaDoor
