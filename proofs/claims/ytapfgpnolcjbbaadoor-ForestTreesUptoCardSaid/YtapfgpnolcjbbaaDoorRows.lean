/-
  NARROWER THAN 'FOR EVERY INPUT', by the rows' own cells (each row's printed sentence says how): ForestAlone: laid · ForestTrees: laid · ForestRings: laid · ForestMore: laid.
  DERIVED. THE GIVEN ROWS OF THIS SEAT. 4 by the template 'for every input the law returns true; each argument reads behind the call as it read before'; 0 by the template 'total and deterministic' (their statements: YtapfgpnolcjbbaaDoorTotals.lean).
  GIVEN WITH THE SEED: the statements are not yours to turn. If you find one false, say at which input.
  Laid BY PROGRAM, IN A SANDBOX (cutbox-rows.mjs): the forced cells as the released guide's own fill.sh prints them over the translation 352a04f00cf3cf6a… (all of the seat's roots in one cut). By AI agents, Wed Nov 11 2026. No macro, syntax, notation, axiom, sorry.
-/
import Derived.Test.YtapfgpnolcjbbaaDoorChecked
import GoSem.PinnedTables
import GoSem.Claim
import GoSem.ClaimJoined
import GoSem.ClaimMapViews
import Derived.JoinedTies
import Derived.KernelRfl
namespace Go.Proofs.YtapfgpnolcjbbaaDoor
/- THE CELL 'sum', in the pinned program and in every row, IS THE sha256 OF THE DUMP (.gsa) THAT YtapfgpnolcjbbaaDoorProg.lean LOADS. Nothing in Lean hashes anything: it is a label: what it is worth is what the hold of that sum in a sandbox is worth. -/
noncomputable def Tryd.pinned : Pinned := { name := "ytapfgpnolcjbbaadoor", sum := "352a04f00cf3cf6aecf3c90b91c7ba73b884950bf16274c3ade5ee405751f227", checked := Tryd.checked }
namespace Rows
def none {H : Type} : Left H := { results := [], args := [] }

/- WHAT THE LISTED PACKAGE-LEVEL VARIABLES READ AS WHEN THE CALL BEGINS. Each datum BY PROGRAM (the guide's laid-datum.mjs) off the statement by which the dump's own 'gosem.cut.vars' lays the variable. In a bare row this is a premise. The card (YtapfgpnolcjbbaaDoorCards.lean) ties it to the program's text. -/
def laid_unicode_utf8_acceptRanges {H : Type} : DataW H := .agg [.agg [.lit (.int .u8 128), .lit (.int .u8 191)], .agg [.lit (.int .u8 160), .lit (.int .u8 191)], .agg [.lit (.int .u8 128), .lit (.int .u8 159)], .agg [.lit (.int .u8 144), .lit (.int .u8 191)], .agg [.lit (.int .u8 128), .lit (.int .u8 143)], .agg [.lit (.int .u8 0), .lit (.int .u8 0)], .agg [.lit (.int .u8 0), .lit (.int .u8 0)], .agg [.lit (.int .u8 0), .lit (.int .u8 0)], .agg [.lit (.int .u8 0), .lit (.int .u8 0)], .agg [.lit (.int .u8 0), .lit (.int .u8 0)], .agg [.lit (.int .u8 0), .lit (.int .u8 0)], .agg [.lit (.int .u8 0), .lit (.int .u8 0)], .agg [.lit (.int .u8 0), .lit (.int .u8 0)], .agg [.lit (.int .u8 0), .lit (.int .u8 0)], .agg [.lit (.int .u8 0), .lit (.int .u8 0)], .agg [.lit (.int .u8 0), .lit (.int .u8 0)]]
/-- One of Go's own tables, pinned by name: the form's constant. -/
def laid_unicode_utf8_first : DataW Unit := Go.Pinned.utf8First

/-- 'spoorlaw10.ForestAlone': WHATEVER THE INPUT: true; the input reads as it did. -/
def forestAloneSpec : ChangeSpec := { name := "forestAlone", fn := fun _ => fun
  | [d1, d2] => { results := [.lit (.bool true)], args := [d1, d2] }
  | _ => none }
def forestAloneRow : OpenClaim := { program := "ytapfgpnolcjbbaadoor", sum := "352a04f00cf3cf6aecf3c90b91c7ba73b884950bf16274c3ade5ee405751f227", func := "spoor/spoorlaw10.ForestAlone", spec := "forestAlone", inPlace := ["internal/bytealg.IndexByteString", "internal/bytealg.IndexString", "internal/bytealg.abigen_runtime_cmpstring"], unfollowed := true, recurses := true, named := ["unicode/utf8.first", "unicode/utf8.acceptRanges", "internal/bytealg.MaxLen"], apart := false, laid := [("unicode/utf8.acceptRanges", laid_unicode_utf8_acceptRanges), ("unicode/utf8.first", laid_unicode_utf8_first)] }
def ForestAloneSaid : Prop := forestAloneRow.holds Tryd.pinned (OpenSpec.ofChange forestAloneSpec)

/-- ITS FALSE NEIGHBOUR: 'it returns false'. Refute it at one input. -/
def forestAloneWrong : ChangeSpec := { name := "forestAlone", fn := fun _ => fun
  | [d1, d2] => { results := [.lit (.bool false)], args := [d1, d2] }
  | _ => none }
def ForestAloneWrongFalsely : Prop := forestAloneRow.holds Tryd.pinned (OpenSpec.ofChange forestAloneWrong)

/-- 'spoorlaw10.ForestTrees': WHATEVER THE INPUT: true; the input reads as it did. -/
def forestTreesSpec : ChangeSpec := { name := "forestTrees", fn := fun _ => fun
  | [d] => { results := [.lit (.bool true)], args := [d] }
  | _ => none }
def forestTreesRow : OpenClaim := { program := "ytapfgpnolcjbbaadoor", sum := "352a04f00cf3cf6aecf3c90b91c7ba73b884950bf16274c3ade5ee405751f227", func := "spoor/spoorlaw10.ForestTrees", spec := "forestTrees", inPlace := ["internal/bytealg.IndexByteString", "internal/bytealg.IndexString", "internal/bytealg.abigen_runtime_cmpstring"], unfollowed := true, recurses := true, named := ["unicode/utf8.first", "unicode/utf8.acceptRanges", "internal/bytealg.MaxLen"], apart := false, laid := [("unicode/utf8.acceptRanges", laid_unicode_utf8_acceptRanges), ("unicode/utf8.first", laid_unicode_utf8_first)] }
def ForestTreesSaid : Prop := forestTreesRow.holds Tryd.pinned (OpenSpec.ofChange forestTreesSpec)

/-- ITS FALSE NEIGHBOUR: 'it returns false'. Refute it at one input. -/
def forestTreesWrong : ChangeSpec := { name := "forestTrees", fn := fun _ => fun
  | [d] => { results := [.lit (.bool false)], args := [d] }
  | _ => none }
def ForestTreesWrongFalsely : Prop := forestTreesRow.holds Tryd.pinned (OpenSpec.ofChange forestTreesWrong)

/-- 'spoorlaw10.ForestRings': WHATEVER THE INPUT: true; the input reads as it did. -/
def forestRingsSpec : ChangeSpec := { name := "forestRings", fn := fun _ => fun
  | [d] => { results := [.lit (.bool true)], args := [d] }
  | _ => none }
def forestRingsRow : OpenClaim := { program := "ytapfgpnolcjbbaadoor", sum := "352a04f00cf3cf6aecf3c90b91c7ba73b884950bf16274c3ade5ee405751f227", func := "spoor/spoorlaw10.ForestRings", spec := "forestRings", inPlace := ["internal/bytealg.IndexByteString", "internal/bytealg.IndexString", "internal/bytealg.abigen_runtime_cmpstring"], unfollowed := true, recurses := true, named := ["unicode/utf8.first", "unicode/utf8.acceptRanges", "internal/bytealg.MaxLen"], apart := false, laid := [("unicode/utf8.acceptRanges", laid_unicode_utf8_acceptRanges), ("unicode/utf8.first", laid_unicode_utf8_first)] }
def ForestRingsSaid : Prop := forestRingsRow.holds Tryd.pinned (OpenSpec.ofChange forestRingsSpec)

/-- ITS FALSE NEIGHBOUR: 'it returns false'. Refute it at one input. -/
def forestRingsWrong : ChangeSpec := { name := "forestRings", fn := fun _ => fun
  | [d] => { results := [.lit (.bool false)], args := [d] }
  | _ => none }
def ForestRingsWrongFalsely : Prop := forestRingsRow.holds Tryd.pinned (OpenSpec.ofChange forestRingsWrong)

/-- 'spoorlaw10.ForestMore': WHATEVER THE INPUT: true; the input reads as it did. -/
def forestMoreSpec : ChangeSpec := { name := "forestMore", fn := fun _ => fun
  | [d] => { results := [.lit (.bool true)], args := [d] }
  | _ => none }
def forestMoreRow : OpenClaim := { program := "ytapfgpnolcjbbaadoor", sum := "352a04f00cf3cf6aecf3c90b91c7ba73b884950bf16274c3ade5ee405751f227", func := "spoor/spoorlaw10.ForestMore", spec := "forestMore", inPlace := ["internal/bytealg.IndexByteString", "internal/bytealg.IndexString", "internal/bytealg.abigen_runtime_cmpstring"], unfollowed := true, recurses := true, named := ["unicode/utf8.first", "unicode/utf8.acceptRanges", "internal/bytealg.MaxLen"], apart := false, laid := [("unicode/utf8.acceptRanges", laid_unicode_utf8_acceptRanges), ("unicode/utf8.first", laid_unicode_utf8_first)] }
def ForestMoreSaid : Prop := forestMoreRow.holds Tryd.pinned (OpenSpec.ofChange forestMoreSpec)

/-- ITS FALSE NEIGHBOUR: 'it returns false'. Refute it at one input. -/
def forestMoreWrong : ChangeSpec := { name := "forestMore", fn := fun _ => fun
  | [d] => { results := [.lit (.bool false)], args := [d] }
  | _ => none }
def ForestMoreWrongFalsely : Prop := forestMoreRow.holds Tryd.pinned (OpenSpec.ofChange forestMoreWrong)

/- THE SECOND FORM. 'bulk': how many values and letters a reading holds, each counted each time it is reached (what is shared counts as often as it is met; a slice's spare places count too). A statement '..UptoSaid' is the law's where the arguments, and the package variables that the reading takes, are together of bulk at most 1048576: NARROWER than '..Said'. Prove '..Said' where nothing that the law and all that it calls make is longer than what came in: it says more and counts as full. Else prove '..UptoSaid'. A law counts once. -/
mutual
def uptoBulk {H : Type} : DataW H → Nat
  | .lit (.string bytes) => bytes.length + 1
  | .lit _ => 1
  | .nil => 1
  | .ptr d => uptoBulk d + 1
  | .slice elems spare => uptoBulkAll elems + uptoBulkAll spare + 1
  | .agg parts => uptoBulkAll parts + 1
  | .iface _ d => uptoBulk d + 1
  | .map entries => uptoBulkEntries entries + 1
  | .held _ => 1
def uptoBulkAll {H : Type} : List (DataW H) → Nat
  | [] => 0
  | d :: r => uptoBulk d + uptoBulkAll r
def uptoBulkEntries {H : Type} : List (Lit × DataW H) → Nat
  | [] => 0
  | x :: r => uptoBulkEntry x + uptoBulkEntries r
def uptoBulkEntry {H : Type} : Lit × DataW H → Nat
  | (.string bytes, d) => bytes.length + uptoBulk d + 1
  | (_, d) => uptoBulk d + 1
 end
def uptoSmall : (H : Type) → List (DataW H) → Bool := fun _ ds => decide (uptoBulkAll ds ≤ 1048576)
def OpenSpec.upto (s : _root_.Go.ChangeSpec) : _root_.Go.OpenSpec := { _root_.Go.OpenSpec.ofChange s with cond := some uptoSmall }

/-- 'spoorlaw10.ForestAlone', WHERE WHAT IT READS IS OF BULK AT MOST 1048576: true; the input reads as it did. -/
def forestAloneUptoRow : OpenClaim := { program := "ytapfgpnolcjbbaadoor", sum := "352a04f00cf3cf6aecf3c90b91c7ba73b884950bf16274c3ade5ee405751f227", func := "spoor/spoorlaw10.ForestAlone", spec := "forestAlone", inPlace := ["internal/bytealg.IndexByteString", "internal/bytealg.IndexString", "internal/bytealg.abigen_runtime_cmpstring"], unfollowed := true, recurses := true, named := ["unicode/utf8.first", "unicode/utf8.acceptRanges", "internal/bytealg.MaxLen"], apart := false, laid := [("unicode/utf8.acceptRanges", laid_unicode_utf8_acceptRanges), ("unicode/utf8.first", laid_unicode_utf8_first)], narrowed := true }
def ForestAloneUptoSaid : Prop := forestAloneUptoRow.holds Tryd.pinned (OpenSpec.upto forestAloneSpec)

/-- 'spoorlaw10.ForestTrees', WHERE WHAT IT READS IS OF BULK AT MOST 1048576: true; the input reads as it did. -/
def forestTreesUptoRow : OpenClaim := { program := "ytapfgpnolcjbbaadoor", sum := "352a04f00cf3cf6aecf3c90b91c7ba73b884950bf16274c3ade5ee405751f227", func := "spoor/spoorlaw10.ForestTrees", spec := "forestTrees", inPlace := ["internal/bytealg.IndexByteString", "internal/bytealg.IndexString", "internal/bytealg.abigen_runtime_cmpstring"], unfollowed := true, recurses := true, named := ["unicode/utf8.first", "unicode/utf8.acceptRanges", "internal/bytealg.MaxLen"], apart := false, laid := [("unicode/utf8.acceptRanges", laid_unicode_utf8_acceptRanges), ("unicode/utf8.first", laid_unicode_utf8_first)], narrowed := true }
def ForestTreesUptoSaid : Prop := forestTreesUptoRow.holds Tryd.pinned (OpenSpec.upto forestTreesSpec)

/-- 'spoorlaw10.ForestRings', WHERE WHAT IT READS IS OF BULK AT MOST 1048576: true; the input reads as it did. -/
def forestRingsUptoRow : OpenClaim := { program := "ytapfgpnolcjbbaadoor", sum := "352a04f00cf3cf6aecf3c90b91c7ba73b884950bf16274c3ade5ee405751f227", func := "spoor/spoorlaw10.ForestRings", spec := "forestRings", inPlace := ["internal/bytealg.IndexByteString", "internal/bytealg.IndexString", "internal/bytealg.abigen_runtime_cmpstring"], unfollowed := true, recurses := true, named := ["unicode/utf8.first", "unicode/utf8.acceptRanges", "internal/bytealg.MaxLen"], apart := false, laid := [("unicode/utf8.acceptRanges", laid_unicode_utf8_acceptRanges), ("unicode/utf8.first", laid_unicode_utf8_first)], narrowed := true }
def ForestRingsUptoSaid : Prop := forestRingsUptoRow.holds Tryd.pinned (OpenSpec.upto forestRingsSpec)

/-- 'spoorlaw10.ForestMore', WHERE WHAT IT READS IS OF BULK AT MOST 1048576: true; the input reads as it did. -/
def forestMoreUptoRow : OpenClaim := { program := "ytapfgpnolcjbbaadoor", sum := "352a04f00cf3cf6aecf3c90b91c7ba73b884950bf16274c3ade5ee405751f227", func := "spoor/spoorlaw10.ForestMore", spec := "forestMore", inPlace := ["internal/bytealg.IndexByteString", "internal/bytealg.IndexString", "internal/bytealg.abigen_runtime_cmpstring"], unfollowed := true, recurses := true, named := ["unicode/utf8.first", "unicode/utf8.acceptRanges", "internal/bytealg.MaxLen"], apart := false, laid := [("unicode/utf8.acceptRanges", laid_unicode_utf8_acceptRanges), ("unicode/utf8.first", laid_unicode_utf8_first)], narrowed := true }
def ForestMoreUptoSaid : Prop := forestMoreUptoRow.holds Tryd.pinned (OpenSpec.upto forestMoreSpec)

end Rows
end Go.Proofs.YtapfgpnolcjbbaaDoor
