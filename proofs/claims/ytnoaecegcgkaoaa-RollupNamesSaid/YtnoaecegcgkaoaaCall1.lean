/-
  One call that is met on the way, and what it comes to.
-/
import Derived.Test.YtnoaecegcgkaoaaTab
namespace Go.Proofs.Ytnoaecegcgkaoaa.rollupNames
open Go Go.Eng
noncomputable def known1 : Known := { g := 29, args := [(.ptr 27317 0)], dom := [(27317, .cells (rl [(1, (.int .u64 1)), (1919, (.int .u64 0))]) 1920 none)], nx := 27330, nc := 2, outs := [((.slice 27337 0 1 (.var 2 0)), [(27336, .cells (rl [(1, (.int .i64 0)), (1, (.int .u64 1))]) 2 none), (27337, .cells (rl [(1, (.int .i64 0)), (1, (.int .u64 1))]) 2 (some (2, 2)))], 38852, 3)] }
set_option maxRecDepth 1000000 in
theorem check1 : known1.check tab merge 1000000 = true := by kernel_rfl
theorem knownOk1 : KnownOk Try.prog known1 := known_ok tabOk mixes merge_ok check1
end Go.Proofs.Ytnoaecegcgkaoaa.rollupNames
