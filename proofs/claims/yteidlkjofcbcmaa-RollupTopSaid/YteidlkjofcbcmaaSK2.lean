/-
  One call that is met on the way, and what it comes to.
-/
import Derived.Test.YteidlkjofcbcmaaSDefs
namespace Go.Eng.S
open Go Go.Eng Go.Proofs
noncomputable def known2 : Known := { g := 66, args := [(.ptr 27317 0)], dom := [(27317, .cells (rl [(1, (.int .u64 1)), (1919, (.int .u64 0))]) 1920 none)], nx := 27330, nc := 2, outs := [((.slice 27337 0 1 (.var 2 0)), [(27317, .cells (rl [(1, (.int .u64 1)), (1919, (.int .u64 0))]) 1920 none), (27336, .cells (rl [(1, (.int .i64 0)), (1, (.int .u64 1))]) 2 none), (27337, .cells (rl [(1, (.int .i64 0)), (1, (.int .u64 1))]) 2 (some (2, 2)))], 38852, 3)] }
set_option maxRecDepth 1000000 in
theorem check2 : known2.check D merge 1000000 = true := by kernel_rfl
theorem knownOk2 : KnownOk P known2 := known_ok hD mixes merge_ok check2
end Go.Eng.S

