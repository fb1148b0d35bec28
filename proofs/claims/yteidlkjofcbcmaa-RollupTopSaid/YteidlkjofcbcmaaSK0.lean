/-
  One call that is met on the way, and what it comes to.
-/
import Derived.Test.YteidlkjofcbcmaaSDefs
namespace Go.Eng.S
open Go Go.Eng Go.Proofs
noncomputable def known0 : Known := { g := 66, args := [(.ptr 4127 0)], dom := [(4127, .cells (rl [(1, (.int .u64 1)), (1919, (.int .u64 0))]) 1920 none)], nx := 4140, nc := 0, outs := [((.slice 4147 0 1 (.var 0 0)), [(4127, .cells (rl [(1, (.int .u64 1)), (1919, (.int .u64 0))]) 1920 none), (4146, .cells (rl [(1, (.int .i64 0)), (1, (.int .u64 1))]) 2 none), (4147, .cells (rl [(1, (.int .i64 0)), (1, (.int .u64 1))]) 2 (some (0, 2)))], 15662, 1)] }
set_option maxRecDepth 1000000 in
theorem check0 : known0.check D merge 1000000 = true := by kernel_rfl
theorem knownOk0 : KnownOk P known0 := known_ok hD mixes merge_ok check0
end Go.Eng.S

