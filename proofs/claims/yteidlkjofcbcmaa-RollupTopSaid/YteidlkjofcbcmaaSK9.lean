/-
  One call that is met on the way, and what it comes to.
-/
import Derived.Test.YteidlkjofcbcmaaSDefs
namespace Go.Eng.S
open Go Go.Eng Go.Proofs
noncomputable def known9 : Known := { g := 66, args := [(.ptr 62091 0)], dom := [(62091, .cells (rl [(1, (.int .u64 2)), (1919, (.int .u64 0))]) 1920 none)], nx := 62104, nc := 9, outs := [((.slice 62111 0 1 (.var 9 0)), [(62091, .cells (rl [(1, (.int .u64 2)), (1919, (.int .u64 0))]) 1920 none), (62110, .cells (rl [(1, (.int .i64 0)), (1, (.int .u64 2))]) 2 none), (62111, .cells (rl [(1, (.int .i64 0)), (1, (.int .u64 2))]) 2 (some (9, 2)))], 73626, 10)] }
set_option maxRecDepth 1000000 in
theorem check9 : known9.check D merge 1000000 = true := by kernel_rfl
theorem knownOk9 : KnownOk P known9 := known_ok hD mixes merge_ok check9
end Go.Eng.S

