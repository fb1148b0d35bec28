/-
  One call that is met on the way, and what it comes to.
-/
import Derived.Test.YteidlkjofcbcmaaSDefs
namespace Go.Eng.S
open Go Go.Eng Go.Proofs
noncomputable def known5 : Known := { g := 66, args := [(.ptr 38897 0)], dom := [(38897, .cells (rl [(1, (.int .u64 3)), (1919, (.int .u64 0))]) 1920 none)], nx := 38920, nc := 3, outs := [((.slice 38927 0 1 (.var 3 0)), [(38897, .cells (rl [(1, (.int .u64 3)), (1919, (.int .u64 0))]) 1920 none), (38926, .cells (rl [(1, (.int .i64 0)), (1, (.int .u64 3))]) 2 none), (38927, .cells (rl [(1, (.int .i64 0)), (1, (.int .u64 3))]) 2 (some (3, 2)))], 50442, 4)] }
set_option maxRecDepth 1000000 in
theorem check5 : known5.check D merge 1000000 = true := by kernel_rfl
theorem knownOk5 : KnownOk P known5 := known_ok hD mixes merge_ok check5
end Go.Eng.S

