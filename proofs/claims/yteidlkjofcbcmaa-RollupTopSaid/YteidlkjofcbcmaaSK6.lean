/-
  One call that is met on the way, and what it comes to.
-/
import Derived.Test.YteidlkjofcbcmaaSDefs
namespace Go.Eng.S
open Go Go.Eng Go.Proofs
noncomputable def known6 : Known := { g := 66, args := [(.ptr 50501 0)], dom := [(50501, .cells (rl [(1, (.int .u64 1)), (1919, (.int .u64 0))]) 1920 none)], nx := 50514, nc := 6, outs := [((.slice 50521 0 1 (.var 6 0)), [(50501, .cells (rl [(1, (.int .u64 1)), (1919, (.int .u64 0))]) 1920 none), (50520, .cells (rl [(1, (.int .i64 0)), (1, (.int .u64 1))]) 2 none), (50521, .cells (rl [(1, (.int .i64 0)), (1, (.int .u64 1))]) 2 (some (6, 2)))], 62036, 7)] }
set_option maxRecDepth 1000000 in
theorem check6 : known6.check D merge 1000000 = true := by kernel_rfl
theorem knownOk6 : KnownOk P known6 := known_ok hD mixes merge_ok check6
end Go.Eng.S

