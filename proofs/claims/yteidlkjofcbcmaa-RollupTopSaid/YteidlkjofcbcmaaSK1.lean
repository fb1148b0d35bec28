/-
  One call that is met on the way, and what it comes to.
-/
import Derived.Test.YteidlkjofcbcmaaSDefs
namespace Go.Eng.S
open Go Go.Eng Go.Proofs
noncomputable def known1 : Known := { g := 66, args := [(.ptr 15722 0)], dom := [(15722, .cells (rl [(1, (.int .u64 2)), (1919, (.int .u64 0))]) 1920 none)], nx := 15735, nc := 1, outs := [((.slice 15742 0 1 (.var 1 0)), [(15722, .cells (rl [(1, (.int .u64 2)), (1919, (.int .u64 0))]) 1920 none), (15741, .cells (rl [(1, (.int .i64 0)), (1, (.int .u64 2))]) 2 none), (15742, .cells (rl [(1, (.int .i64 0)), (1, (.int .u64 2))]) 2 (some (1, 2)))], 27257, 2)] }
set_option maxRecDepth 1000000 in
theorem check1 : known1.check D merge 1000000 = true := by kernel_rfl
theorem knownOk1 : KnownOk P known1 := known_ok hD mixes merge_ok check1
end Go.Eng.S

