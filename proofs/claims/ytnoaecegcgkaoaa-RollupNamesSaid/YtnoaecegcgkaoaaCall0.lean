/-
  One call that is met on the way, and what it comes to.
-/
import Derived.Test.YtnoaecegcgkaoaaTab
namespace Go.Proofs.Ytnoaecegcgkaoaa.rollupNames
open Go Go.Eng
noncomputable def known0 : Known := { g := 29, args := [(.ptr 15722 0)], dom := [(15722, .cells (rl [(1, (.int .u64 2)), (1919, (.int .u64 0))]) 1920 none)], nx := 15735, nc := 1, outs := [((.slice 15742 0 1 (.var 1 0)), [(15741, .cells (rl [(1, (.int .i64 0)), (1, (.int .u64 2))]) 2 none), (15742, .cells (rl [(1, (.int .i64 0)), (1, (.int .u64 2))]) 2 (some (1, 2)))], 27257, 2)] }
set_option maxRecDepth 1000000 in
theorem check0 : known0.check tab merge 1000000 = true := by kernel_rfl
theorem knownOk0 : KnownOk Try.prog known0 := known_ok tabOk mixes merge_ok check0
end Go.Proofs.Ytnoaecegcgkaoaa.rollupNames
