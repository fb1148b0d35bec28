/-
  One call that is met on the way, and what it comes to.
-/
import Derived.Test.YtnoaecegcgkaoaaTab
namespace Go.Proofs.Ytnoaecegcgkaoaa.rollupNames
open Go Go.Eng
noncomputable def known4 : Known := { g := 29, args := [(.ptr 4127 0)], dom := [(4127, .cells (rl [(1, (.int .u64 1)), (1919, (.int .u64 0))]) 1920 none)], nx := 4140, nc := 0, outs := [((.slice 4147 0 1 (.var 0 0)), [(4146, .cells (rl [(1, (.int .i64 0)), (1, (.int .u64 1))]) 2 none), (4147, .cells (rl [(1, (.int .i64 0)), (1, (.int .u64 1))]) 2 (some (0, 2)))], 15662, 1)] }
set_option maxRecDepth 1000000 in
theorem check4 : known4.check tab merge 1000000 = true := by kernel_rfl
theorem knownOk4 : KnownOk Try.prog known4 := known_ok tabOk mixes merge_ok check4
end Go.Proofs.Ytnoaecegcgkaoaa.rollupNames
