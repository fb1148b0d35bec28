/-
  One call that is met on the way, and what it comes to.
-/
import Derived.Test.YtnoaecegcgkaoaaTab
namespace Go.Proofs.Ytnoaecegcgkaoaa.rollupNames
open Go Go.Eng
noncomputable def known3 : Known := { g := 29, args := [(.ptr 38897 0)], dom := [(38897, .cells (rl [(1, (.int .u64 3)), (1919, (.int .u64 0))]) 1920 none)], nx := 38920, nc := 3, outs := [((.slice 38927 0 1 (.var 3 0)), [(38926, .cells (rl [(1, (.int .i64 0)), (1, (.int .u64 3))]) 2 none), (38927, .cells (rl [(1, (.int .i64 0)), (1, (.int .u64 3))]) 2 (some (3, 2)))], 50442, 4)] }
set_option maxRecDepth 1000000 in
theorem check3 : known3.check tab merge 1000000 = true := by kernel_rfl
theorem knownOk3 : KnownOk Try.prog known3 := known_ok tabOk mixes merge_ok check3
end Go.Proofs.Ytnoaecegcgkaoaa.rollupNames
