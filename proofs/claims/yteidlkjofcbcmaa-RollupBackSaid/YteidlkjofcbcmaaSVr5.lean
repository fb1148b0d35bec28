/-
  What is to be shown of functions of the program, and that it suffices.
-/
import Derived.Test.YteidlkjofcbcmaaSDefs
namespace Go.Eng.S
open Go Go.Eng Go.Proofs
noncomputable section
/-! ### (*spoor/rollup.Rollup).wide -/
/-! ### (*spoor/rollup.Rollup).window -/
/-! ### (*spoor/rollup.Rollup).Cover -/
/-! ### spoor/spoorlaw15.RollupCover -/
end
end Go.Eng.S

