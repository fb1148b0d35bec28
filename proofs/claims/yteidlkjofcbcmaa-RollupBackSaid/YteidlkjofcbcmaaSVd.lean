/-
  What is to be shown of functions of the program, and that it suffices.
-/
import Derived.Test.YteidlkjofcbcmaaSDefs
namespace Go.Eng.S
open Go Go.Eng Go.Proofs
noncomputable section
/-! ### spoor/spoorref13.plus -/
/-! ### spoor/spoorref14.Add -/
/-! ### spoor/spoorref13.Merge -/
/-! ### spoor/spoorref14.Plus -/
end
end Go.Eng.S

