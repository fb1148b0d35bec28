/-
  The law's own show of itself comes to true.
-/
import Derived.Test.YthjagnpghdcbcaaGreatDoorSDefs
namespace Go.Eng.S
open Go Go.Eng Go.Proofs
noncomputable section
set_option maxRecDepth 1000000 in
theorem shown_comes : closedF D 1000000 F.spoorlaw14_shown = true := by kernel_rfl
theorem shown_walk (w : World) : Calls P F.spoorlaw14_shown #[] w fun e w' => e = .returned (.bool true) ∧ Kept w w' := closed_ok hD mixes ((closedF_eq D 1000000 F.spoorlaw14_shown).symm.trans shown_comes) w
theorem shown_ok (s : St) : CallsA P F.spoorlaw14_shown [] s fun v s' => v = .bool true ∧ s' = s := CallsA.closed shown_walk s
end
end Go.Eng.S

