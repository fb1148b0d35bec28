/-
  The law, run by the interpreter, comes to true, whatever the orders, the capacities and the schedule.
-/
import Derived.Test.YthpiocficbpfoaaGreatDoorCall0
import Derived.Test.YthpiocficbpfoaaGreatDoorCall1
namespace Go.Proofs.YthpiocficbpfoaaGreatDoor.matchNames
open Go Go.Eng
noncomputable def knowns : List Known := [known0, known1]
theorem knownsOk : ∀ k, k ∈ knowns → KnownOk Tryz.prog k := by
  intro k hk
  simp only [knowns, List.mem_cons, List.not_mem_nil, or_false] at hk
  rcases hk with rfl | rfl
  · exact knownOk0
  · exact knownOk1
set_option maxRecDepth 1000000 in
theorem comes : closedK tab knowns 1000000 4 = true := by kernel_rfl
theorem walk (w : World) : Calls Tryz.prog 4 #[] w fun e w' => e = .returned (.bool true) ∧ Kept w w' := closedK_ok tabOk mixes knownsOk comes w
end Go.Proofs.YthpiocficbpfoaaGreatDoor.matchNames
