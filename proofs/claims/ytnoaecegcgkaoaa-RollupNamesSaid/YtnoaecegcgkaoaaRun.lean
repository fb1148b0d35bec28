/-
  The law, run by the interpreter, comes to true, whatever the orders, the capacities and the schedule.
-/
import Derived.Test.YtnoaecegcgkaoaaCall0
import Derived.Test.YtnoaecegcgkaoaaCall1
import Derived.Test.YtnoaecegcgkaoaaCall2
import Derived.Test.YtnoaecegcgkaoaaCall3
import Derived.Test.YtnoaecegcgkaoaaCall4
import Derived.Test.YtnoaecegcgkaoaaCall5
import Derived.Test.YtnoaecegcgkaoaaCall6
namespace Go.Proofs.Ytnoaecegcgkaoaa.rollupNames
open Go Go.Eng
noncomputable def knowns : List Known := [known0, known1, known2, known3, known4, known5, known6]
theorem knownsOk : ∀ k, k ∈ knowns → KnownOk Try.prog k := by
  intro k hk
  simp only [knowns, List.mem_cons, List.not_mem_nil, or_false] at hk
  rcases hk with rfl | rfl | rfl | rfl | rfl | rfl | rfl
  · exact knownOk0
  · exact knownOk1
  · exact knownOk2
  · exact knownOk3
  · exact knownOk4
  · exact knownOk5
  · exact knownOk6
set_option maxRecDepth 1000000 in
theorem comes : closedK tab knowns 1000000 3 = true := by kernel_rfl
theorem walk (w : World) : Calls Try.prog 3 #[] w fun e w' => e = .returned (.bool true) ∧ Kept w w' := closedK_ok tabOk mixes knownsOk comes w
end Go.Proofs.Ytnoaecegcgkaoaa.rollupNames
