/-
  The rollup lives: the law's own try comes to true.
-/
import Derived.Test.YteidlkjofcbcmaaSK0
import Derived.Test.YteidlkjofcbcmaaSK1
import Derived.Test.YteidlkjofcbcmaaSK2
import Derived.Test.YteidlkjofcbcmaaSK3
import Derived.Test.YteidlkjofcbcmaaSK4
import Derived.Test.YteidlkjofcbcmaaSK5
import Derived.Test.YteidlkjofcbcmaaSK6
import Derived.Test.YteidlkjofcbcmaaSK7
import Derived.Test.YteidlkjofcbcmaaSK8
import Derived.Test.YteidlkjofcbcmaaSK9
namespace Go.Eng.S
open Go Go.Eng Go.Proofs
noncomputable section
def knowns : List Known := [known0, known1, known2, known3, known4, known5, known6, known7, known8, known9]
theorem knownsOk : ∀ k, k ∈ knowns → KnownOk P k := by
 intro k hk
 simp only [knowns, List.mem_cons, List.not_mem_nil, or_false] at hk
 rcases hk with rfl | rfl | rfl | rfl | rfl | rfl | rfl | rfl | rfl | rfl
 ·exact knownOk0
 ·exact knownOk1
 ·exact knownOk2
 ·exact knownOk3
 ·exact knownOk4
 ·exact knownOk5
 ·exact knownOk6
 ·exact knownOk7
 ·exact knownOk8
 ·exact knownOk9
set_option maxRecDepth 1000000 in
theorem alive_comes : closedK D knowns 1000000 F.spoorlaw15_alive = true := by kernel_rfl
theorem alive_walk (w : World) : Calls P F.spoorlaw15_alive #[] w fun e w' => e = .returned (.bool true) ∧ Kept w w' := closedK_ok hD mixes knownsOk alive_comes w
theorem alive_ok (s : St) : CallsA P F.spoorlaw15_alive [] s fun v s' => v = .bool true ∧ s' = s := CallsA.closed alive_walk s
end
end Go.Eng.S

