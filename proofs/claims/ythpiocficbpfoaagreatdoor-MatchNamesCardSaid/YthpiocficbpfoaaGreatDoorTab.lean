/-
  The table of the program, for the interpreter.
-/
import Derived.Test.YthpiocficbpfoaaGreatDoorEng37
import Derived.Test.YthpiocficbpfoaaGreatDoorProg
import Derived.KernelRfl
namespace Go.Proofs.YthpiocficbpfoaaGreatDoor.matchNames
open Go Go.Eng
theorem ext0 : ExtOk Tryz.prog 314 countS := countS_ok Tryz.func314 (by kernel_rfl) (by kernel_rfl) (by kernel_rfl) (by kernel_rfl)
noncomputable def tab : Tab := Tab.mk' Tryz.prog [(314, countS), (314, countS)]
theorem tabOk : TabOk Tryz.prog tab := tabOk_two ext0 ext0
theorem mixes : Tryz.prog.follows .mixedOrders = true := by kernel_rfl
end Go.Proofs.YthpiocficbpfoaaGreatDoor.matchNames
