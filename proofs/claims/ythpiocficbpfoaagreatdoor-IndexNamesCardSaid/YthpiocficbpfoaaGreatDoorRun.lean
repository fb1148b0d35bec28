/-
  'spoor/spoorlaw18.IndexNames', run by the interpreter, comes to true, whatever the orders, the capacities and the schedule.
-/
import Derived.Test.YthpiocficbpfoaaGreatDoorEng37
import Derived.Test.YthpiocficbpfoaaGreatDoorProg
import Derived.KernelRfl
namespace Go.Proofs.YthpiocficbpfoaaGreatDoor.indexNames
open Go Go.Eng
theorem ext0 : ExtOk Tryz.prog 314 countS := countS_ok Tryz.func314 (by kernel_rfl) (by kernel_rfl) (by kernel_rfl) (by kernel_rfl)
theorem ext1 : ExtOk Tryz.prog 314 countS := countS_ok Tryz.func314 (by kernel_rfl) (by kernel_rfl) (by kernel_rfl) (by kernel_rfl)
noncomputable def tab : Tab := Tab.mk' Tryz.prog [(314, countS), (314, countS)]
theorem mixes : Tryz.prog.follows .mixedOrders = true := by kernel_rfl
set_option maxRecDepth 1000000 in
theorem comes : closedF tab 1000000 3 = true := by kernel_rfl
theorem walk (w : World) : Calls Tryz.prog 3 #[] w fun e w' => e = .returned (.bool true) ∧ Kept w w' := closed_ok (tabOk_two ext0 ext1) mixes ((closedF_eq tab 1000000 3).symm.trans comes) w
end Go.Proofs.YthpiocficbpfoaaGreatDoor.indexNames
