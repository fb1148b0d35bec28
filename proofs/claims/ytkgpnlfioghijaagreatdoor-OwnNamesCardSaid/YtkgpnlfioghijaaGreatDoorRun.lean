/-
  'spoor/spoorlaw11.OwnNames', run by the interpreter, comes to true, whatever the orders, the capacities and the schedule.
-/
import Derived.Test.YtkgpnlfioghijaaGreatDoorEng37
import Derived.Test.YtkgpnlfioghijaaGreatDoorProg
import Derived.KernelRfl
namespace Go.Proofs.YtkgpnlfioghijaaGreatDoor.ownNames
open Go Go.Eng
noncomputable def tab : Tab := Tab.mk' Tryz.prog []
theorem mixes : Tryz.prog.follows .mixedOrders = true := by kernel_rfl
set_option maxRecDepth 1000000 in
theorem comes : closedF tab 1000000 3 = true := by kernel_rfl
theorem walk (w : World) : Calls Tryz.prog 3 #[] w fun e w' => e = .returned (.bool true) ∧ Kept w w' := closed_ok (tabOk_nil Tryz.prog) mixes ((closedF_eq tab 1000000 3).symm.trans comes) w
end Go.Proofs.YtkgpnlfioghijaaGreatDoor.ownNames
