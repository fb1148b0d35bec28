/-
  'spoor/spoorlaw14.CallsNames', run by the interpreter, comes to true, whatever the orders, the capacities and the schedule.
-/
import Derived.Test.YtkgpnlfioghijaaDoorEng36
import Derived.Test.YtkgpnlfioghijaaDoorProg
import Derived.KernelRfl
namespace Go.Proofs.YtkgpnlfioghijaaDoor.callsNames
open Go Go.Eng
theorem ext0 : ExtOk Tryd.prog 66 add64 := add64_ok Tryd.func66 (by kernel_rfl) (by kernel_rfl) (by kernel_rfl) (by kernel_rfl)
theorem ext1 : ExtOk Tryd.prog 66 add64 := add64_ok Tryd.func66 (by kernel_rfl) (by kernel_rfl) (by kernel_rfl) (by kernel_rfl)
noncomputable def tab : Tab := Tab.mk' Tryd.prog [(66, add64), (66, add64)]
theorem mixes : Tryd.prog.follows .mixedOrders = true := by kernel_rfl
set_option maxRecDepth 1000000 in
theorem comes : closedF tab 1000000 5 = true := by kernel_rfl
theorem walk (w : World) : Calls Tryd.prog 5 #[] w fun e w' => e = .returned (.bool true) ∧ Kept w w' := closed_ok (tabOk_two ext0 ext1) mixes ((closedF_eq tab 1000000 5).symm.trans comes) w
end Go.Proofs.YtkgpnlfioghijaaDoor.callsNames
