/-
  'spoor/spoorlaw12.SweepNames', run by the interpreter, comes to true, whatever the orders, the capacities and the schedule.
-/
import Derived.Test.YtkgpnlfioghijaaDoorEng36
import Derived.Test.YtkgpnlfioghijaaDoorProg
import Derived.KernelRfl
namespace Go.Proofs.YtkgpnlfioghijaaDoor.sweepNames
open Go Go.Eng
noncomputable def tab : Tab := Tab.mk' Tryd.prog []
theorem mixes : Tryd.prog.follows .mixedOrders = true := by kernel_rfl
set_option maxRecDepth 1000000 in
theorem comes : closedF tab 1000000 4 = true := by kernel_rfl
theorem walk (w : World) : Calls Tryd.prog 4 #[] w fun e w' => e = .returned (.bool true) ∧ Kept w w' := closed_ok (tabOk_nil Tryd.prog) mixes ((closedF_eq tab 1000000 4).symm.trans comes) w
end Go.Proofs.YtkgpnlfioghijaaDoor.sweepNames
