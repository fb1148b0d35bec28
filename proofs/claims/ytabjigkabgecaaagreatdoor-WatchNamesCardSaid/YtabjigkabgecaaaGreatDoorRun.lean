/-
  'spoor/spoorlaw22.WatchNames', run by the interpreter, comes to true, whatever the orders, the capacities and the schedule.
-/
import Derived.Test.YtabjigkabgecaaaGreatDoorEng38
import Derived.Test.YtabjigkabgecaaaGreatDoorProg
import Derived.KernelRfl
namespace Go.Proofs.YtabjigkabgecaaaGreatDoor.watchNames
open Go Go.Eng
theorem ext0 : ExtOk Tryz.prog 293 countS := countS_ok Tryz.func293 (by kernel_rfl) (by kernel_rfl) (by kernel_rfl) (by kernel_rfl)
noncomputable def tab : Tab := Tab.mkx Tryz.prog [(293, countS)] []
theorem mixes : Tryz.prog.follows .mixedOrders = true := by kernel_rfl
set_option maxRecDepth 1000000 in
theorem comes : closedF tab 1000000 5 = true := by kernel_rfl
theorem walk (w : World) : Calls Tryz.prog 5 #[] w fun e w' => e = .returned (.bool true) ∧ Kept w w' := closed_ok (tabOk_of (ExtsOk.cons ext0 (ExtsOk.nil)) (XstsOk.nil)) mixes ((closedF_eq tab 1000000 5).symm.trans comes) w
end Go.Proofs.YtabjigkabgecaaaGreatDoor.watchNames
