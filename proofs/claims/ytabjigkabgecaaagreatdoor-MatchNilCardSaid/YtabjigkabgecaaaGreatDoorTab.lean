/-
  The table of the program, for the interpreter.
-/
import Derived.Test.YtabjigkabgecaaaGreatDoorEng38
import Derived.Test.YtabjigkabgecaaaGreatDoorProg
import Derived.KernelRfl
namespace Go.Proofs.YtabjigkabgecaaaGreatDoor.matchNil
open Go Go.Eng
theorem ext0 : ExtOk Tryz.prog 293 countS := countS_ok Tryz.func293 (by kernel_rfl) (by kernel_rfl) (by kernel_rfl) (by kernel_rfl)
noncomputable def tab : Tab := Tab.mkx Tryz.prog [(293, countS)] []
theorem tabOk : TabOk Tryz.prog tab := tabOk_of (ExtsOk.cons ext0 (ExtsOk.nil)) (XstsOk.nil)
theorem mixes : Tryz.prog.follows .mixedOrders = true := by kernel_rfl
end Go.Proofs.YtabjigkabgecaaaGreatDoor.matchNil
