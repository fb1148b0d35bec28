/-
  'spoor/spoorlaw11.OwnNil', run by the interpreter, comes to true, whatever the orders, the capacities and the schedule.
-/
import Derived.Test.YtabjigkabgecaaaGreatDoorEng38
import Derived.Test.YtabjigkabgecaaaGreatDoorProg
import Derived.KernelRfl
namespace Go.Proofs.YtabjigkabgecaaaGreatDoor.ownNil
open Go Go.Eng
noncomputable def tab : Tab := Tab.mkx Tryz.prog [] []
theorem mixes : Tryz.prog.follows .mixedOrders = true := by kernel_rfl
set_option maxRecDepth 1000000 in
theorem comes : openK tab [] 1000000 3 [.agg (symsFrom 0 2)] = true := by kernel_rfl
theorem walk (u0 : List Value) (n0 : u0.length = 2) (p0 : ∀ (j : Nat) c, u0[j]? = some c → plainV c = true) (w : World) : Calls Tryz.prog 3 #[.agg u0.toArray] w fun e w' => e = .returned (.bool true) ∧ Kept w w' :=
  openK_ok (tabOk_of (ExtsOk.nil) (XstsOk.nil)) mixes (fun _ h => by cases h) comes (u0) [.agg u0.toArray] (fun _ => 0) (.cons (agg_syms 0 2 n0 (fun j v hj => ⟨by simpa using hj, p0 j v hj⟩)) (.nil)) w
end Go.Proofs.YtabjigkabgecaaaGreatDoor.ownNil
