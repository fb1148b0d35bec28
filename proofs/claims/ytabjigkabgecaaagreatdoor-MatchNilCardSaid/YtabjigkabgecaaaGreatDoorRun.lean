/-
  The law, run by the interpreter, comes to true, whatever the orders, the capacities and the schedule.
-/
import Derived.Test.YtabjigkabgecaaaGreatDoorCall0
import Derived.Test.YtabjigkabgecaaaGreatDoorCall1
namespace Go.Proofs.YtabjigkabgecaaaGreatDoor.matchNil
open Go Go.Eng
noncomputable def knowns : List Known := [known0, known1]
theorem knownsOk : ∀ k, k ∈ knowns → KnownOk Tryz.prog k := by
  intro k hk
  simp only [knowns, List.mem_cons, List.not_mem_nil, or_false] at hk
  rcases hk with rfl | rfl
  · exact knownOk0
  · exact knownOk1
set_option maxRecDepth 1000000 in
theorem comes : openK tab knowns 1000000 4 [.agg (symsFrom 0 7), .sym 7] = true := by kernel_rfl
theorem walk (u0 : List Value) (n0 : u0.length = 7) (p0 : ∀ (j : Nat) c, u0[j]? = some c → plainV c = true) (x1 : Value) (p1 : plainV x1 = true) (w : World) : Calls Tryz.prog 4 #[.agg u0.toArray, x1] w fun e w' => e = .returned (.bool true) ∧ Kept w w' :=
  openK_ok tabOk mixes knownsOk comes (u0 ++ [x1]) [.agg u0.toArray, x1] (fun _ => 0) (.cons (agg_syms 0 7 n0 (fun j v hj => ⟨by rw [Nat.zero_add, List.getElem?_append_left (List.getElem?_eq_some_iff.1 hj).1]; exact hj, p0 j v hj⟩)) (.cons (.sym (by show (u0 ++ [x1])[7]? = some x1; rw [List.getElem?_append_right (by omega)]; simp [n0]) p1) (.nil))) w
end Go.Proofs.YtabjigkabgecaaaGreatDoor.matchNil
