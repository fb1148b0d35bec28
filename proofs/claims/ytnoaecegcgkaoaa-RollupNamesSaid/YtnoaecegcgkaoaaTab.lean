/-
  The table of the program, for the interpreter.
-/
import Derived.Test.YtnoaecegcgkaoaaEng37
import Derived.Test.YtnoaecegcgkaoaaProg
import Derived.KernelRfl
namespace Go.Proofs.Ytnoaecegcgkaoaa.rollupNames
open Go Go.Eng
theorem ext0 : ExtOk Try.prog 30 add64 := add64_ok Try.func30 (by kernel_rfl) (by kernel_rfl) (by kernel_rfl) (by kernel_rfl)
theorem ext1 : ExtOk Try.prog 35 sub64 := sub64_ok Try.func35 (by kernel_rfl) (by kernel_rfl) (by kernel_rfl) (by kernel_rfl)
noncomputable def tab : Tab := Tab.mk' Try.prog [(30, add64), (35, sub64)]
theorem tabOk : TabOk Try.prog tab := tabOk_two ext0 ext1
theorem mixes : Try.prog.follows .mixedOrders = true := by kernel_rfl
end Go.Proofs.Ytnoaecegcgkaoaa.rollupNames
