/-
  The abstract interpreter: calls with arguments as a row hands them in, whatever they hold.
-/
import Derived.Test.YtnhlppginnojfaaDoorEng35to37
import Derived.WideShapes
import Derived.Carry
set_option linter.unusedVariables false
set_option linter.unusedSimpArgs false
namespace Go.Eng
open Go Go.WideShapes Go.ChangeShapes Go.RowKit
variable {P : Program} {w : World} {r : Reach} {base : Nat}
def noBool (P : Program) : List TypeId → Bool
 | [] => true
 | u :: r => (match P.underlying u with | some .bool => false | _ => true) && noBool P r
def intOf' (us : List Value) (i : Nat) : Int :=
 match us[i]? with
 | some (.int _ n) => n
 | _ => 0
noncomputable def envOf (us : List Value) : Env := { env0 with int := intOf' us }
section
variable {H : Type} {enc : TypeId × Value → H}
end
end Go.Eng

