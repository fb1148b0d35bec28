/-
  Numbers of functions and types by name; the tables.
-/
import Derived.Test.YthjagnpghdcbcaaGreatDoorW8to12
import Derived.Test.YthjagnpghdcbcaaGreatDoorProg
import Derived.KernelRfl
namespace Go.Eng.S
open Go Go.Eng Go.Proofs
noncomputable section
abbrev P : Program := Tryz.prog
abbrev F.spoorlaw14_CallsDelta : FuncId := 5
abbrev F.spoorlaw14_shown : FuncId := 7
abbrev F.spoorlaw14_lentCalls : FuncId := 22
abbrev F.calls_Delta : FuncId := 23
abbrev F.spoorref14_Delta : FuncId := 24
abbrev F.spoorlaw14_sameCalls : FuncId := 25
abbrev F.spoorlaw14_callsStay : FuncId := 26
abbrev F.spoorlaw14_ownCalls : FuncId := 27
abbrev F.slices_SortedFunc_api_Call : FuncId := 46
abbrev F.slices_Values_sl_api_Call_api_Call : FuncId := 47
abbrev F.calls_order : FuncId := 48
abbrev F.spoorref14_sorted : FuncId := 49
abbrev F.spoorref14_Less : FuncId := 50
abbrev F.slices_Collect_api_Call : FuncId := 68
abbrev F.slices_SortFunc_sl_api_Call_api_Call : FuncId := 69
abbrev F.slices_Values_sl_api_Call_api_Call__S1 : FuncId := 70
abbrev F.cmp_Or_int : FuncId := 71
abbrev F.cmp_Compare_int64 : FuncId := 72
abbrev F.cmp_Compare_string : FuncId := 73
abbrev F.cmp_Compare_uint64 : FuncId := 74
abbrev F.slices_AppendSeq_sl_api_Call_api_Call : FuncId := 88
abbrev F.cmp_isNaN_int64 : FuncId := 90
abbrev F.cmp_isNaN_string : FuncId := 91
abbrev F.cmp_isNaN_uint64 : FuncId := 92
abbrev T.int64 : TypeId := 2
abbrev T.ybool_4 : TypeId := 4
abbrev T.ystring_9 : TypeId := 9
abbrev T.api_Edge : TypeId := 23
abbrev T.uint64 : TypeId := 24
abbrev T.api_Call : TypeId := 26
abbrev T.sl_api_Call : TypeId := 48
abbrev T.sl_sl_api_Call : TypeId := 54
def rt (g : FuncId) : List TypeId := match P.funcs[g]? with | some f => f.resultTypes.toList | none => []
def fnI (f : Func) : FnI := { nt := f.ntmps, body := (match f.body with | some c => c | none => .skip), results := f.results.toList }
def D : Tab := Tab.mk' P [(65, add64), (66, sub64)]
theorem ext0 : ExtOk P 65 add64 := add64_ok Tryz.func65 (by kernel_rfl) (by kernel_rfl) (by kernel_rfl) (by kernel_rfl)
theorem ext1 : ExtOk P 66 sub64 := sub64_ok Tryz.func66 (by kernel_rfl) (by kernel_rfl) (by kernel_rfl) (by kernel_rfl)
theorem hD : TabOk P D := tabOk_two ext0 ext1
theorem hX : D.xst = [] := rfl
theorem mixes : P.follows .mixedOrders = true := by kernel_rfl
theorem ty.uint64 : D.ty.get T.uint64 = some { d := .int .u64, size := 1, bytes := 8, zero := (some (.int .u64 0)), held := false } := by kernel_rfl
theorem ty.api_Call : D.ty.get T.api_Call = some { d := .struct [(2, 0, true), (23, 1, true), (4, 3, true), (24, 4, true)], size := 5, bytes := 56, zero := (some (.agg ([(.int .i64 0)] ++ ([(.str .empty)] ++ [(.str .empty)]) ++ [(.bool false)] ++ [(.int .u64 0)]))), held := false } := by kernel_rfl
theorem ty.sl_api_Call : D.ty.get T.sl_api_Call = some { d := .slice 26, size := 1, bytes := 24, zero := (some .nilslice), held := false } := by kernel_rfl
end
end Go.Eng.S

