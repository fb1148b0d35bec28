/-
  Numbers of functions and types by name; the tables.
-/
import Derived.Test.YthjagnpghdcbcaaGreatDoorW8to12
import Derived.Test.YthjagnpghdcbcaaGreatDoorProg
import Derived.KernelRfl
namespace Go.Eng.S
open Go Go.Eng Go.Proofs
noncomputable section
abbrev P : Program := Tryz.prog
abbrev F.spoorlaw14_CallsSums : FuncId := 3
abbrev F.spoorlaw14_shown : FuncId := 7
abbrev F.spoorlaw14_lentTally : FuncId := 8
abbrev F.calls_One : FuncId := 9
abbrev F.calls_Plus : FuncId := 10
abbrev F.calls_Minus : FuncId := 11
abbrev F.spoorref14_Plus : FuncId := 12
abbrev F.spoorref14_Minus : FuncId := 13
abbrev F.spoorref14_One : FuncId := 14
abbrev F.spoorlaw14_sameTally : FuncId := 15
abbrev F.calls_Cap : FuncId := 16
abbrev F.spoorref14_Cap : FuncId := 17
abbrev F.spoorlaw14_barsStay : FuncId := 18
abbrev F.spoorlaw14_ownBars : FuncId := 19
abbrev F.sketch_Index : FuncId := 32
abbrev F.sketch_Merge : FuncId := 33
abbrev F.calls_plus : FuncId := 34
abbrev F.sketch_Check : FuncId := 35
abbrev F.calls_minus : FuncId := 36
abbrev F.sketch_Less : FuncId := 37
abbrev F.spoorref13_Merge : FuncId := 38
abbrev F.spoorref14_Add : FuncId := 39
abbrev F.spoorref13_Check : FuncId := 40
abbrev F.spoorref13_Less : FuncId := 41
abbrev F.spoorref14_below : FuncId := 42
abbrev F.spoorref14_sub : FuncId := 43
abbrev F.spoorref13_Index : FuncId := 44
abbrev F.spoorlaw14_sameBars : FuncId := 45
abbrev F.math_bits_Len64 : FuncId := 61
abbrev F.sketch_laid : FuncId := 62
abbrev F.p_sketch_row_put : FuncId := 63
abbrev F.p_sketch_row_bars : FuncId := 64
abbrev F.spoorref13_plus : FuncId := 67
abbrev T.int64 : TypeId := 2
abbrev T.ybool_4 : TypeId := 4
abbrev T.ystring_9 : TypeId := 9
abbrev T.api_Edge : TypeId := 23
abbrev T.uint64 : TypeId := 24
abbrev T.api_Call : TypeId := 26
abbrev T.api_Nat : TypeId := 28
abbrev T.sl_api_Bar : TypeId := 29
abbrev T.api_Tally : TypeId := 31
abbrev T.api_Bar : TypeId := 43
abbrev T.sl_sl_api_Bar : TypeId := 45
abbrev T.sl_api_Call : TypeId := 48
abbrev T.sketch_row : TypeId := 145
def rt (g : FuncId) : List TypeId := match P.funcs[g]? with | some f => f.resultTypes.toList | none => []
def fnI (f : Func) : FnI := { nt := f.ntmps, body := (match f.body with | some c => c | none => .skip), results := f.results.toList }
def D : Tab := Tab.mk' P [(65, add64), (66, sub64)]
theorem ext0 : ExtOk P 65 add64 := add64_ok Tryz.func65 (by kernel_rfl) (by kernel_rfl) (by kernel_rfl) (by kernel_rfl)
theorem ext1 : ExtOk P 66 sub64 := sub64_ok Tryz.func66 (by kernel_rfl) (by kernel_rfl) (by kernel_rfl) (by kernel_rfl)
theorem hD : TabOk P D := tabOk_two ext0 ext1
theorem hX : D.xst = [] := rfl
theorem mixes : P.follows .mixedOrders = true := by kernel_rfl
theorem ty.uint64 : D.ty.get T.uint64 = some { d := .int .u64, size := 1, bytes := 8, zero := (some (.int .u64 0)), held := false } := by kernel_rfl
theorem ty.api_Call : D.ty.get T.api_Call = some { d := .struct [(2, 0, true), (23, 1, true), (4, 3, true), (24, 4, true)], size := 5, bytes := 56, zero := (some (.agg ([(.int .i64 0)] ++ ([(.str .empty)] ++ [(.str .empty)]) ++ [(.bool false)] ++ [(.int .u64 0)]))), held := false } := by kernel_rfl
theorem ty.sl_api_Bar : D.ty.get T.sl_api_Bar = some { d := .slice 43, size := 1, bytes := 24, zero := (some .nilslice), held := false } := by kernel_rfl
theorem ty.api_Bar : D.ty.get T.api_Bar = some { d := .struct [(3, 0, true), (24, 1, true)], size := 2, bytes := 16, zero := (some (.agg ([(.int .i64 0)] ++ [(.int .u64 0)]))), held := false } := by kernel_rfl
theorem ty.sl_api_Call : D.ty.get T.sl_api_Call = some { d := .slice 26, size := 1, bytes := 24, zero := (some .nilslice), held := false } := by kernel_rfl
end
end Go.Eng.S

