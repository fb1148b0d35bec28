/-
  Numbers of functions and types by name; the tables.
-/
import Derived.Test.YteidlkjofcbcmaaW9to12
import Derived.Test.YteidlkjofcbcmaaProg
import Derived.KernelRfl
namespace Go.Eng.S
open Go Go.Eng Go.Proofs
noncomputable section
abbrev P : Program := Try.prog
abbrev F.spoorlaw15_RollupTop : FuncId := 6
abbrev F.spoorlaw15_alive : FuncId := 9
abbrev F.spoorlaw15_filled : FuncId := 10
abbrev F.p_rollup_Rollup_Range : FuncId := 11
abbrev F.p_rollup_Rollup_Put : FuncId := 18
abbrev F.rollup_New : FuncId := 20
abbrev F.p_rollup_Rollup_Top : FuncId := 22
abbrev F.spoorref15_SameTally : FuncId := 23
abbrev F.spoorlaw15_falls : FuncId := 24
abbrev F.p_rollup_Rollup_sum : FuncId := 29
abbrev F.calls_Plus : FuncId := 33
abbrev F.p_rollup_Rollup_set : FuncId := 34
abbrev F.slices_SortStableFunc_sl_api_EdgeTally_api_EdgeTally : FuncId := 37
abbrev F.p_rollup_Rollup_Top_S1 : FuncId := 38
abbrev F.rollup_nat : FuncId := 39
abbrev F.rollup_number : FuncId := 40
abbrev F.slices_Clip_sl_api_EdgeTally_api_EdgeTally : FuncId := 41
abbrev F.spoorref15_EdgeLess : FuncId := 42
abbrev F.slices_SortFunc_sl_api_EdgeTally_api_EdgeTally : FuncId := 45
abbrev F.rollup_order : FuncId := 46
abbrev F.sketch_Merge : FuncId := 49
abbrev F.calls_plus : FuncId := 50
abbrev F.rollup_nothing : FuncId := 51
abbrev F.slices_stableCmpFunc_api_EdgeTally : FuncId := 55
abbrev F.cmp_Or_int : FuncId := 56
abbrev F.cmp_Compare_uint64 : FuncId := 57
abbrev F.cmp_Compare_string : FuncId := 61
abbrev F.sketch_laid : FuncId := 64
abbrev F.p_sketch_row_put : FuncId := 65
abbrev F.p_sketch_row_bars : FuncId := 66
abbrev F.slices_insertionSortCmpFunc_api_EdgeTally : FuncId := 69
abbrev F.slices_symMergeCmpFunc_api_EdgeTally : FuncId := 70
abbrev F.cmp_isNaN_uint64 : FuncId := 71
abbrev F.cmp_isNaN_string : FuncId := 90
abbrev F.slices_rotateCmpFunc_api_EdgeTally : FuncId := 93
abbrev F.slices_swapRangeCmpFunc_api_EdgeTally : FuncId := 103
abbrev T.int64 : TypeId := 2
abbrev T.ystring_9 : TypeId := 9
abbrev T.sl_spoorlaw15_Put : TypeId := 22
abbrev T.sl_api_EdgeTally : TypeId := 26
abbrev T.sl_api_Window : TypeId := 30
abbrev T.sl_sl_api_EdgeTally : TypeId := 33
abbrev T.api_Window : TypeId := 35
abbrev T.api_Edge : TypeId := 45
abbrev T.uint64 : TypeId := 46
abbrev T.api_Nat : TypeId := 48
abbrev T.sl_api_Bar : TypeId := 49
abbrev T.api_Tally : TypeId := 51
abbrev T.api_EdgeTally : TypeId := 62
abbrev T.api_Bar : TypeId := 80
abbrev T.map_int64_rollup_edges : TypeId := 81
abbrev T.rollup_edges : TypeId := 87
abbrev T.y3_api_Nat_113 : TypeId := 113
abbrev T.sketch_row : TypeId := 147
def rt (g : FuncId) : List TypeId := match P.funcs[g]? with | some f => f.resultTypes.toList | none => []
def fnI (f : Func) : FnI := { nt := f.ntmps, body := (match f.body with | some c => c | none => .skip), results := f.results.toList }
def D : Tab := Tab.mk' P [(67, add64), (68, sub64)]
theorem ext0 : ExtOk P 67 add64 := add64_ok Try.func67 (by kernel_rfl) (by kernel_rfl) (by kernel_rfl) (by kernel_rfl)
theorem ext1 : ExtOk P 68 sub64 := sub64_ok Try.func68 (by kernel_rfl) (by kernel_rfl) (by kernel_rfl) (by kernel_rfl)
theorem hD : TabOk P D := tabOk_two ext0 ext1
theorem hX : D.xst = [] := rfl
theorem mixes : P.follows .mixedOrders = true := by kernel_rfl
theorem ty.sl_api_EdgeTally : D.ty.get T.sl_api_EdgeTally = some { d := .slice 62, size := 1, bytes := 24, zero := (some .nilslice), held := false } := by kernel_rfl
theorem ty.sl_api_Window : D.ty.get T.sl_api_Window = some { d := .slice 35, size := 1, bytes := 24, zero := (some .nilslice), held := false } := by kernel_rfl
theorem ty.sl_sl_api_EdgeTally : D.ty.get T.sl_sl_api_EdgeTally = some { d := .slice 26, size := 1, bytes := 24, zero := (some .nilslice), held := false } := by kernel_rfl
theorem ty.api_Window : D.ty.get T.api_Window = some { d := .struct [(2, 0, true), (2, 1, true), (26, 2, true)], size := 3, bytes := 40, zero := (some (.agg ([(.int .i64 0)] ++ [(.int .i64 0)] ++ [.nilslice]))), held := false } := by kernel_rfl
theorem ty.uint64 : D.ty.get T.uint64 = some { d := .int .u64, size := 1, bytes := 8, zero := (some (.int .u64 0)), held := false } := by kernel_rfl
theorem ty.sl_api_Bar : D.ty.get T.sl_api_Bar = some { d := .slice 80, size := 1, bytes := 24, zero := (some .nilslice), held := false } := by kernel_rfl
theorem ty.api_Tally : D.ty.get T.api_Tally = some { d := .struct [(48, 0, true), (48, 2, true), (48, 4, true), (49, 6, true)], size := 7, bytes := 72, zero := (some (.agg (([(.int .u64 0)] ++ [(.int .u64 0)]) ++ ([(.int .u64 0)] ++ [(.int .u64 0)]) ++ ([(.int .u64 0)] ++ [(.int .u64 0)]) ++ [.nilslice]))), held := false } := by kernel_rfl
theorem ty.api_EdgeTally : D.ty.get T.api_EdgeTally = some { d := .struct [(45, 0, true), (51, 2, true)], size := 9, bytes := 104, zero := (some (.agg (([(.str .empty)] ++ [(.str .empty)]) ++ (([(.int .u64 0)] ++ [(.int .u64 0)]) ++ ([(.int .u64 0)] ++ [(.int .u64 0)]) ++ ([(.int .u64 0)] ++ [(.int .u64 0)]) ++ [.nilslice])))), held := false } := by kernel_rfl
theorem ty.api_Bar : D.ty.get T.api_Bar = some { d := .struct [(3, 0, true), (46, 1, true)], size := 2, bytes := 16, zero := (some (.agg ([(.int .i64 0)] ++ [(.int .u64 0)]))), held := false } := by kernel_rfl
theorem ty.map_int64_rollup_edges : D.ty.get T.map_int64_rollup_edges = some { d := .map 2 87, size := 1, bytes := 8, zero := (some .nilmap), held := false } := by kernel_rfl
theorem ty.rollup_edges : D.ty.get T.rollup_edges = some { d := .map 45 51, size := 1, bytes := 8, zero := (some .nilmap), held := false } := by kernel_rfl
end
end Go.Eng.S

