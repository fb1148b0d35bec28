/-
  Numbers of functions and types by name; the tables.
-/
import Derived.Test.YtapfgpnolcjbbaaDoorW8to12
import Derived.Test.YtapfgpnolcjbbaaDoorProg
import Derived.KernelRfl
set_option linter.unusedVariables false
set_option linter.unusedSimpArgs false
namespace Go.Eng.S
open Go Go.Eng Go.Proofs
noncomputable section
abbrev P : Program := Tryd.prog
abbrev F.spoorlaw10_ForestTrees : FuncId := 4
abbrev F.spoorlaw10_awake : FuncId := 7
abbrev F.forest_Build : FuncId := 8
abbrev F.spoorlaw10_nodes : FuncId := 10
abbrev F.p_forest_Forest_Span : FuncId := 11
abbrev F.p_forest_Forest_Children : FuncId := 14
abbrev F.p_forest_Forest_Roots : FuncId := 16
abbrev F.spoorlaw10_ordered : FuncId := 17
abbrev F.p_forest_Forest_Count : FuncId := 18
abbrev F.p_forest_Forest_Node : FuncId := 19
abbrev F.spoorlaw10_above : FuncId := 20
abbrev F.spoorlaw10_find : FuncId := 21
abbrev F.spoorlaw10_fits : FuncId := 22
abbrev F.p_forest_Forest_Above : FuncId := 26
abbrev F.p_forest_Forest_Down : FuncId := 27
abbrev F.forest_fits : FuncId := 28
abbrev F.span_Clone : FuncId := 29
abbrev F.slices_Sort_sl_api_SpanID_api_SpanID : FuncId := 30
abbrev F.p_forest_Forest_root : FuncId := 31
abbrev F.slices_SortFunc_sl_p_forest_place_p_forest_place : FuncId := 32
abbrev F.forest_order : FuncId := 33
abbrev F.p_forest_Forest_settle : FuncId := 34
abbrev F.forest_named : FuncId := 36
abbrev F.slices_Clip_sl_api_SpanID_api_SpanID : FuncId := 37
abbrev F.slices_Clone_sl_api_SpanID_api_SpanID : FuncId := 38
abbrev F.p_forest_Forest_Above_S1 : FuncId := 39
abbrev F.p_forest_Forest_Down_S1 : FuncId := 40
abbrev F.p_forest_Forest_Down_S1_S1 : FuncId := 41
abbrev F.span_Check : FuncId := 42
abbrev F.slices_Clip_sl_api_Attr_api_Attr : FuncId := 43
abbrev F.slices_Clone_sl_api_Attr_api_Attr : FuncId := 44
abbrev F.slices_Clip_sl_api_Event_api_Event : FuncId := 45
abbrev F.slices_Clone_sl_api_Event_api_Event : FuncId := 46
abbrev F.slices_pdqsortOrdered_api_SpanID : FuncId := 47
abbrev F.math_bits_Len : FuncId := 48
abbrev F.cmp_Or_int : FuncId := 50
abbrev F.cmp_Compare_int64 : FuncId := 51
abbrev F.cmp_Compare_api_SpanID : FuncId := 52
abbrev F.p_forest_Forest_settle_S1 : FuncId := 53
abbrev F.ival_Clip : FuncId := 54
abbrev F.span_plain : FuncId := 55
abbrev F.span_linked : FuncId := 56
abbrev F.span_carried : FuncId := 57
abbrev F.span_told : FuncId := 58
abbrev F.slices_insertionSortOrdered_api_SpanID : FuncId := 59
abbrev F.slices_heapSortOrdered_api_SpanID : FuncId := 60
abbrev F.slices_breakPatternsOrdered_api_SpanID : FuncId := 61
abbrev F.slices_choosePivotOrdered_api_SpanID : FuncId := 62
abbrev F.slices_reverseRangeOrdered_api_SpanID : FuncId := 63
abbrev F.slices_partialInsertionSortOrdered_api_SpanID : FuncId := 64
abbrev F.cmp_Less_api_SpanID : FuncId := 65
abbrev F.slices_partitionEqualOrdered_api_SpanID : FuncId := 66
abbrev F.slices_partitionOrdered_api_SpanID : FuncId := 67
abbrev F.math_bits_Len64 : FuncId := 69
abbrev F.cmp_isNaN_int64 : FuncId := 78
abbrev F.cmp_isNaN_api_SpanID : FuncId := 79
abbrev F.ival_empty : FuncId := 80
abbrev F.ival_into : FuncId := 81
abbrev F.unicode_utf8_ValidString : FuncId := 82
abbrev F.span_keyed : FuncId := 83
abbrev F.span_valued : FuncId := 84
abbrev F.span_events : FuncId := 85
abbrev F.slices_siftDownOrdered_api_SpanID : FuncId := 86
abbrev F.slices_nextPowerOfTwo : FuncId := 87
abbrev F.p_slices_xorshift_Next : FuncId := 88
abbrev F.slices_medianAdjacentOrdered_api_SpanID : FuncId := 89
abbrev F.slices_medianOrdered_api_SpanID : FuncId := 90
abbrev F.strings_Contains : FuncId := 95
abbrev F.strings_Compare : FuncId := 96
abbrev F.slices_order2Ordered_api_SpanID : FuncId := 97
abbrev T.int64 : TypeId := 2
abbrev T.ybool_4 : TypeId := 4
abbrev T.ystring_9 : TypeId := 9
abbrev T.sl_api_Span : TypeId := 22
abbrev T.sl_api_Node : TypeId := 30
abbrev T.api_TraceID : TypeId := 34
abbrev T.api_SpanID : TypeId := 35
abbrev T.sl_api_SpanID : TypeId := 36
abbrev T.api_Kind : TypeId := 37
abbrev T.api_Status : TypeId := 38
abbrev T.sl_api_Attr : TypeId := 39
abbrev T.sl_api_Event : TypeId := 40
abbrev T.api_Node : TypeId := 49
abbrev T.map_api_SpanID_p_forest_place : TypeId := 72
abbrev T.sl_p_forest_place : TypeId := 73
abbrev T.p_forest_place : TypeId := 76
abbrev T.forest_place : TypeId := 79
abbrev T.api_ValueKind : TypeId := 84
abbrev T.api_Value : TypeId := 86
abbrev T.api_Attr : TypeId := 88
abbrev T.api_Event : TypeId := 90
abbrev T.map_api_SpanID_int : TypeId := 102
abbrev T.y256_uint8_145 : TypeId := 145
abbrev T.y16_utf8_acceptRange_148 : TypeId := 148
def rt (g : FuncId) : List TypeId := match P.funcs[g]? with | some f => f.resultTypes.toList | none => []
def fnI (f : Func) : FnI := { nt := f.ntmps, body := (match f.body with | some c => c | none => .skip), results := f.results.toList }
def D : Tab := Tab.mk' P []
theorem hD : TabOk P D := tabOk_nil P
theorem hX : D.xst = [] := rfl
theorem mixes : P.follows .mixedOrders = true := by kernel_rfl
theorem ty.sl_api_Node : D.ty.get T.sl_api_Node = some { d := .slice 49, size := 1, bytes := 24, zero := (some .nilslice), held := false } := by kernel_rfl
theorem ty.api_SpanID : D.ty.get T.api_SpanID = some { d := .int .u64, size := 1, bytes := 8, zero := (some (.int .u64 0)), held := false } := by kernel_rfl
theorem ty.sl_api_SpanID : D.ty.get T.sl_api_SpanID = some { d := .slice 35, size := 1, bytes := 24, zero := (some .nilslice), held := false } := by kernel_rfl
theorem ty.sl_api_Attr : D.ty.get T.sl_api_Attr = some { d := .slice 88, size := 1, bytes := 24, zero := (some .nilslice), held := false } := by kernel_rfl
theorem ty.sl_api_Event : D.ty.get T.sl_api_Event = some { d := .slice 90, size := 1, bytes := 24, zero := (some .nilslice), held := false } := by kernel_rfl
theorem ty.api_Node : D.ty.get T.api_Node = some { d := .struct [(35, 0, true), (35, 1, true), (45, 2, true), (35, 3, true), (3, 4, true), (47, 5, true)], size := 7, bytes := 56, zero := (some (.agg ([(.int .u64 0)] ++ [(.int .u64 0)] ++ [(.int .i64 0)] ++ [(.int .u64 0)] ++ [(.int .i64 0)] ++ ([(.int .i64 0)] ++ [(.int .i64 0)])))), held := false } := by kernel_rfl
theorem ty.map_api_SpanID_p_forest_place : D.ty.get T.map_api_SpanID_p_forest_place = some { d := .map 35 76, size := 1, bytes := 8, zero := (some .nilmap), held := false } := by kernel_rfl
theorem ty.sl_p_forest_place : D.ty.get T.sl_p_forest_place = some { d := .slice 76, size := 1, bytes := 24, zero := (some .nilslice), held := false } := by kernel_rfl
theorem ty.p_forest_place : D.ty.get T.p_forest_place = some { d := .ptr 79, size := 1, bytes := 8, zero := (some .nilptr), held := false } := by kernel_rfl
theorem ty.api_Attr : D.ty.get T.api_Attr = some { d := .struct [(9, 0, true), (86, 1, true)], size := 4, bytes := 48, zero := (some (.agg ([(.str .empty)] ++ ([(.int .i64 0)] ++ [(.str .empty)] ++ [(.int .i64 0)])))), held := false } := by kernel_rfl
theorem ty.api_Event : D.ty.get T.api_Event = some { d := .struct [(2, 0, true), (9, 1, true)], size := 2, bytes := 24, zero := (some (.agg ([(.int .i64 0)] ++ [(.str .empty)]))), held := false } := by kernel_rfl
theorem ty.map_api_SpanID_int : D.ty.get T.map_api_SpanID_int = some { d := .map 35 3, size := 1, bytes := 8, zero := (some .nilmap), held := false } := by kernel_rfl
end
end Go.Eng.S

