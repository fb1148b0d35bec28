/-
  Numbers of functions and types by name; the tables.
-/
import Derived.Test.YtnhlppginnojfaaDoorW8to12
import Derived.Test.YtnhlppginnojfaaDoorProg
import Derived.KernelRfl
set_option linter.unusedVariables false
set_option linter.unusedSimpArgs false
namespace Go.Eng.S
open Go Go.Eng Go.Proofs
noncomputable section
abbrev P : Program := Tryd.prog
abbrev F.spoorlaw12_SweepTiles : FuncId := 3
abbrev F.spoorlaw12_alive : FuncId := 5
abbrev F.forest_Build : FuncId := 6
abbrev F.p_forest_Forest_Roots : FuncId := 7
abbrev F.p_forest_Forest_Node : FuncId := 8
abbrev F.sweep_Path : FuncId := 9
abbrev F.spoorlaw12_free : FuncId := 10
abbrev F.forest_fits : FuncId := 15
abbrev F.span_Clone : FuncId := 16
abbrev F.slices_Sort_sl_api_SpanID_api_SpanID : FuncId := 17
abbrev F.p_forest_Forest_root : FuncId := 18
abbrev F.slices_SortFunc_sl_p_forest_place_p_forest_place : FuncId := 19
abbrev F.forest_order : FuncId := 20
abbrev F.p_forest_Forest_settle : FuncId := 21
abbrev F.forest_named : FuncId := 22
abbrev F.sweep_rooted : FuncId := 23
abbrev F.p_sweep_path_back : FuncId := 24
abbrev F.slices_Reverse_sl_api_Leg_api_Leg : FuncId := 25
abbrev F.p_forest_Forest_Children : FuncId := 26
abbrev F.span_Check : FuncId := 28
abbrev F.slices_Clip_sl_api_SpanID_api_SpanID : FuncId := 29
abbrev F.slices_Clone_sl_api_SpanID_api_SpanID : FuncId := 30
abbrev F.slices_Clip_sl_api_Attr_api_Attr : FuncId := 31
abbrev F.slices_Clone_sl_api_Attr_api_Attr : FuncId := 32
abbrev F.slices_Clip_sl_api_Event_api_Event : FuncId := 33
abbrev F.slices_Clone_sl_api_Event_api_Event : FuncId := 34
abbrev F.slices_pdqsortOrdered_api_SpanID : FuncId := 35
abbrev F.math_bits_Len : FuncId := 36
abbrev F.cmp_Or_int : FuncId := 38
abbrev F.cmp_Compare_int64 : FuncId := 39
abbrev F.cmp_Compare_api_SpanID : FuncId := 40
abbrev F.p_forest_Forest_settle_S1 : FuncId := 41
abbrev F.ival_Clip : FuncId := 42
abbrev F.sweep_at : FuncId := 43
abbrev F.p_sweep_path_last : FuncId := 44
abbrev F.p_sweep_path_hung : FuncId := 45
abbrev F.span_plain : FuncId := 46
abbrev F.span_linked : FuncId := 47
abbrev F.span_carried : FuncId := 48
abbrev F.span_told : FuncId := 49
abbrev F.slices_insertionSortOrdered_api_SpanID : FuncId := 50
abbrev F.slices_heapSortOrdered_api_SpanID : FuncId := 51
abbrev F.slices_breakPatternsOrdered_api_SpanID : FuncId := 52
abbrev F.slices_choosePivotOrdered_api_SpanID : FuncId := 53
abbrev F.slices_reverseRangeOrdered_api_SpanID : FuncId := 54
abbrev F.slices_partialInsertionSortOrdered_api_SpanID : FuncId := 55
abbrev F.cmp_Less_api_SpanID : FuncId := 56
abbrev F.slices_partitionEqualOrdered_api_SpanID : FuncId := 57
abbrev F.slices_partitionOrdered_api_SpanID : FuncId := 58
abbrev F.math_bits_Len64 : FuncId := 60
abbrev F.cmp_isNaN_int64 : FuncId := 69
abbrev F.cmp_isNaN_api_SpanID : FuncId := 70
abbrev F.ival_empty : FuncId := 71
abbrev F.ival_into : FuncId := 72
abbrev F.sweep_place_ends : FuncId := 73
abbrev F.unicode_utf8_ValidString : FuncId := 74
abbrev F.span_keyed : FuncId := 75
abbrev F.span_valued : FuncId := 76
abbrev F.span_events : FuncId := 77
abbrev F.slices_siftDownOrdered_api_SpanID : FuncId := 78
abbrev F.slices_nextPowerOfTwo : FuncId := 79
abbrev F.p_slices_xorshift_Next : FuncId := 80
abbrev F.slices_medianAdjacentOrdered_api_SpanID : FuncId := 81
abbrev F.slices_medianOrdered_api_SpanID : FuncId := 82
abbrev F.ival_Length : FuncId := 86
abbrev F.strings_Contains : FuncId := 88
abbrev F.strings_Compare : FuncId := 89
abbrev F.slices_order2Ordered_api_SpanID : FuncId := 90
abbrev T.int64 : TypeId := 2
abbrev T.ystring_9 : TypeId := 9
abbrev T.sl_api_Span : TypeId := 22
abbrev T.sl_api_SpanID : TypeId := 28
abbrev T.api_SpanID : TypeId := 31
abbrev T.sl_api_Leg : TypeId := 39
abbrev T.api_Leg : TypeId := 43
abbrev T.map_api_SpanID_p_forest_place : TypeId := 53
abbrev T.sl_p_forest_place : TypeId := 54
abbrev T.api_TraceID : TypeId := 58
abbrev T.api_Kind : TypeId := 59
abbrev T.api_Status : TypeId := 60
abbrev T.sl_api_Attr : TypeId := 61
abbrev T.sl_api_Event : TypeId := 62
abbrev T.p_forest_place : TypeId := 65
abbrev T.forest_place : TypeId := 68
abbrev T.api_ValueKind : TypeId := 85
abbrev T.api_Value : TypeId := 87
abbrev T.api_Attr : TypeId := 89
abbrev T.api_Event : TypeId := 92
abbrev T.map_api_SpanID_int : TypeId := 96
abbrev T.y256_uint8_152 : TypeId := 152
abbrev T.y16_utf8_acceptRange_155 : TypeId := 155
def rt (g : FuncId) : List TypeId := match P.funcs[g]? with | some f => f.resultTypes.toList | none => []
def fnI (f : Func) : FnI := { nt := f.ntmps, body := (match f.body with | some c => c | none => .skip), results := f.results.toList }
def D : Tab := Tab.mk' P []
theorem hD : TabOk P D := tabOk_nil P
theorem hX : D.xst = [] := rfl
theorem mixes : P.follows .mixedOrders = true := by kernel_rfl
theorem ty.sl_api_SpanID : D.ty.get T.sl_api_SpanID = some { d := .slice 31, size := 1, bytes := 24, zero := (some .nilslice), held := false } := by kernel_rfl
theorem ty.api_SpanID : D.ty.get T.api_SpanID = some { d := .int .u64, size := 1, bytes := 8, zero := (some (.int .u64 0)), held := false } := by kernel_rfl
theorem ty.sl_api_Leg : D.ty.get T.sl_api_Leg = some { d := .slice 43, size := 1, bytes := 24, zero := (some .nilslice), held := false } := by kernel_rfl
theorem ty.api_Leg : D.ty.get T.api_Leg = some { d := .struct [(31, 0, true), (2, 1, true), (2, 2, true)], size := 3, bytes := 24, zero := (some (.agg ([(.int .u64 0)] ++ [(.int .i64 0)] ++ [(.int .i64 0)]))), held := false } := by kernel_rfl
theorem ty.map_api_SpanID_p_forest_place : D.ty.get T.map_api_SpanID_p_forest_place = some { d := .map 31 65, size := 1, bytes := 8, zero := (some .nilmap), held := false } := by kernel_rfl
theorem ty.sl_p_forest_place : D.ty.get T.sl_p_forest_place = some { d := .slice 65, size := 1, bytes := 24, zero := (some .nilslice), held := false } := by kernel_rfl
theorem ty.sl_api_Attr : D.ty.get T.sl_api_Attr = some { d := .slice 89, size := 1, bytes := 24, zero := (some .nilslice), held := false } := by kernel_rfl
theorem ty.sl_api_Event : D.ty.get T.sl_api_Event = some { d := .slice 92, size := 1, bytes := 24, zero := (some .nilslice), held := false } := by kernel_rfl
theorem ty.p_forest_place : D.ty.get T.p_forest_place = some { d := .ptr 68, size := 1, bytes := 8, zero := (some .nilptr), held := false } := by kernel_rfl
theorem ty.api_Attr : D.ty.get T.api_Attr = some { d := .struct [(9, 0, true), (87, 1, true)], size := 4, bytes := 48, zero := (some (.agg ([(.str .empty)] ++ ([(.int .i64 0)] ++ [(.str .empty)] ++ [(.int .i64 0)])))), held := false } := by kernel_rfl
theorem ty.api_Event : D.ty.get T.api_Event = some { d := .struct [(2, 0, true), (9, 1, true)], size := 2, bytes := 24, zero := (some (.agg ([(.int .i64 0)] ++ [(.str .empty)]))), held := false } := by kernel_rfl
theorem ty.map_api_SpanID_int : D.ty.get T.map_api_SpanID_int = some { d := .map 31 3, size := 1, bytes := 8, zero := (some .nilmap), held := false } := by kernel_rfl
end
end Go.Eng.S

