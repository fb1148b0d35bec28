/-
  Numbers of functions and types by name; the tables.
-/
import Derived.Test.YteidlkjofcbcmaaW9to12
import Derived.Test.YteidlkjofcbcmaaProg
import Derived.KernelRfl
namespace Go.Eng.S
open Go Go.Eng Go.Proofs
noncomputable section
abbrev P : Program := Try.prog
abbrev F.main_main : FuncId := 0
abbrev F.gosem_cut : FuncId := 1
abbrev F.gosem_cut_init : FuncId := 2
abbrev F.spoorlaw15_RollupCover : FuncId := 3
abbrev F.spoorlaw15_RollupBack : FuncId := 4
abbrev F.spoorlaw15_RollupCalls : FuncId := 5
abbrev F.spoorlaw15_RollupTop : FuncId := 6
abbrev F.spoorlaw15_RollupWide : FuncId := 7
abbrev F.spoorlaw15_RollupOrder : FuncId := 8
abbrev F.spoorlaw15_alive : FuncId := 9
abbrev F.spoorlaw15_filled : FuncId := 10
abbrev F.p_rollup_Rollup_Range : FuncId := 11
abbrev F.p_rollup_Rollup_Cover : FuncId := 12
abbrev F.spoorref15_SameEdges : FuncId := 13
abbrev F.spoorlaw15_edges : FuncId := 14
abbrev F.spoorref15_Sum : FuncId := 15
abbrev F.spoorlaw15_room : FuncId := 16
abbrev F.p_rollup_Rollup_Hours : FuncId := 17
abbrev F.p_rollup_Rollup_Put : FuncId := 18
abbrev F.p_rollup_Rollup_Take : FuncId := 19
abbrev F.rollup_New : FuncId := 20
abbrev F.spoorref14_One : FuncId := 21
abbrev F.p_rollup_Rollup_Top : FuncId := 22
abbrev F.spoorref15_SameTally : FuncId := 23
abbrev F.spoorlaw15_falls : FuncId := 24
abbrev F.p_rollup_Rollup_Windows : FuncId := 25
abbrev F.p_rollup_Rollup_Merge : FuncId := 26
abbrev F.spoorref15_SameWindows : FuncId := 27
abbrev F.spoorlaw15_small : FuncId := 28
abbrev F.p_rollup_Rollup_sum : FuncId := 29
abbrev F.p_rollup_Rollup_wide : FuncId := 30
abbrev F.p_rollup_Rollup_window : FuncId := 31
abbrev F.spoorref15_with : FuncId := 32
abbrev F.calls_Plus : FuncId := 33
abbrev F.p_rollup_Rollup_set : FuncId := 34
abbrev F.calls_Minus : FuncId := 35
abbrev F.spoorref13_Index : FuncId := 36
abbrev F.slices_SortStableFunc_sl_api_EdgeTally_api_EdgeTally : FuncId := 37
abbrev F.p_rollup_Rollup_Top_S1 : FuncId := 38
abbrev F.rollup_nat : FuncId := 39
abbrev F.rollup_number : FuncId := 40
abbrev F.slices_Clip_sl_api_EdgeTally_api_EdgeTally : FuncId := 41
abbrev F.spoorref15_EdgeLess : FuncId := 42
abbrev F.slices_Sort_sl_int64_int64 : FuncId := 43
abbrev F.slices_Compact_sl_int64_int64 : FuncId := 44
abbrev F.slices_SortFunc_sl_api_EdgeTally_api_EdgeTally : FuncId := 45
abbrev F.rollup_order : FuncId := 46
abbrev F.spoorref14_Plus : FuncId := 47
abbrev F.spoorref15_Copy : FuncId := 48
abbrev F.sketch_Merge : FuncId := 49
abbrev F.calls_plus : FuncId := 50
abbrev F.rollup_nothing : FuncId := 51
abbrev F.sketch_Check : FuncId := 52
abbrev F.calls_minus : FuncId := 53
abbrev F.sketch_Less : FuncId := 54
abbrev F.slices_stableCmpFunc_api_EdgeTally : FuncId := 55
abbrev F.cmp_Or_int : FuncId := 56
abbrev F.cmp_Compare_uint64 : FuncId := 57
abbrev F.slices_pdqsortOrdered_int64 : FuncId := 58
abbrev F.math_bits_Len : FuncId := 59
abbrev F.slices_pdqsortCmpFunc_api_EdgeTally : FuncId := 60
abbrev F.cmp_Compare_string : FuncId := 61
abbrev F.spoorref13_Merge : FuncId := 62
abbrev F.spoorref14_Add : FuncId := 63
abbrev F.sketch_laid : FuncId := 64
abbrev F.p_sketch_row_put : FuncId := 65
abbrev F.p_sketch_row_bars : FuncId := 66
abbrev F.math_bits_Add64 : FuncId := 67
abbrev F.math_bits_Sub64 : FuncId := 68
abbrev F.slices_insertionSortCmpFunc_api_EdgeTally : FuncId := 69
abbrev F.slices_symMergeCmpFunc_api_EdgeTally : FuncId := 70
abbrev F.cmp_isNaN_uint64 : FuncId := 71
abbrev F.slices_insertionSortOrdered_int64 : FuncId := 72
abbrev F.slices_heapSortOrdered_int64 : FuncId := 73
abbrev F.slices_breakPatternsOrdered_int64 : FuncId := 74
abbrev F.slices_choosePivotOrdered_int64 : FuncId := 75
abbrev F.slices_reverseRangeOrdered_int64 : FuncId := 76
abbrev F.slices_partialInsertionSortOrdered_int64 : FuncId := 77
abbrev F.cmp_Less_int64 : FuncId := 78
abbrev F.slices_partitionEqualOrdered_int64 : FuncId := 79
abbrev F.slices_partitionOrdered_int64 : FuncId := 80
abbrev F.math_bits_Len32 : FuncId := 81
abbrev F.math_bits_Len64 : FuncId := 82
abbrev F.slices_heapSortCmpFunc_api_EdgeTally : FuncId := 83
abbrev F.slices_breakPatternsCmpFunc_api_EdgeTally : FuncId := 84
abbrev F.slices_choosePivotCmpFunc_api_EdgeTally : FuncId := 85
abbrev F.slices_reverseRangeCmpFunc_api_EdgeTally : FuncId := 86
abbrev F.slices_partialInsertionSortCmpFunc_api_EdgeTally : FuncId := 87
abbrev F.slices_partitionEqualCmpFunc_api_EdgeTally : FuncId := 88
abbrev F.slices_partitionCmpFunc_api_EdgeTally : FuncId := 89
abbrev F.cmp_isNaN_string : FuncId := 90
abbrev F.spoorref13_Check : FuncId := 91
abbrev F.spoorref13_plus : FuncId := 92
abbrev F.slices_rotateCmpFunc_api_EdgeTally : FuncId := 93
abbrev F.slices_siftDownOrdered_int64 : FuncId := 94
abbrev F.slices_nextPowerOfTwo : FuncId := 95
abbrev F.p_slices_xorshift_Next : FuncId := 96
abbrev F.slices_medianAdjacentOrdered_int64 : FuncId := 97
abbrev F.slices_medianOrdered_int64 : FuncId := 98
abbrev F.cmp_isNaN_int64 : FuncId := 99
abbrev F.slices_siftDownCmpFunc_api_EdgeTally : FuncId := 100
abbrev F.slices_medianAdjacentCmpFunc_api_EdgeTally : FuncId := 101
abbrev F.slices_medianCmpFunc_api_EdgeTally : FuncId := 102
abbrev F.slices_swapRangeCmpFunc_api_EdgeTally : FuncId := 103
abbrev F.slices_order2Ordered_int64 : FuncId := 104
abbrev F.slices_order2CmpFunc_api_EdgeTally : FuncId := 105
abbrev F.runtime_boundsError_Error : FuncId := 106
abbrev F.runtime_boundsError_RuntimeError : FuncId := 107
abbrev F.runtime_errorString_Error : FuncId := 108
abbrev F.runtime_errorString_RuntimeError : FuncId := 109
abbrev F.runtime_plainError_Error : FuncId := 110
abbrev F.runtime_plainError_RuntimeError : FuncId := 111
abbrev F.runtime_errorAddressString_Error : FuncId := 112
abbrev F.runtime_errorAddressString_RuntimeError : FuncId := 113
abbrev F.p_runtime_TypeAssertionError_Error : FuncId := 114
abbrev F.p_runtime_TypeAssertionError_RuntimeError : FuncId := 115
abbrev F.p_runtime_PanicNilError_Error : FuncId := 116
abbrev F.p_runtime_PanicNilError_RuntimeError : FuncId := 117
abbrev F.p_internal_abi_Type_Align : FuncId := 118
abbrev F.internal_runtime_maps_unhashableTypeError_Error : FuncId := 119
abbrev F.internal_runtime_maps_unhashableTypeError_RuntimeError : FuncId := 120
abbrev F.api_Errno_Error : FuncId := 121
abbrev F.internal_abi_Kind_String : FuncId := 122
abbrev T.y_0 : TypeId := 0
abbrev T.yfunc_1 : TypeId := 1
abbrev T.int64 : TypeId := 2
abbrev T.yint_3 : TypeId := 3
abbrev T.ybool_4 : TypeId := 4
abbrev T.uint8 : TypeId := 5
abbrev T.abi_BoundsErrorCode : TypeId := 6
abbrev T.struct_x_int64_y_int_signed_bool_code_abi_BoundsErrorCode : TypeId := 7
abbrev T.runtime_boundsError : TypeId := 8
abbrev T.ystring_9 : TypeId := 9
abbrev T.runtime_errorString : TypeId := 10
abbrev T.runtime_plainError : TypeId := 11
abbrev T.uintptr : TypeId := 12
abbrev T.struct_msg_string_addr_uintptr : TypeId := 13
abbrev T.runtime_errorAddressString : TypeId := 14
abbrev T.p_runtime_TypeAssertionError : TypeId := 15
abbrev T.p_runtime_PanicNilError : TypeId := 16
abbrev T.p_abi_Type : TypeId := 17
abbrev T.struct_typ_p_abi_Type : TypeId := 18
abbrev T.maps_unhashableTypeError : TypeId := 19
abbrev T.yinterface_20 : TypeId := 20
abbrev T.int32 : TypeId := 21
abbrev T.sl_spoorlaw15_Put : TypeId := 22
abbrev T.func_bool : TypeId := 23
abbrev T.p_rollup_Rollup : TypeId := 24
abbrev T.func_int_sl_spoorlaw15_Put_p_rollup_Rollup : TypeId := 25
abbrev T.sl_api_EdgeTally : TypeId := 26
abbrev T.api_Errno : TypeId := 27
abbrev T.sl_api_EdgeTally_api_Errno : TypeId := 28
abbrev T.func_int64_int64_sl_api_EdgeTally_api_Errno : TypeId := 29
abbrev T.sl_api_Window : TypeId := 30
abbrev T.sl_api_Window_api_Errno : TypeId := 31
abbrev T.func_int64_int64_sl_api_Window_api_Errno : TypeId := 32
abbrev T.sl_sl_api_EdgeTally : TypeId := 33
abbrev T.struct_From_int64_Hours_int64_Edges_sl_api_EdgeTally : TypeId := 34
abbrev T.api_Window : TypeId := 35
abbrev T.func_sl_api_EdgeTally_sl_api_EdgeTally_bool : TypeId := 36
abbrev T.func_p_rollup_Rollup_int64_int64_sl_api_EdgeTally : TypeId := 37
abbrev T.func_sl_sl_api_EdgeTally_sl_api_EdgeTally : TypeId := 38
abbrev T.func_int_sl_spoorlaw15_Put_int64_int64_int64_bool : TypeId := 39
abbrev T.func_sl_spoorlaw15_Put_bool : TypeId := 40
abbrev T.int64_int64 : TypeId := 41
abbrev T.func_int64_int64 : TypeId := 42
abbrev T.func_int64_api_Edge_api_Tally_api_Errno : TypeId := 43
abbrev T.struct_From_string_To_string : TypeId := 44
abbrev T.api_Edge : TypeId := 45
abbrev T.uint64 : TypeId := 46
abbrev T.struct_Hi_uint64_Lo_uint64 : TypeId := 47
abbrev T.api_Nat : TypeId := 48
abbrev T.sl_api_Bar : TypeId := 49
abbrev T.struct_Calls_api_Nat_Errors_api_Nat_Took_api_Nat_Bars_sl_api_Bar : TypeId := 50
abbrev T.api_Tally : TypeId := 51
abbrev T.struct_Hour_int64_E_api_Edge_T_api_Tally : TypeId := 52
abbrev T.spoorlaw15_Put : TypeId := 53
abbrev T.func_int_sl_spoorlaw15_Put_sl_spoorlaw15_Put_bool : TypeId := 54
abbrev T.sl_api_Call : TypeId := 55
abbrev T.p_rollup_Rollup_api_Errno : TypeId := 56
abbrev T.func_int_p_rollup_Rollup_api_Errno : TypeId := 57
abbrev T.struct_Hour_int64_Edge_api_Edge_Failed_bool_Took_uint64 : TypeId := 58
abbrev T.api_Call : TypeId := 59
abbrev T.func_api_Call_api_Tally : TypeId := 60
abbrev T.struct_Edge_api_Edge_Tally_api_Tally : TypeId := 61
abbrev T.api_EdgeTally : TypeId := 62
abbrev T.func_int_sl_api_Call_int64_int64_bool : TypeId := 63
abbrev T.func_int64_int64_int_int_sl_api_EdgeTally_api_Errno : TypeId := 64
abbrev T.func_api_Tally_api_Tally_bool : TypeId := 65
abbrev T.func_api_EdgeTally_api_EdgeTally_int_bool : TypeId := 66
abbrev T.func_int_sl_spoorlaw15_Put_int64_int64_int_int_bool : TypeId := 67
abbrev T.func_int_sl_api_Window_api_Errno : TypeId := 68
abbrev T.func_int_sl_spoorlaw15_Put_int64_int64_bool : TypeId := 69
abbrev T.func_p_rollup_Rollup_api_Errno : TypeId := 70
abbrev T.func_sl_api_Window_sl_api_Window_bool : TypeId := 71
abbrev T.func_int_sl_spoorlaw15_Put_int_bool : TypeId := 72
abbrev T.func_uint64_api_Tally : TypeId := 73
abbrev T.func_int64_int64_sl_api_EdgeTally : TypeId := 74
abbrev T.int64_bool : TypeId := 75
abbrev T.func_int_int64_bool : TypeId := 76
abbrev T.func_int64_int64_api_Window : TypeId := 77
abbrev T.func_sl_api_EdgeTally_api_Edge_api_Tally_sl_api_EdgeTally : TypeId := 78
abbrev T.struct_Index_int_Count_uint64 : TypeId := 79
abbrev T.api_Bar : TypeId := 80
abbrev T.map_int64_rollup_edges : TypeId := 81
abbrev T.struct_fan_int64_at_map_int64_rollup_edges : TypeId := 82
abbrev T.rollup_Rollup : TypeId := 83
abbrev T.api_Tally_api_Errno : TypeId := 84
abbrev T.func_api_Tally_api_Tally_api_Tally_api_Errno : TypeId := 85
abbrev T.map_api_Edge_api_Tally : TypeId := 86
abbrev T.rollup_edges : TypeId := 87
abbrev T.func_int64_api_Edge_api_Tally : TypeId := 88
abbrev T.func_uint64_int : TypeId := 89
abbrev T.func_sl_api_EdgeTally_func_api_EdgeTally_api_EdgeTally_int : TypeId := 90
abbrev T.func_api_Nat_api_Nat_int : TypeId := 91
abbrev T.func_api_Tally_int_api_Nat : TypeId := 92
abbrev T.func_api_EdgeTally_api_EdgeTally_int : TypeId := 93
abbrev T.func_sl_api_EdgeTally_sl_api_EdgeTally : TypeId := 94
abbrev T.func_api_Edge_api_Edge_bool : TypeId := 95
abbrev T.sl_int64 : TypeId := 96
abbrev T.func_sl_int64 : TypeId := 97
abbrev T.func_sl_int64_sl_int64 : TypeId := 98
abbrev T.sl_rollup_row : TypeId := 99
abbrev T.struct_hour_int64_edge_api_Edge_t_api_Tally : TypeId := 100
abbrev T.rollup_row : TypeId := 101
abbrev T.func_api_Tally_api_Tally : TypeId := 102
abbrev T.sl_api_Bar_api_Errno : TypeId := 103
abbrev T.func_sl_api_Bar_sl_api_Bar_sl_api_Bar_api_Errno : TypeId := 104
abbrev T.func_api_Nat_api_Nat_api_Nat : TypeId := 105
abbrev T.func_api_Tally_bool : TypeId := 106
abbrev T.func_sl_api_Bar_api_Errno : TypeId := 107
abbrev T.api_Nat_bool : TypeId := 108
abbrev T.func_api_Nat_api_Nat_api_Nat_bool : TypeId := 109
abbrev T.func_sl_api_EdgeTally_int_func_api_EdgeTally_api_EdgeTally_int : TypeId := 110
abbrev T.func_int_int : TypeId := 111
abbrev T.func_uint64_uint64_int : TypeId := 112
abbrev T.y3_api_Nat_113 : TypeId := 113
abbrev T.func_sl_int64_int_int_int : TypeId := 114
abbrev T.func_uint_int : TypeId := 115
abbrev T.uint : TypeId := 116
abbrev T.func_sl_api_EdgeTally_int_int_int_func_api_EdgeTally_api_EdgeTally_int : TypeId := 117
abbrev T.func_string_string_int : TypeId := 118
abbrev T.p_sketch_row : TypeId := 119
abbrev T.p_sketch_row_bool : TypeId := 120
abbrev T.func_sl_api_Bar_p_sketch_row_bool : TypeId := 121
abbrev T.func_int_uint64 : TypeId := 122
abbrev T.func_sl_api_Bar : TypeId := 123
abbrev T.uint64_uint64 : TypeId := 124
abbrev T.func_uint64_uint64_uint64_uint64_uint64 : TypeId := 125
abbrev T.func_sl_api_EdgeTally_int_int_func_api_EdgeTally_api_EdgeTally_int : TypeId := 126
abbrev T.sl_int : TypeId := 127
abbrev T.func_uint64_bool : TypeId := 128
abbrev T.func_sl_int64_int_int : TypeId := 129
abbrev T.slices_sortedHint : TypeId := 130
abbrev T.int_slices_sortedHint : TypeId := 131
abbrev T.func_sl_int64_int_int_int_slices_sortedHint : TypeId := 132
abbrev T.func_sl_int64_int_int_bool : TypeId := 133
abbrev T.func_int64_int64_bool : TypeId := 134
abbrev T.func_sl_int64_int_int_int_int : TypeId := 135
abbrev T.int_bool : TypeId := 136
abbrev T.func_sl_int64_int_int_int_int_bool : TypeId := 137
abbrev T.func_uint32_int : TypeId := 138
abbrev T.uint32 : TypeId := 139
abbrev T.func_sl_api_EdgeTally_int_int_func_api_EdgeTally_api_EdgeTally_int_int_slices_sortedHint : TypeId := 140
abbrev T.func_sl_api_EdgeTally_int_int_func_api_EdgeTally_api_EdgeTally_int_bool : TypeId := 141
abbrev T.func_sl_api_EdgeTally_int_int_int_func_api_EdgeTally_api_EdgeTally_int_int : TypeId := 142
abbrev T.func_sl_api_EdgeTally_int_int_int_func_api_EdgeTally_api_EdgeTally_int_int_bool : TypeId := 143
abbrev T.func_string_bool : TypeId := 144
abbrev T.func_uint64_uint64_uint64 : TypeId := 145
abbrev T.y1920_uint64_146 : TypeId := 146
abbrev T.sketch_row : TypeId := 147
abbrev T.slices_xorshift : TypeId := 148
abbrev T.func_int_uint : TypeId := 149
abbrev T.func_uint64 : TypeId := 150
abbrev T.func_sl_int64_int_p_int_int : TypeId := 151
abbrev T.p_int : TypeId := 152
abbrev T.func_sl_int64_int_int_int_p_int_int : TypeId := 153
abbrev T.func_int64_bool : TypeId := 154
abbrev T.func_sl_api_EdgeTally_int_p_int_func_api_EdgeTally_api_EdgeTally_int_int : TypeId := 155
abbrev T.func_sl_api_EdgeTally_int_int_int_p_int_func_api_EdgeTally_api_EdgeTally_int_int : TypeId := 156
abbrev T.p_slices_xorshift : TypeId := 157
abbrev T.int_int : TypeId := 158
abbrev T.func_sl_int64_int_int_p_int_int_int : TypeId := 159
abbrev T.func_sl_api_EdgeTally_int_int_p_int_func_api_EdgeTally_api_EdgeTally_int_int_int : TypeId := 160
abbrev T.func_string : TypeId := 161
abbrev T.struct__interface_p_abi_Type_concrete_p_abi_Type_asserted_p_abi_Type_missingMethod_string : TypeId := 162
abbrev T.runtime_TypeAssertionError : TypeId := 163
abbrev T.y0_p_runtime_PanicNilError_164 : TypeId := 164
abbrev T.struct___0_p_runtime_PanicNilError : TypeId := 165
abbrev T.runtime_PanicNilError : TypeId := 166
abbrev T.func_int : TypeId := 167
abbrev T.abi_TFlag : TypeId := 168
abbrev T.abi_Kind : TypeId := 169
abbrev T.func_unsafe_Pointer_unsafe_Pointer_bool : TypeId := 170
abbrev T.p_uint8 : TypeId := 171
abbrev T.abi_NameOff : TypeId := 172
abbrev T.abi_TypeOff : TypeId := 173
abbrev T.struct_Size__uintptr_PtrBytes_uintptr_Hash_uint32_TFlag_abi_TFlag_Align__uint8_FieldAlign__uint8_Kind__abi_Kind_Equal_func_unsafe_Pointer_unsafe_Pointer_bool_GCData_p_uint8_Str_abi_NameOff_PtrToThis_abi_TypeOff : TypeId := 174
abbrev T.abi_Type : TypeId := 175
abbrev T.unsafe_Pointer : TypeId := 176
def rt (g : FuncId) : List TypeId := match P.funcs[g]? with | some f => f.resultTypes.toList | none => []
def fnI (f : Func) : FnI := { nt := f.ntmps, body := (match f.body with | some c => c | none => .skip), results := f.results.toList }
def D : Tab := Tab.mk' P [(67, add64), (68, sub64)]
theorem ext0 : ExtOk P 67 add64 := add64_ok Try.func67 (by kernel_rfl) (by kernel_rfl) (by kernel_rfl) (by kernel_rfl)
theorem ext1 : ExtOk P 68 sub64 := sub64_ok Try.func68 (by kernel_rfl) (by kernel_rfl) (by kernel_rfl) (by kernel_rfl)
theorem hD : TabOk P D := tabOk_two ext0 ext1
theorem hX : D.xst = [] := rfl
theorem mixes : P.follows .mixedOrders = true := by kernel_rfl
/-! ### Types -/
theorem ty.int64 : D.ty.get T.int64 = some { d := .int .i64, size := 1, bytes := 8, zero := (some (.int .i64 0)), held := false } := by kernel_rfl
theorem ty.sl_spoorlaw15_Put : D.ty.get T.sl_spoorlaw15_Put = some { d := .slice 53, size := 1, bytes := 24, zero := (some .nilslice), held := false } := by kernel_rfl
theorem ty.sl_api_EdgeTally : D.ty.get T.sl_api_EdgeTally = some { d := .slice 62, size := 1, bytes := 24, zero := (some .nilslice), held := false } := by kernel_rfl
theorem ty.sl_api_Window : D.ty.get T.sl_api_Window = some { d := .slice 35, size := 1, bytes := 24, zero := (some .nilslice), held := false } := by kernel_rfl
theorem ty.sl_sl_api_EdgeTally : D.ty.get T.sl_sl_api_EdgeTally = some { d := .slice 26, size := 1, bytes := 24, zero := (some .nilslice), held := false } := by kernel_rfl
theorem ty.api_Window : D.ty.get T.api_Window = some { d := .struct [(2, 0, true), (2, 1, true), (26, 2, true)], size := 3, bytes := 40, zero := (some (.agg ([(.int .i64 0)] ++ [(.int .i64 0)] ++ [.nilslice]))), held := false } := by kernel_rfl
theorem ty.api_Edge : D.ty.get T.api_Edge = some { d := .struct [(9, 0, true), (9, 1, true)], size := 2, bytes := 32, zero := (some (.agg ([(.str .empty)] ++ [(.str .empty)]))), held := false } := by kernel_rfl
theorem ty.uint64 : D.ty.get T.uint64 = some { d := .int .u64, size := 1, bytes := 8, zero := (some (.int .u64 0)), held := false } := by kernel_rfl
theorem ty.sl_api_Bar : D.ty.get T.sl_api_Bar = some { d := .slice 80, size := 1, bytes := 24, zero := (some .nilslice), held := false } := by kernel_rfl
theorem ty.api_Tally : D.ty.get T.api_Tally = some { d := .struct [(48, 0, true), (48, 2, true), (48, 4, true), (49, 6, true)], size := 7, bytes := 72, zero := (some (.agg (([(.int .u64 0)] ++ [(.int .u64 0)]) ++ ([(.int .u64 0)] ++ [(.int .u64 0)]) ++ ([(.int .u64 0)] ++ [(.int .u64 0)]) ++ [.nilslice]))), held := false } := by kernel_rfl
theorem ty.spoorlaw15_Put : D.ty.get T.spoorlaw15_Put = some { d := .struct [(2, 0, true), (45, 1, true), (51, 3, true)], size := 10, bytes := 112, zero := (some (.agg ([(.int .i64 0)] ++ ([(.str .empty)] ++ [(.str .empty)]) ++ (([(.int .u64 0)] ++ [(.int .u64 0)]) ++ ([(.int .u64 0)] ++ [(.int .u64 0)]) ++ ([(.int .u64 0)] ++ [(.int .u64 0)]) ++ [.nilslice])))), held := false } := by kernel_rfl
theorem ty.sl_api_Call : D.ty.get T.sl_api_Call = some { d := .slice 59, size := 1, bytes := 24, zero := (some .nilslice), held := false } := by kernel_rfl
theorem ty.api_Call : D.ty.get T.api_Call = some { d := .struct [(2, 0, true), (45, 1, true), (4, 3, true), (46, 4, true)], size := 5, bytes := 56, zero := (some (.agg ([(.int .i64 0)] ++ ([(.str .empty)] ++ [(.str .empty)]) ++ [(.bool false)] ++ [(.int .u64 0)]))), held := false } := by kernel_rfl
theorem ty.api_EdgeTally : D.ty.get T.api_EdgeTally = some { d := .struct [(45, 0, true), (51, 2, true)], size := 9, bytes := 104, zero := (some (.agg (([(.str .empty)] ++ [(.str .empty)]) ++ (([(.int .u64 0)] ++ [(.int .u64 0)]) ++ ([(.int .u64 0)] ++ [(.int .u64 0)]) ++ ([(.int .u64 0)] ++ [(.int .u64 0)]) ++ [.nilslice])))), held := false } := by kernel_rfl
theorem ty.api_Bar : D.ty.get T.api_Bar = some { d := .struct [(3, 0, true), (46, 1, true)], size := 2, bytes := 16, zero := (some (.agg ([(.int .i64 0)] ++ [(.int .u64 0)]))), held := false } := by kernel_rfl
theorem ty.map_int64_rollup_edges : D.ty.get T.map_int64_rollup_edges = some { d := .map 2 87, size := 1, bytes := 8, zero := (some .nilmap), held := false } := by kernel_rfl
theorem ty.rollup_edges : D.ty.get T.rollup_edges = some { d := .map 45 51, size := 1, bytes := 8, zero := (some .nilmap), held := false } := by kernel_rfl
theorem ty.sketch_row : D.ty.get T.sketch_row = some { d := .array 1920 46, size := 1920, bytes := 15360, zero := (some (.agg (List.replicate 1920 (.int .u64 0)))), held := false } := by kernel_rfl
end
end Go.Eng.S

