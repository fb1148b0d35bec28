/-
  What is to be shown of functions of the program, and that it suffices.
  What is to be shown of functions of the program, and that it suffices.
  What is to be shown of functions of the program, and that it suffices.
  What is to be shown of functions of the program, and that it suffices.
-/
import Derived.Test.YteidlkjofcbcmaaSDefs
namespace Go.Eng.S
open Go Go.Eng Go.Proofs
noncomputable section
def C.spoorlaw15_filled : Cx := { D := D, rt := rt, its := [], lps := [(0, [41, 40, 39, 38, 37, 36, 35, 34, 33, 32, 31, 30, 29, 28, 27, 26, 25, 23, 24, 7, 15, 16, 17, 18, 19, 20, 21, 22], [7])], det := true }
set_option maxRecDepth 100000 in
def vc.spoorlaw15_filled (a0 : Int) (a1 : AV) (s : St) (Q : (AV → (St → Prop))) : Prop :=
 CallsD P F.rollup_New [(AV.int .i64 a0)] s fun x1 s2 =>
 ∃ (x3 : AV) (n4 : Int),
 (x1 = (AV.tuple [x3, (AV.int .i64 n4)])) ∧
 bsel (n4 != 0) (
  (Q AV.nilptr s2)
 ) (
  ∃ (I5 : (Int → (St → (Nat → Prop)))),
  (
   ∃ (m6 : Nat),
   (I5 0 s2 m6)
  ) ∧
  ∀ (n7 : Int) (s8 : St) (m9 : Nat),
  (I5 n7 s8 m9) →
  slenK a1 fun m10 =>
  bsel (decide (n7 < ((m10 : Nat) : Int))) (
   nilK (TD.ptr 83) x3 false fun c11 =>
   bsel c11 (
    ∀ (s12 : St),
    (Bump s8 17 s12) →
    ixsK 10 a1 n7 fun m13 m14 =>
    ∃ (n15 : Int),
    ((ld1 s12 (AV.ptr m13 m14)) = (some (AV.int .i64 n15))) ∧
    ixsK 10 a1 n7 fun m16 m17 =>
    ∃ (t18 : ByteArray) (t19 : ByteArray),
    ((ldN s12 (AV.ptr m16 (m17 + 1)) 2) = (some [(AV.str t18), (AV.str t19)])) ∧
    ixsK 10 a1 n7 fun m20 m21 =>
    ∃ (n22 : Int) (n23 : Int) (n24 : Int) (n25 : Int) (n26 : Int) (n27 : Int) (x28 : AV),
    ((ldN s12 (AV.ptr m20 (m21 + 3)) 7) = (some [(AV.int .u64 n22), (AV.int .u64 n23), (AV.int .u64 n24), (AV.int .u64 n25), (AV.int .u64 n26), (AV.int .u64 n27), x28])) ∧
    CallsD P F.p_rollup_Rollup_Put [x3, (AV.int .i64 n15), (AV.agg [(AV.str t18), (AV.str t19)]), (AV.agg [(AV.int .u64 n22), (AV.int .u64 n23), (AV.int .u64 n24), (AV.int .u64 n25), (AV.int .u64 n26), (AV.int .u64 n27), x28])] s12 fun x29 s30 =>
    ∃ (n31 : Int),
    (x29 = (AV.int .i64 n31)) ∧
    ∃ (m32 : Nat),
    (m32 < m9) ∧
    (I5 (IntKind.wrap .i64 (n7 + 1)) s30 m32)
   ) (
    (Q x3 s8)
   )
  ) (
   (Q x3 s8)
  )
 )
set_option maxRecDepth 100000 in
theorem vc.spoorlaw15_filled_ok {a0 : Int} {a1 : AV} {s : St} {Q : AV → St → Prop} (h : vc.spoorlaw15_filled a0 a1 s Q) : CallsD P F.spoorlaw15_filled [.int .i64 a0, a1] s Q :=
 fnD_ok (C := C.spoorlaw15_filled) hD hX rfl mixes (fi := fnI Try.f10) (by kernel_rfl) (by kernel_rfl) (cast (by kernel_rfl : vc.spoorlaw15_filled a0 a1 s Q = wpC P C.spoorlaw15_filled 1000000 (fnI Try.f10).body ⟨PT.setAll .nil 0 [.int .i64 a0, a1], max [.int .i64 a0, a1].length (fnI Try.f10).nt, s, []⟩ (endW C.spoorlaw15_filled (fnI Try.f10).results Q)) h)
end
end Go.Eng.S

namespace Go.Eng.S
open Go Go.Eng Go.Proofs
noncomputable section
end
end Go.Eng.S

namespace Go.Eng.S
open Go Go.Eng Go.Proofs
noncomputable section
def C.slices_SortStableFunc_sl_api_EdgeTally_api_EdgeTally : Cx := { D := D, rt := rt, its := [], lps := [], det := true, vrt := some [3] }
set_option maxRecDepth 100000 in
def vc.slices_SortStableFunc_sl_api_EdgeTally_api_EdgeTally (a0 : AV) (a1 : AV) (s : St) (Q : (AV → (St → Prop))) : Prop :=
 slenK a0 fun m1 =>
 CallsD P F.slices_stableCmpFunc_api_EdgeTally [a0, (AV.int .i64 ((m1 : Nat) : Int)), a1] s fun x2 s3 =>
 (x2 = (AV.tuple [])) ∧
 (Q (AV.tuple []) s3)
set_option maxRecDepth 100000 in
theorem vc.slices_SortStableFunc_sl_api_EdgeTally_api_EdgeTally_ok {a0 : AV} {a1 : AV} {s : St} {Q : AV → St → Prop} (h : vc.slices_SortStableFunc_sl_api_EdgeTally_api_EdgeTally a0 a1 s Q) : CallsD P F.slices_SortStableFunc_sl_api_EdgeTally_api_EdgeTally [a0, a1] s Q :=
 fnD_ok (C := C.slices_SortStableFunc_sl_api_EdgeTally_api_EdgeTally) hD hX rfl mixes (fi := fnI Try.f37) (by kernel_rfl) (by kernel_rfl) (cast (by kernel_rfl : vc.slices_SortStableFunc_sl_api_EdgeTally_api_EdgeTally a0 a1 s Q = wpC P C.slices_SortStableFunc_sl_api_EdgeTally_api_EdgeTally 1000000 (fnI Try.f37).body ⟨PT.setAll .nil 0 [a0, a1], max [a0, a1].length (fnI Try.f37).nt, s, []⟩ (endW C.slices_SortStableFunc_sl_api_EdgeTally_api_EdgeTally (fnI Try.f37).results Q)) h)
def C.slices_stableCmpFunc_api_EdgeTally : Cx := { D := D, rt := rt, its := [], lps := [(0, [18, 17, 16, 15, 14, 8, 22, 21, 20, 19, 7, 11, 12, 13], [7, 8]), (2, [8, 7, 32, 31, 9, 51, 50, 49, 60, 59, 58, 57, 56, 55, 52, 53, 54, 61, 62, 6, 43, 42, 41, 40, 39, 38, 37, 36, 48, 47, 46, 45, 44, 33, 34, 35, 28, 29, 30], [6]), (4, [43, 42, 41, 40, 39, 38, 37, 36, 8, 48, 47, 46, 45, 44, 7, 33, 34, 35], [7, 8])], det := true, vrt := some [3] }
set_option maxRecDepth 100000 in
def vc.slices_stableCmpFunc_api_EdgeTally (a0 : AV) (a1 : Int) (a2 : AV) (s : St) (Q : (AV → (St → Prop))) : Prop :=
 ∃ (I1 : (Int → (Int → (St → (Nat → Prop))))),
 (
  ∃ (m2 : Nat),
  (I1 0 20 s m2)
 ) ∧
 ∀ (n3 : Int) (n4 : Int) (s5 : St) (m6 : Nat),
 (I1 n3 n4 s5 m6) →
 bsel (decide (n4 ≤ a1)) (
  CallsD P F.slices_insertionSortCmpFunc_api_EdgeTally [a0, (AV.int .i64 n3), (AV.int .i64 n4), a2] s5 fun x7 s8 =>
  (x7 = (AV.tuple [])) ∧
  ∃ (m9 : Nat),
  (m9 < m6) ∧
  (I1 n4 (IntKind.wrap .i64 (n4 + 20)) s8 m9)
 ) (
  CallsD P F.slices_insertionSortCmpFunc_api_EdgeTally [a0, (AV.int .i64 n3), (AV.int .i64 a1), a2] s5 fun x10 s11 =>
  (x10 = (AV.tuple [])) ∧
  ∃ (I12 : (Int → (St → (Nat → Prop)))),
  (
   ∃ (m13 : Nat),
   (I12 20 s11 m13)
  ) ∧
  ∀ (n14 : Int) (s15 : St) (m16 : Nat),
  (I12 n14 s15 m16) →
  bsel (decide (n14 < a1)) (
   ∃ (I17 : (Int → (Int → (St → (Nat → Prop))))),
   (
    ∃ (m18 : Nat),
    (I17 0 (IntKind.wrap .i64 (2 * n14)) s15 m18)
   ) ∧
   ∀ (n19 : Int) (n20 : Int) (s21 : St) (m22 : Nat),
   (I17 n19 n20 s21 m22) →
   bsel (decide (n20 ≤ a1)) (
    CallsD P F.slices_symMergeCmpFunc_api_EdgeTally [a0, (AV.int .i64 n19), (AV.int .i64 (IntKind.wrap .i64 (n19 + n14))), (AV.int .i64 n20), a2] s21 fun x23 s24 =>
    (x23 = (AV.tuple [])) ∧
    ∃ (m25 : Nat),
    (m25 < m22) ∧
    (I17 n20 (IntKind.wrap .i64 (n20 + (IntKind.wrap .i64 (2 * n14)))) s24 m25)
   ) (
    bsel (decide ((IntKind.wrap .i64 (n19 + n14)) < a1)) (
     CallsD P F.slices_symMergeCmpFunc_api_EdgeTally [a0, (AV.int .i64 n19), (AV.int .i64 (IntKind.wrap .i64 (n19 + n14))), (AV.int .i64 a1), a2] s21 fun x26 s27 =>
     (x26 = (AV.tuple [])) ∧
     ∃ (m28 : Nat),
     (m28 < m16) ∧
     (I12 (IntKind.wrap .i64 (n14 * 2)) s27 m28)
    ) (
     ∃ (m29 : Nat),
     (m29 < m16) ∧
     (I12 (IntKind.wrap .i64 (n14 * 2)) s21 m29)
    )
   )
  ) (
   (Q (AV.tuple []) s15)
  )
 )
set_option maxRecDepth 100000 in
theorem vc.slices_stableCmpFunc_api_EdgeTally_ok {a0 : AV} {a1 : Int} {a2 : AV} {s : St} {Q : AV → St → Prop} (h : vc.slices_stableCmpFunc_api_EdgeTally a0 a1 a2 s Q) : CallsD P F.slices_stableCmpFunc_api_EdgeTally [a0, .int .i64 a1, a2] s Q :=
 fnD_ok (C := C.slices_stableCmpFunc_api_EdgeTally) hD hX rfl mixes (fi := fnI Try.f55) (by kernel_rfl) (by kernel_rfl) (cast (by kernel_rfl : vc.slices_stableCmpFunc_api_EdgeTally a0 a1 a2 s Q = wpC P C.slices_stableCmpFunc_api_EdgeTally 1000000 (fnI Try.f55).body ⟨PT.setAll .nil 0 [a0, .int .i64 a1, a2], max [a0, .int .i64 a1, a2].length (fnI Try.f55).nt, s, []⟩ (endW C.slices_stableCmpFunc_api_EdgeTally (fnI Try.f55).results Q)) h)
def C.slices_insertionSortCmpFunc_api_EdgeTally : Cx := { D := D, rt := rt, its := [], lps := [(0, [9, 17, 52, 51, 50, 49, 48, 47, 46, 45, 44, 43, 42, 41, 40, 39, 38, 37, 35, 36, 18, 19, 20, 21, 22, 23, 24, 25, 26, 27, 28, 29, 30, 31, 32, 33, 34, 15, 16, 8, 12, 13, 14], [8]), (2, [52, 51, 50, 49, 48, 47, 46, 45, 44, 43, 42, 41, 40, 39, 38, 37, 35, 36, 9, 18, 19, 20, 21, 22, 23, 24, 25, 26, 27, 28, 29, 30, 31, 32, 33, 34], [9])], det := true, jns := [(14, [18, 19, 20, 21, 22, 23, 24, 25, 26, 27, 28, 29, 30, 31, 32, 33, 34], [34], [.bool false])], vrt := some [3] }
set_option maxRecDepth 100000 in
def vc.slices_insertionSortCmpFunc_api_EdgeTally (a0 : AV) (a1 : Int) (a2 : Int) (a3 : AV) (s : St) (Q : (AV → (St → Prop))) : Prop :=
 ∃ (I1 : (Int → (St → (Nat → Prop)))),
 (
  ∃ (m2 : Nat),
  (I1 (IntKind.wrap .i64 (a1 + 1)) s m2)
 ) ∧
 ∀ (n3 : Int) (s4 : St) (m5 : Nat),
 (I1 n3 s4 m5) →
 bsel (decide (n3 < a2)) (
  ∃ (I6 : (Int → (St → (Nat → Prop)))),
  (
   ∃ (m7 : Nat),
   (I6 n3 s4 m7)
  ) ∧
  ∀ (n8 : Int) (s9 : St) (m10 : Nat),
  (I6 n8 s9 m10) →
  ∃ (I11 : (Bool → (St → (Nat → Prop)))),
  (
   ∀ (s12 : St),
   (Bump s9 17 s12) →
   bsel (decide (n8 > a1)) (
    ixsK 9 a0 n8 fun m13 m14 =>
    ∃ (t15 : ByteArray) (t16 : ByteArray) (n17 : Int) (n18 : Int) (n19 : Int) (n20 : Int) (n21 : Int) (n22 : Int) (x23 : AV),
    ((ldN s12 (AV.ptr m13 m14) 9) = (some [(AV.str t15), (AV.str t16), (AV.int .u64 n17), (AV.int .u64 n18), (AV.int .u64 n19), (AV.int .u64 n20), (AV.int .u64 n21), (AV.int .u64 n22), x23])) ∧
    ixsK 9 a0 (IntKind.wrap .i64 (n8 - 1)) fun m24 m25 =>
    ∃ (t26 : ByteArray) (t27 : ByteArray) (n28 : Int) (n29 : Int) (n30 : Int) (n31 : Int) (n32 : Int) (n33 : Int) (x34 : AV),
    ((ldN s12 (AV.ptr m24 m25) 9) = (some [(AV.str t26), (AV.str t27), (AV.int .u64 n28), (AV.int .u64 n29), (AV.int .u64 n30), (AV.int .u64 n31), (AV.int .u64 n32), (AV.int .u64 n33), x34])) ∧
    callK P D rt true s12 a3 [(AV.agg [(AV.str t15), (AV.str t16), (AV.int .u64 n17), (AV.int .u64 n18), (AV.int .u64 n19), (AV.int .u64 n20), (AV.int .u64 n21), (AV.int .u64 n22), x23]), (AV.agg [(AV.str t26), (AV.str t27), (AV.int .u64 n28), (AV.int .u64 n29), (AV.int .u64 n30), (AV.int .u64 n31), (AV.int .u64 n32), (AV.int .u64 n33), x34])] fun x35 s36 =>
    ∃ (n37 : Int),
    (x35 = (AV.int .i64 n37)) ∧
    ∃ (m38 : Nat),
    (I11 (decide (n37 < 0)) s36 m38)
   ) (
    ∃ (m39 : Nat),
    (I11 false s12 m39)
   )
  ) ∧
  ∀ (c40 : Bool) (s41 : St) (m42 : Nat),
  (I11 c40 s41 m42) →
  bsel c40 (
   ∀ (s43 : St),
   (Bump s41 18 s43) →
   ixsK 9 a0 (IntKind.wrap .i64 (n8 - 1)) fun m44 m45 =>
   ∃ (t46 : ByteArray) (t47 : ByteArray) (n48 : Int) (n49 : Int) (n50 : Int) (n51 : Int) (n52 : Int) (n53 : Int) (x54 : AV),
   ((ldN s43 (AV.ptr m44 m45) 9) = (some [(AV.str t46), (AV.str t47), (AV.int .u64 n48), (AV.int .u64 n49), (AV.int .u64 n50), (AV.int .u64 n51), (AV.int .u64 n52), (AV.int .u64 n53), x54])) ∧
   ixsK 9 a0 n8 fun m55 m56 =>
   ∃ (t57 : ByteArray) (t58 : ByteArray) (n59 : Int) (n60 : Int) (n61 : Int) (n62 : Int) (n63 : Int) (n64 : Int) (x65 : AV),
   ((ldN s43 (AV.ptr m55 m56) 9) = (some [(AV.str t57), (AV.str t58), (AV.int .u64 n59), (AV.int .u64 n60), (AV.int .u64 n61), (AV.int .u64 n62), (AV.int .u64 n63), (AV.int .u64 n64), x65])) ∧
   ixsK 9 a0 n8 fun m66 m67 =>
   ∃ (s68 : St),
   ((wrN s43 (AV.ptr m66 m67) [(AV.str t46), (AV.str t47), (AV.int .u64 n48), (AV.int .u64 n49), (AV.int .u64 n50), (AV.int .u64 n51), (AV.int .u64 n52), (AV.int .u64 n53), x54]) = (some s68)) ∧
   ixsK 9 a0 (IntKind.wrap .i64 (n8 - 1)) fun m69 m70 =>
   ∃ (s71 : St),
   ((wrN s68 (AV.ptr m69 m70) [(AV.str t57), (AV.str t58), (AV.int .u64 n59), (AV.int .u64 n60), (AV.int .u64 n61), (AV.int .u64 n62), (AV.int .u64 n63), (AV.int .u64 n64), x65]) = (some s71)) ∧
   ∃ (m72 : Nat),
   (m72 < m10) ∧
   (I6 (IntKind.wrap .i64 (n8 - 1)) s71 m72)
  ) (
   ∃ (m73 : Nat),
   (m73 < m5) ∧
   (I1 (IntKind.wrap .i64 (n3 + 1)) s41 m73)
  )
 ) (
  (Q (AV.tuple []) s4)
 )
set_option maxRecDepth 100000 in
theorem vc.slices_insertionSortCmpFunc_api_EdgeTally_ok {a0 : AV} {a1 : Int} {a2 : Int} {a3 : AV} {s : St} {Q : AV → St → Prop} (h : vc.slices_insertionSortCmpFunc_api_EdgeTally a0 a1 a2 a3 s Q) : CallsD P F.slices_insertionSortCmpFunc_api_EdgeTally [a0, .int .i64 a1, .int .i64 a2, a3] s Q :=
 fnD_ok (C := C.slices_insertionSortCmpFunc_api_EdgeTally) hD hX rfl mixes (fi := fnI Try.f69) (by kernel_rfl) (by kernel_rfl) (cast (by kernel_rfl : vc.slices_insertionSortCmpFunc_api_EdgeTally a0 a1 a2 a3 s Q = wpC P C.slices_insertionSortCmpFunc_api_EdgeTally 1000000 (fnI Try.f69).body ⟨PT.setAll .nil 0 [a0, .int .i64 a1, .int .i64 a2, a3], max [a0, .int .i64 a1, .int .i64 a2, a3].length (fnI Try.f69).nt, s, []⟩ (endW C.slices_insertionSortCmpFunc_api_EdgeTally (fnI Try.f69).results Q)) h)
def C.slices_rotateCmpFunc_api_EdgeTally : Cx := { D := D, rt := rt, its := [], lps := [(0, [23, 22, 21, 46, 45, 44, 43, 42, 41, 40, 39, 38, 37, 36, 35, 47, 48, 49, 11, 10, 34, 33, 32, 24, 25, 26, 27, 28, 29, 30, 31, 18, 19, 20], [10, 11])], det := true, vrt := some [3] }
set_option maxRecDepth 100000 in
def vc.slices_rotateCmpFunc_api_EdgeTally (a0 : AV) (a1 : Int) (a2 : Int) (a3 : Int) (a4 : AV) (s : St) (Q : (AV → (St → Prop))) : Prop :=
 ∃ (I1 : (Int → (Int → (St → (Nat → Prop))))),
 (
  ∃ (m2 : Nat),
  (I1 (IntKind.wrap .i64 (a2 - a1)) (IntKind.wrap .i64 (a3 - a2)) s m2)
 ) ∧
 ∀ (n3 : Int) (n4 : Int) (s5 : St) (m6 : Nat),
 (I1 n3 n4 s5 m6) →
 bsel (n3 != n4) (
  bsel (decide (n3 > n4)) (
   CallsD P F.slices_swapRangeCmpFunc_api_EdgeTally [a0, (AV.int .i64 (IntKind.wrap .i64 (a2 - n3))), (AV.int .i64 a2), (AV.int .i64 n4), a4] s5 fun x7 s8 =>
   (x7 = (AV.tuple [])) ∧
   ∃ (m9 : Nat),
   (m9 < m6) ∧
   (I1 (IntKind.wrap .i64 (n3 - n4)) n4 s8 m9)
  ) (
   CallsD P F.slices_swapRangeCmpFunc_api_EdgeTally [a0, (AV.int .i64 (IntKind.wrap .i64 (a2 - n3))), (AV.int .i64 (IntKind.wrap .i64 ((IntKind.wrap .i64 (a2 + n4)) - n3))), (AV.int .i64 n3), a4] s5 fun x10 s11 =>
   (x10 = (AV.tuple [])) ∧
   ∃ (m12 : Nat),
   (m12 < m6) ∧
   (I1 n3 (IntKind.wrap .i64 (n4 - n3)) s11 m12)
  )
 ) (
  CallsD P F.slices_swapRangeCmpFunc_api_EdgeTally [a0, (AV.int .i64 (IntKind.wrap .i64 (a2 - n3))), (AV.int .i64 a2), (AV.int .i64 n3), a4] s5 fun x13 s14 =>
  (x13 = (AV.tuple [])) ∧
  (Q (AV.tuple []) s14)
 )
set_option maxRecDepth 100000 in
theorem vc.slices_rotateCmpFunc_api_EdgeTally_ok {a0 : AV} {a1 : Int} {a2 : Int} {a3 : Int} {a4 : AV} {s : St} {Q : AV → St → Prop} (h : vc.slices_rotateCmpFunc_api_EdgeTally a0 a1 a2 a3 a4 s Q) : CallsD P F.slices_rotateCmpFunc_api_EdgeTally [a0, .int .i64 a1, .int .i64 a2, .int .i64 a3, a4] s Q :=
 fnD_ok (C := C.slices_rotateCmpFunc_api_EdgeTally) hD hX rfl mixes (fi := fnI Try.f93) (by kernel_rfl) (by kernel_rfl) (cast (by kernel_rfl : vc.slices_rotateCmpFunc_api_EdgeTally a0 a1 a2 a3 a4 s Q = wpC P C.slices_rotateCmpFunc_api_EdgeTally 1000000 (fnI Try.f93).body ⟨PT.setAll .nil 0 [a0, .int .i64 a1, .int .i64 a2, .int .i64 a3, a4], max [a0, .int .i64 a1, .int .i64 a2, .int .i64 a3, a4].length (fnI Try.f93).nt, s, []⟩ (endW C.slices_rotateCmpFunc_api_EdgeTally (fnI Try.f93).results Q)) h)
def C.slices_swapRangeCmpFunc_api_EdgeTally : Cx := { D := D, rt := rt, its := [], lps := [(0, [37, 36, 35, 34, 33, 32, 31, 30, 29, 28, 27, 26, 25, 24, 23, 22, 21, 20, 19, 18, 17, 16, 14, 15, 10, 11, 12, 13], [10])], det := true, vrt := some [3] }
set_option maxRecDepth 100000 in
def vc.slices_swapRangeCmpFunc_api_EdgeTally (a0 : AV) (a1 : Int) (a2 : Int) (a3 : Int) (a4 : AV) (s : St) (Q : (AV → (St → Prop))) : Prop :=
 ∃ (I1 : (Int → (St → (Nat → Prop)))),
 (
  ∃ (m2 : Nat),
  (I1 0 s m2)
 ) ∧
 ∀ (n3 : Int) (s4 : St) (m5 : Nat),
 (I1 n3 s4 m5) →
 bsel (decide (n3 < a3)) (
  ∀ (s6 : St),
  (Bump s4 24 s6) →
  ixsK 9 a0 (IntKind.wrap .i64 (a2 + n3)) fun m7 m8 =>
  ∃ (t9 : ByteArray) (t10 : ByteArray) (n11 : Int) (n12 : Int) (n13 : Int) (n14 : Int) (n15 : Int) (n16 : Int) (x17 : AV),
  ((ldN s6 (AV.ptr m7 m8) 9) = (some [(AV.str t9), (AV.str t10), (AV.int .u64 n11), (AV.int .u64 n12), (AV.int .u64 n13), (AV.int .u64 n14), (AV.int .u64 n15), (AV.int .u64 n16), x17])) ∧
  ixsK 9 a0 (IntKind.wrap .i64 (a1 + n3)) fun m18 m19 =>
  ∃ (t20 : ByteArray) (t21 : ByteArray) (n22 : Int) (n23 : Int) (n24 : Int) (n25 : Int) (n26 : Int) (n27 : Int) (x28 : AV),
  ((ldN s6 (AV.ptr m18 m19) 9) = (some [(AV.str t20), (AV.str t21), (AV.int .u64 n22), (AV.int .u64 n23), (AV.int .u64 n24), (AV.int .u64 n25), (AV.int .u64 n26), (AV.int .u64 n27), x28])) ∧
  ixsK 9 a0 (IntKind.wrap .i64 (a1 + n3)) fun m29 m30 =>
  ∃ (s31 : St),
  ((wrN s6 (AV.ptr m29 m30) [(AV.str t9), (AV.str t10), (AV.int .u64 n11), (AV.int .u64 n12), (AV.int .u64 n13), (AV.int .u64 n14), (AV.int .u64 n15), (AV.int .u64 n16), x17]) = (some s31)) ∧
  ixsK 9 a0 (IntKind.wrap .i64 (a2 + n3)) fun m32 m33 =>
  ∃ (s34 : St),
  ((wrN s31 (AV.ptr m32 m33) [(AV.str t20), (AV.str t21), (AV.int .u64 n22), (AV.int .u64 n23), (AV.int .u64 n24), (AV.int .u64 n25), (AV.int .u64 n26), (AV.int .u64 n27), x28]) = (some s34)) ∧
  ∃ (m35 : Nat),
  (m35 < m5) ∧
  (I1 (IntKind.wrap .i64 (n3 + 1)) s34 m35)
 ) (
  (Q (AV.tuple []) s4)
 )
set_option maxRecDepth 100000 in
theorem vc.slices_swapRangeCmpFunc_api_EdgeTally_ok {a0 : AV} {a1 : Int} {a2 : Int} {a3 : Int} {a4 : AV} {s : St} {Q : AV → St → Prop} (h : vc.slices_swapRangeCmpFunc_api_EdgeTally a0 a1 a2 a3 a4 s Q) : CallsD P F.slices_swapRangeCmpFunc_api_EdgeTally [a0, .int .i64 a1, .int .i64 a2, .int .i64 a3, a4] s Q :=
 fnD_ok (C := C.slices_swapRangeCmpFunc_api_EdgeTally) hD hX rfl mixes (fi := fnI Try.f103) (by kernel_rfl) (by kernel_rfl) (cast (by kernel_rfl : vc.slices_swapRangeCmpFunc_api_EdgeTally a0 a1 a2 a3 a4 s Q = wpC P C.slices_swapRangeCmpFunc_api_EdgeTally 1000000 (fnI Try.f103).body ⟨PT.setAll .nil 0 [a0, .int .i64 a1, .int .i64 a2, .int .i64 a3, a4], max [a0, .int .i64 a1, .int .i64 a2, .int .i64 a3, a4].length (fnI Try.f103).nt, s, []⟩ (endW C.slices_swapRangeCmpFunc_api_EdgeTally (fnI Try.f103).results Q)) h)
def C.slices_symMergeCmpFunc_api_EdgeTally : Cx := { D := D, rt := rt, its := [], lps := [(0, [12, 39, 38, 37, 36, 35, 34, 10, 52, 51, 53, 11, 40, 41, 42, 43, 44, 45, 46, 47, 48, 49, 50, 31, 32, 33], [10, 11]), (2, [76, 75, 74, 73, 72, 71, 70, 69, 68, 67, 66, 65, 64, 63, 62, 61, 59, 60, 13, 55, 56, 57, 58], [13]), (4, [16, 91, 90, 89, 88, 87, 86, 14, 105, 104, 106, 15, 92, 93, 94, 95, 96, 97, 98, 99, 100, 101, 102, 103, 83, 84, 85], [14, 15]), (6, [128, 127, 126, 125, 124, 123, 122, 121, 120, 119, 118, 117, 116, 115, 114, 113, 111, 112, 17, 108, 109, 110], [17]), (8, [23, 157, 156, 155, 154, 153, 152, 20, 173, 172, 174, 21, 158, 159, 160, 161, 162, 163, 164, 165, 166, 167, 168, 169, 170, 171, 149, 150, 151], [20, 21])], det := true, jns := [(423, [20, 143, 142, 141, 144, 21, 146, 145, 138, 139, 140], [20, 21], [.int .i64 0, .int .i64 0]), (119, [178, 179, 180, 181, 182, 183, 184, 185], [185], [.bool false]), (558, [191, 190, 189, 188, 187, 186, 178, 179, 180, 181, 182, 183, 184, 185], [], []), (125, [192, 193, 194, 195, 196, 197, 198, 199], [199], [.bool false]), (131, [206, 207, 208, 209, 210, 211, 212, 213], [213], [.bool false])], vrt := some [3] }
set_option maxRecDepth 100000 in
def vc.slices_symMergeCmpFunc_api_EdgeTally (a0 : AV) (a1 : Int) (a2 : Int) (a3 : Int) (a4 : AV) (s : St) (Q : (AV → (St → Prop))) : Prop :=
 bsel ((IntKind.wrap .i64 (a2 - a1)) == 1) (
  ∃ (I1 : (Int → (Int → (St → (Nat → Prop))))),
  (
   ∃ (m2 : Nat),
   (I1 a2 a3 s m2)
  ) ∧
  ∀ (n3 : Int) (n4 : Int) (s5 : St) (m6 : Nat),
  (I1 n3 n4 s5 m6) →
  bsel (decide (n3 < n4)) (
   ((0 : Int) ≤ 1) ∧
   ∀ (s7 : St),
   (Bump s5 11 s7) →
   ixsK 9 a0 (IntKind.wrap .i64 (Int.fdiv (IntKind.wrap .u64 (IntKind.wrap .i64 (n3 + n4))) (2 ^ 1))) fun m8 m9 =>
   ∃ (t10 : ByteArray) (t11 : ByteArray) (n12 : Int) (n13 : Int) (n14 : Int) (n15 : Int) (n16 : Int) (n17 : Int) (x18 : AV),
   ((ldN s7 (AV.ptr m8 m9) 9) = (some [(AV.str t10), (AV.str t11), (AV.int .u64 n12), (AV.int .u64 n13), (AV.int .u64 n14), (AV.int .u64 n15), (AV.int .u64 n16), (AV.int .u64 n17), x18])) ∧
   ixsK 9 a0 a1 fun m19 m20 =>
   ∃ (t21 : ByteArray) (t22 : ByteArray) (n23 : Int) (n24 : Int) (n25 : Int) (n26 : Int) (n27 : Int) (n28 : Int) (x29 : AV),
   ((ldN s7 (AV.ptr m19 m20) 9) = (some [(AV.str t21), (AV.str t22), (AV.int .u64 n23), (AV.int .u64 n24), (AV.int .u64 n25), (AV.int .u64 n26), (AV.int .u64 n27), (AV.int .u64 n28), x29])) ∧
   callK P D rt true s7 a4 [(AV.agg [(AV.str t10), (AV.str t11), (AV.int .u64 n12), (AV.int .u64 n13), (AV.int .u64 n14), (AV.int .u64 n15), (AV.int .u64 n16), (AV.int .u64 n17), x18]), (AV.agg [(AV.str t21), (AV.str t22), (AV.int .u64 n23), (AV.int .u64 n24), (AV.int .u64 n25), (AV.int .u64 n26), (AV.int .u64 n27), (AV.int .u64 n28), x29])] fun x30 s31 =>
   ∃ (n32 : Int),
   (x30 = (AV.int .i64 n32)) ∧
   bsel (decide (n32 < 0)) (
    ∃ (m33 : Nat),
    (m33 < m6) ∧
    (I1 (IntKind.wrap .i64 ((IntKind.wrap .i64 (Int.fdiv (IntKind.wrap .u64 (IntKind.wrap .i64 (n3 + n4))) (2 ^ 1))) + 1)) n4 s31 m33)
   ) (
    ∃ (m34 : Nat),
    (m34 < m6) ∧
    (I1 n3 (IntKind.wrap .i64 (Int.fdiv (IntKind.wrap .u64 (IntKind.wrap .i64 (n3 + n4))) (2 ^ 1))) s31 m34)
   )
  ) (
   ∃ (I35 : (Int → (St → (Nat → Prop)))),
   (
    ∃ (m36 : Nat),
    (I35 a1 s5 m36)
   ) ∧
   ∀ (n37 : Int) (s38 : St) (m39 : Nat),
   (I35 n37 s38 m39) →
   bsel (decide (n37 < (IntKind.wrap .i64 (n3 - 1)))) (
    ∀ (s40 : St),
    (Bump s38 18 s40) →
    ixsK 9 a0 (IntKind.wrap .i64 (n37 + 1)) fun m41 m42 =>
    ∃ (t43 : ByteArray) (t44 : ByteArray) (n45 : Int) (n46 : Int) (n47 : Int) (n48 : Int) (n49 : Int) (n50 : Int) (x51 : AV),
    ((ldN s40 (AV.ptr m41 m42) 9) = (some [(AV.str t43), (AV.str t44), (AV.int .u64 n45), (AV.int .u64 n46), (AV.int .u64 n47), (AV.int .u64 n48), (AV.int .u64 n49), (AV.int .u64 n50), x51])) ∧
    ixsK 9 a0 n37 fun m52 m53 =>
    ∃ (t54 : ByteArray) (t55 : ByteArray) (n56 : Int) (n57 : Int) (n58 : Int) (n59 : Int) (n60 : Int) (n61 : Int) (x62 : AV),
    ((ldN s40 (AV.ptr m52 m53) 9) = (some [(AV.str t54), (AV.str t55), (AV.int .u64 n56), (AV.int .u64 n57), (AV.int .u64 n58), (AV.int .u64 n59), (AV.int .u64 n60), (AV.int .u64 n61), x62])) ∧
    ixsK 9 a0 n37 fun m63 m64 =>
    ∃ (s65 : St),
    ((wrN s40 (AV.ptr m63 m64) [(AV.str t43), (AV.str t44), (AV.int .u64 n45), (AV.int .u64 n46), (AV.int .u64 n47), (AV.int .u64 n48), (AV.int .u64 n49), (AV.int .u64 n50), x51]) = (some s65)) ∧
    ixsK 9 a0 (IntKind.wrap .i64 (n37 + 1)) fun m66 m67 =>
    ∃ (s68 : St),
    ((wrN s65 (AV.ptr m66 m67) [(AV.str t54), (AV.str t55), (AV.int .u64 n56), (AV.int .u64 n57), (AV.int .u64 n58), (AV.int .u64 n59), (AV.int .u64 n60), (AV.int .u64 n61), x62]) = (some s68)) ∧
    ∃ (m69 : Nat),
    (m69 < m39) ∧
    (I35 (IntKind.wrap .i64 (n37 + 1)) s68 m69)
   ) (
    (Q (AV.tuple []) s38)
   )
  )
 ) (
  bsel ((IntKind.wrap .i64 (a3 - a2)) == 1) (
   ∃ (I70 : (Int → (Int → (St → (Nat → Prop))))),
   (
    ∃ (m71 : Nat),
    (I70 a1 a2 s m71)
   ) ∧
   ∀ (n72 : Int) (n73 : Int) (s74 : St) (m75 : Nat),
   (I70 n72 n73 s74 m75) →
   bsel (decide (n72 < n73)) (
    ((0 : Int) ≤ 1) ∧
    ∀ (s76 : St),
    (Bump s74 12 s76) →
    ixsK 9 a0 a2 fun m77 m78 =>
    ∃ (t79 : ByteArray) (t80 : ByteArray) (n81 : Int) (n82 : Int) (n83 : Int) (n84 : Int) (n85 : Int) (n86 : Int) (x87 : AV),
    ((ldN s76 (AV.ptr m77 m78) 9) = (some [(AV.str t79), (AV.str t80), (AV.int .u64 n81), (AV.int .u64 n82), (AV.int .u64 n83), (AV.int .u64 n84), (AV.int .u64 n85), (AV.int .u64 n86), x87])) ∧
    ixsK 9 a0 (IntKind.wrap .i64 (Int.fdiv (IntKind.wrap .u64 (IntKind.wrap .i64 (n72 + n73))) (2 ^ 1))) fun m88 m89 =>
    ∃ (t90 : ByteArray) (t91 : ByteArray) (n92 : Int) (n93 : Int) (n94 : Int) (n95 : Int) (n96 : Int) (n97 : Int) (x98 : AV),
    ((ldN s76 (AV.ptr m88 m89) 9) = (some [(AV.str t90), (AV.str t91), (AV.int .u64 n92), (AV.int .u64 n93), (AV.int .u64 n94), (AV.int .u64 n95), (AV.int .u64 n96), (AV.int .u64 n97), x98])) ∧
    callK P D rt true s76 a4 [(AV.agg [(AV.str t79), (AV.str t80), (AV.int .u64 n81), (AV.int .u64 n82), (AV.int .u64 n83), (AV.int .u64 n84), (AV.int .u64 n85), (AV.int .u64 n86), x87]), (AV.agg [(AV.str t90), (AV.str t91), (AV.int .u64 n92), (AV.int .u64 n93), (AV.int .u64 n94), (AV.int .u64 n95), (AV.int .u64 n96), (AV.int .u64 n97), x98])] fun x99 s100 =>
    ∃ (n101 : Int),
    (x99 = (AV.int .i64 n101)) ∧
    bsel (! (decide (n101 < 0))) (
     ∃ (m102 : Nat),
     (m102 < m75) ∧
     (I70 (IntKind.wrap .i64 ((IntKind.wrap .i64 (Int.fdiv (IntKind.wrap .u64 (IntKind.wrap .i64 (n72 + n73))) (2 ^ 1))) + 1)) n73 s100 m102)
    ) (
     ∃ (m103 : Nat),
     (m103 < m75) ∧
     (I70 n72 (IntKind.wrap .i64 (Int.fdiv (IntKind.wrap .u64 (IntKind.wrap .i64 (n72 + n73))) (2 ^ 1))) s100 m103)
    )
   ) (
    ∃ (I104 : (Int → (St → (Nat → Prop)))),
    (
     ∃ (m105 : Nat),
     (I104 a2 s74 m105)
    ) ∧
    ∀ (n106 : Int) (s107 : St) (m108 : Nat),
    (I104 n106 s107 m108) →
    bsel (decide (n106 > n72)) (
     ∀ (s109 : St),
     (Bump s107 18 s109) →
     ixsK 9 a0 (IntKind.wrap .i64 (n106 - 1)) fun m110 m111 =>
     ∃ (t112 : ByteArray) (t113 : ByteArray) (n114 : Int) (n115 : Int) (n116 : Int) (n117 : Int) (n118 : Int) (n119 : Int) (x120 : AV),
     ((ldN s109 (AV.ptr m110 m111) 9) = (some [(AV.str t112), (AV.str t113), (AV.int .u64 n114), (AV.int .u64 n115), (AV.int .u64 n116), (AV.int .u64 n117), (AV.int .u64 n118), (AV.int .u64 n119), x120])) ∧
     ixsK 9 a0 n106 fun m121 m122 =>
     ∃ (t123 : ByteArray) (t124 : ByteArray) (n125 : Int) (n126 : Int) (n127 : Int) (n128 : Int) (n129 : Int) (n130 : Int) (x131 : AV),
     ((ldN s109 (AV.ptr m121 m122) 9) = (some [(AV.str t123), (AV.str t124), (AV.int .u64 n125), (AV.int .u64 n126), (AV.int .u64 n127), (AV.int .u64 n128), (AV.int .u64 n129), (AV.int .u64 n130), x131])) ∧
     ixsK 9 a0 n106 fun m132 m133 =>
     ∃ (s134 : St),
     ((wrN s109 (AV.ptr m132 m133) [(AV.str t112), (AV.str t113), (AV.int .u64 n114), (AV.int .u64 n115), (AV.int .u64 n116), (AV.int .u64 n117), (AV.int .u64 n118), (AV.int .u64 n119), x120]) = (some s134)) ∧
     ixsK 9 a0 (IntKind.wrap .i64 (n106 - 1)) fun m135 m136 =>
     ∃ (s137 : St),
     ((wrN s134 (AV.ptr m135 m136) [(AV.str t123), (AV.str t124), (AV.int .u64 n125), (AV.int .u64 n126), (AV.int .u64 n127), (AV.int .u64 n128), (AV.int .u64 n129), (AV.int .u64 n130), x131]) = (some s137)) ∧
     ∃ (m138 : Nat),
     (m138 < m108) ∧
     (I104 (IntKind.wrap .i64 (n106 - 1)) s137 m138)
    ) (
     (Q (AV.tuple []) s107)
    )
   )
  ) (
   ((0 : Int) ≤ 1) ∧
   ∃ (I139 : (Int → (Int → (St → (Nat → Prop))))),
   (
    bsel (decide (a2 > (IntKind.wrap .i64 (Int.fdiv (IntKind.wrap .u64 (IntKind.wrap .i64 (a1 + a3))) (2 ^ 1))))) (
     ∃ (m140 : Nat),
     (I139 (IntKind.wrap .i64 ((IntKind.wrap .i64 ((IntKind.wrap .i64 (Int.fdiv (IntKind.wrap .u64 (IntKind.wrap .i64 (a1 + a3))) (2 ^ 1))) + a2)) - a3)) (IntKind.wrap .i64 (Int.fdiv (IntKind.wrap .u64 (IntKind.wrap .i64 (a1 + a3))) (2 ^ 1))) s m140)
    ) (
     ∃ (m141 : Nat),
     (I139 a1 a2 s m141)
    )
   ) ∧
   ∀ (n142 : Int) (n143 : Int) (s144 : St) (m145 : Nat),
   (I139 n142 n143 s144 m145) →
   ∃ (I146 : (Int → (Int → (St → (Nat → Prop))))),
   (
    ∃ (m147 : Nat),
    (I146 n142 n143 s144 m147)
   ) ∧
   ∀ (n148 : Int) (n149 : Int) (s150 : St) (m151 : Nat),
   (I146 n148 n149 s150 m151) →
   bsel (decide (n148 < n149)) (
    ((0 : Int) ≤ 1) ∧
    ∀ (s152 : St),
    (Bump s150 14 s152) →
    ixsK 9 a0 (IntKind.wrap .i64 ((IntKind.wrap .i64 ((IntKind.wrap .i64 ((IntKind.wrap .i64 (Int.fdiv (IntKind.wrap .u64 (IntKind.wrap .i64 (a1 + a3))) (2 ^ 1))) + a2)) - 1)) - (IntKind.wrap .i64 (Int.fdiv (IntKind.wrap .u64 (IntKind.wrap .i64 (n148 + n149))) (2 ^ 1))))) fun m153 m154 =>
    ∃ (t155 : ByteArray) (t156 : ByteArray) (n157 : Int) (n158 : Int) (n159 : Int) (n160 : Int) (n161 : Int) (n162 : Int) (x163 : AV),
    ((ldN s152 (AV.ptr m153 m154) 9) = (some [(AV.str t155), (AV.str t156), (AV.int .u64 n157), (AV.int .u64 n158), (AV.int .u64 n159), (AV.int .u64 n160), (AV.int .u64 n161), (AV.int .u64 n162), x163])) ∧
    ixsK 9 a0 (IntKind.wrap .i64 (Int.fdiv (IntKind.wrap .u64 (IntKind.wrap .i64 (n148 + n149))) (2 ^ 1))) fun m164 m165 =>
    ∃ (t166 : ByteArray) (t167 : ByteArray) (n168 : Int) (n169 : Int) (n170 : Int) (n171 : Int) (n172 : Int) (n173 : Int) (x174 : AV),
    ((ldN s152 (AV.ptr m164 m165) 9) = (some [(AV.str t166), (AV.str t167), (AV.int .u64 n168), (AV.int .u64 n169), (AV.int .u64 n170), (AV.int .u64 n171), (AV.int .u64 n172), (AV.int .u64 n173), x174])) ∧
    callK P D rt true s152 a4 [(AV.agg [(AV.str t155), (AV.str t156), (AV.int .u64 n157), (AV.int .u64 n158), (AV.int .u64 n159), (AV.int .u64 n160), (AV.int .u64 n161), (AV.int .u64 n162), x163]), (AV.agg [(AV.str t166), (AV.str t167), (AV.int .u64 n168), (AV.int .u64 n169), (AV.int .u64 n170), (AV.int .u64 n171), (AV.int .u64 n172), (AV.int .u64 n173), x174])] fun x175 s176 =>
    ∃ (n177 : Int),
    (x175 = (AV.int .i64 n177)) ∧
    bsel (! (decide (n177 < 0))) (
     ∃ (m178 : Nat),
     (m178 < m151) ∧
     (I146 (IntKind.wrap .i64 ((IntKind.wrap .i64 (Int.fdiv (IntKind.wrap .u64 (IntKind.wrap .i64 (n148 + n149))) (2 ^ 1))) + 1)) n149 s176 m178)
    ) (
     ∃ (m179 : Nat),
     (m179 < m151) ∧
     (I146 n148 (IntKind.wrap .i64 (Int.fdiv (IntKind.wrap .u64 (IntKind.wrap .i64 (n148 + n149))) (2 ^ 1))) s176 m179)
    )
   ) (
    ∃ (I180 : (St → (Nat → Prop))),
    (
     ∃ (I181 : (Bool → (St → (Nat → Prop)))),
     (
      bsel (decide (n148 < a2)) (
       ∃ (m182 : Nat),
       (I181 (decide (a2 < (IntKind.wrap .i64 ((IntKind.wrap .i64 ((IntKind.wrap .i64 (Int.fdiv (IntKind.wrap .u64 (IntKind.wrap .i64 (a1 + a3))) (2 ^ 1))) + a2)) - n148)))) s150 m182)
      ) (
       ∃ (m183 : Nat),
       (I181 false s150 m183)
      )
     ) ∧
     ∀ (c184 : Bool) (s185 : St) (m186 : Nat),
     (I181 c184 s185 m186) →
     bsel c184 (
      CallsD P F.slices_rotateCmpFunc_api_EdgeTally [a0, (AV.int .i64 n148), (AV.int .i64 a2), (AV.int .i64 (IntKind.wrap .i64 ((IntKind.wrap .i64 ((IntKind.wrap .i64 (Int.fdiv (IntKind.wrap .u64 (IntKind.wrap .i64 (a1 + a3))) (2 ^ 1))) + a2)) - n148))), a4] s185 fun x187 s188 =>
      (x187 = (AV.tuple [])) ∧
      ∃ (m189 : Nat),
      (I180 s188 m189)
     ) (
      ∃ (m190 : Nat),
      (I180 s185 m190)
     )
    ) ∧
    ∀ (s191 : St) (m192 : Nat),
    (I180 s191 m192) →
    ∃ (I193 : (Bool → (St → (Nat → Prop)))),
    (
     bsel (decide (a1 < n148)) (
      ∃ (m194 : Nat),
      (I193 (decide (n148 < (IntKind.wrap .i64 (Int.fdiv (IntKind.wrap .u64 (IntKind.wrap .i64 (a1 + a3))) (2 ^ 1))))) s191 m194)
     ) (
      ∃ (m195 : Nat),
      (I193 false s191 m195)
     )
    ) ∧
    ∀ (c196 : Bool) (s197 : St) (m198 : Nat),
    (I193 c196 s197 m198) →
    bsel c196 (
     CallsD P F.slices_symMergeCmpFunc_api_EdgeTally [a0, (AV.int .i64 a1), (AV.int .i64 n148), (AV.int .i64 (IntKind.wrap .i64 (Int.fdiv (IntKind.wrap .u64 (IntKind.wrap .i64 (a1 + a3))) (2 ^ 1)))), a4] s197 fun x199 s200 =>
     (x199 = (AV.tuple [])) ∧
     ∃ (I201 : (Bool → (St → (Nat → Prop)))),
     (
      bsel (decide ((IntKind.wrap .i64 (Int.fdiv (IntKind.wrap .u64 (IntKind.wrap .i64 (a1 + a3))) (2 ^ 1))) < (IntKind.wrap .i64 ((IntKind.wrap .i64 ((IntKind.wrap .i64 (Int.fdiv (IntKind.wrap .u64 (IntKind.wrap .i64 (a1 + a3))) (2 ^ 1))) + a2)) - n148)))) (
       ∃ (m202 : Nat),
       (I201 (decide ((IntKind.wrap .i64 ((IntKind.wrap .i64 ((IntKind.wrap .i64 (Int.fdiv (IntKind.wrap .u64 (IntKind.wrap .i64 (a1 + a3))) (2 ^ 1))) + a2)) - n148)) < a3)) s200 m202)
      ) (
       ∃ (m203 : Nat),
       (I201 false s200 m203)
      )
     ) ∧
     ∀ (c204 : Bool) (s205 : St) (m206 : Nat),
     (I201 c204 s205 m206) →
     bsel c204 (
      CallsD P F.slices_symMergeCmpFunc_api_EdgeTally [a0, (AV.int .i64 (IntKind.wrap .i64 (Int.fdiv (IntKind.wrap .u64 (IntKind.wrap .i64 (a1 + a3))) (2 ^ 1)))), (AV.int .i64 (IntKind.wrap .i64 ((IntKind.wrap .i64 ((IntKind.wrap .i64 (Int.fdiv (IntKind.wrap .u64 (IntKind.wrap .i64 (a1 + a3))) (2 ^ 1))) + a2)) - n148))), (AV.int .i64 a3), a4] s205 fun x207 s208 =>
      (x207 = (AV.tuple [])) ∧
      (Q (AV.tuple []) s208)
     ) (
      (Q (AV.tuple []) s205)
     )
    ) (
     ∃ (I209 : (Bool → (St → (Nat → Prop)))),
     (
      bsel (decide ((IntKind.wrap .i64 (Int.fdiv (IntKind.wrap .u64 (IntKind.wrap .i64 (a1 + a3))) (2 ^ 1))) < (IntKind.wrap .i64 ((IntKind.wrap .i64 ((IntKind.wrap .i64 (Int.fdiv (IntKind.wrap .u64 (IntKind.wrap .i64 (a1 + a3))) (2 ^ 1))) + a2)) - n148)))) (
       ∃ (m210 : Nat),
       (I209 (decide ((IntKind.wrap .i64 ((IntKind.wrap .i64 ((IntKind.wrap .i64 (Int.fdiv (IntKind.wrap .u64 (IntKind.wrap .i64 (a1 + a3))) (2 ^ 1))) + a2)) - n148)) < a3)) s197 m210)
      ) (
       ∃ (m211 : Nat),
       (I209 false s197 m211)
      )
     ) ∧
     ∀ (c212 : Bool) (s213 : St) (m214 : Nat),
     (I209 c212 s213 m214) →
     bsel c212 (
      CallsD P F.slices_symMergeCmpFunc_api_EdgeTally [a0, (AV.int .i64 (IntKind.wrap .i64 (Int.fdiv (IntKind.wrap .u64 (IntKind.wrap .i64 (a1 + a3))) (2 ^ 1)))), (AV.int .i64 (IntKind.wrap .i64 ((IntKind.wrap .i64 ((IntKind.wrap .i64 (Int.fdiv (IntKind.wrap .u64 (IntKind.wrap .i64 (a1 + a3))) (2 ^ 1))) + a2)) - n148))), (AV.int .i64 a3), a4] s213 fun x215 s216 =>
      (x215 = (AV.tuple [])) ∧
      (Q (AV.tuple []) s216)
     ) (
      (Q (AV.tuple []) s213)
     )
    )
   )
  )
 )
set_option maxRecDepth 100000 in
theorem vc.slices_symMergeCmpFunc_api_EdgeTally_ok {a0 : AV} {a1 : Int} {a2 : Int} {a3 : Int} {a4 : AV} {s : St} {Q : AV → St → Prop} (h : vc.slices_symMergeCmpFunc_api_EdgeTally a0 a1 a2 a3 a4 s Q) : CallsD P F.slices_symMergeCmpFunc_api_EdgeTally [a0, .int .i64 a1, .int .i64 a2, .int .i64 a3, a4] s Q :=
 fnD_ok (C := C.slices_symMergeCmpFunc_api_EdgeTally) hD hX rfl mixes (fi := fnI Try.f70) (by kernel_rfl) (by kernel_rfl) (cast (by kernel_rfl : vc.slices_symMergeCmpFunc_api_EdgeTally a0 a1 a2 a3 a4 s Q = wpC P C.slices_symMergeCmpFunc_api_EdgeTally 1000000 (fnI Try.f70).body ⟨PT.setAll .nil 0 [a0, .int .i64 a1, .int .i64 a2, .int .i64 a3, a4], max [a0, .int .i64 a1, .int .i64 a2, .int .i64 a3, a4].length (fnI Try.f70).nt, s, []⟩ (endW C.slices_symMergeCmpFunc_api_EdgeTally (fnI Try.f70).results Q)) h)
end
end Go.Eng.S

namespace Go.Eng.S
open Go Go.Eng Go.Proofs
noncomputable section
def C.p_rollup_Rollup_Top : Cx := { D := D, rt := rt, its := [], lps := [] }
set_option maxRecDepth 100000 in
def vc.p_rollup_Rollup_Top (a0 : AV) (a1 : Int) (a2 : Int) (a3 : Int) (a4 : Int) (s : St) (Q : (AV → (St → Prop))) : Prop :=
 ∀ (m1 : Nat) (s2 : St),
 (NewO s (cellsO [(AV.int .i64 a3)]) m1 s2) →
 CallsA P F.p_rollup_Rollup_Range [a0, (AV.int .i64 a1), (AV.int .i64 a2)] s2 fun x3 s4 =>
 ∃ (x5 : AV) (n6 : Int),
 (x3 = (AV.tuple [x5, (AV.int .i64 n6)])) ∧
 bsel (n6 != 0) (
  (Q (AV.tuple [AV.nilslice, (AV.int .i64 n6)]) s4)
 ) (
  ∃ (n7 : Int),
  ((ld1 s4 (AV.ptr m1 0)) = (some (AV.int .i64 n7))) ∧
  bsel (decide (n7 < 0)) (
   (Q (AV.tuple [AV.nilslice, (AV.int .i64 1)]) s4)
  ) (
   ∃ (n8 : Int),
   ((ld1 s4 (AV.ptr m1 0)) = (some (AV.int .i64 n8))) ∧
   bsel (decide (n8 > 2)) (
    (Q (AV.tuple [AV.nilslice, (AV.int .i64 1)]) s4)
   ) (
    bsel (decide (a4 < 0)) (
     (Q (AV.tuple [AV.nilslice, (AV.int .i64 1)]) s4)
    ) (
     bsel (decide (a4 > 1000)) (
      (Q (AV.tuple [AV.nilslice, (AV.int .i64 1)]) s4)
     ) (
      CallsA P F.slices_SortStableFunc_sl_api_EdgeTally_api_EdgeTally [x5, (AV.func F.p_rollup_Rollup_Top_S1 [] [(AV.ptr m1 0)])] s4 fun x9 s10 =>
      (x9 = (AV.tuple [])) ∧
      slenK x5 fun m11 =>
      optK (sliceV 9 x5 none (some (AV.int .i64 (if (false = true) then (if (((m11 : Nat) : Int) > a4) then ((m11 : Nat) : Int) else a4) else (if (((m11 : Nat) : Int) < a4) then ((m11 : Nat) : Int) else a4)))) none) fun x12 =>
      CallsA P F.slices_Clip_sl_api_EdgeTally_api_EdgeTally [x12] s10 fun x13 s14 =>
      ∃ (x15 : AV),
      (x13 = x15) ∧
      (Q (AV.tuple [x15, (AV.int .i64 0)]) s14)
     )
    )
   )
  )
 )
set_option maxRecDepth 100000 in
theorem vc.p_rollup_Rollup_Top_ok {a0 : AV} {a1 : Int} {a2 : Int} {a3 : Int} {a4 : Int} {s : St} {Q : AV → St → Prop} (h : vc.p_rollup_Rollup_Top a0 a1 a2 a3 a4 s Q) : CallsA P F.p_rollup_Rollup_Top [a0, .int .i64 a1, .int .i64 a2, .int .i64 a3, .int .i64 a4] s Q :=
 fnB_ok (C := C.p_rollup_Rollup_Top) hD hX mixes (fi := fnI Try.f22) (by kernel_rfl) (by kernel_rfl) (cast (by kernel_rfl : vc.p_rollup_Rollup_Top a0 a1 a2 a3 a4 s Q = wpC P C.p_rollup_Rollup_Top 1000000 (fnI Try.f22).body ⟨PT.setAll .nil 0 [a0, .int .i64 a1, .int .i64 a2, .int .i64 a3, .int .i64 a4], max [a0, .int .i64 a1, .int .i64 a2, .int .i64 a3, .int .i64 a4].length (fnI Try.f22).nt, s, []⟩ (endW C.p_rollup_Rollup_Top (fnI Try.f22).results Q)) h)
def C.spoorlaw15_falls : Cx := { D := D, rt := rt, its := [], lps := [], det := true, jns := [(51, [19, 18, 17, 20, 21, 22, 15, 16], [], []), (75, [27, 26, 25, 28, 29, 30, 23, 24], [], [])] }
set_option maxRecDepth 100000 in
def vc.spoorlaw15_falls (a0_0 : ByteArray) (a0_1 : ByteArray) (a0_2 : Int) (a0_3 : Int) (a0_4 : Int) (a0_5 : Int) (a0_6 : Int) (a0_7 : Int) (a0_8 : AV) (a1_0 : ByteArray) (a1_1 : ByteArray) (a1_2 : Int) (a1_3 : Int) (a1_4 : Int) (a1_5 : Int) (a1_6 : Int) (a1_7 : Int) (a1_8 : AV) (a2 : Int) (s : St) (Q : (AV → (St → Prop))) : Prop :=
 ∀ (m1 : Nat) (s2 : St),
 (NewO s (cellsO [(AV.str a0_0), (AV.str a0_1), (AV.int .u64 a0_2), (AV.int .u64 a0_3), (AV.int .u64 a0_4), (AV.int .u64 a0_5), (AV.int .u64 a0_6), (AV.int .u64 a0_7), a0_8]) m1 s2) →
 ∀ (m3 : Nat) (s4 : St),
 (NewO s2 (cellsO [(AV.str a1_0), (AV.str a1_1), (AV.int .u64 a1_2), (AV.int .u64 a1_3), (AV.int .u64 a1_4), (AV.int .u64 a1_5), (AV.int .u64 a1_6), (AV.int .u64 a1_7), a1_8]) m3 s4) →
 ∃ (n5 : Int) (n6 : Int),
 ((ldN s4 (AV.ptr m1 2) 2) = (some [(AV.int .u64 n5), (AV.int .u64 n6)])) ∧
 ∀ (m7 : Nat) (s8 : St),
 (NewO s4 (cellsO [(AV.int .u64 0), (AV.int .u64 0)]) m7 s8) →
 ∃ (s9 : St),
 ((wrN s8 (AV.ptr m7 0) [(AV.int .u64 n5), (AV.int .u64 n6)]) = (some s9)) ∧
 ∃ (n10 : Int) (n11 : Int),
 ((ldN s9 (AV.ptr m3 2) 2) = (some [(AV.int .u64 n10), (AV.int .u64 n11)])) ∧
 ∀ (m12 : Nat) (s13 : St),
 (NewO s9 (cellsO [(AV.int .u64 0), (AV.int .u64 0)]) m12 s13) →
 ∃ (s14 : St),
 ((wrN s13 (AV.ptr m12 0) [(AV.int .u64 n10), (AV.int .u64 n11)]) = (some s14)) ∧
 ∃ (I15 : (St → (Nat → Prop))),
 (
  bsel (a2 == 1) (
   ∃ (n16 : Int) (n17 : Int),
   ((ldN s14 (AV.ptr m1 4) 2) = (some [(AV.int .u64 n16), (AV.int .u64 n17)])) ∧
   ∃ (s18 : St),
   ((wrN s14 (AV.ptr m7 0) [(AV.int .u64 n16), (AV.int .u64 n17)]) = (some s18)) ∧
   ∃ (n19 : Int) (n20 : Int),
   ((ldN s18 (AV.ptr m3 4) 2) = (some [(AV.int .u64 n19), (AV.int .u64 n20)])) ∧
   ∃ (s21 : St),
   ((wrN s18 (AV.ptr m12 0) [(AV.int .u64 n19), (AV.int .u64 n20)]) = (some s21)) ∧
   ∃ (m22 : Nat),
   (I15 s21 m22)
  ) (
   ∃ (m23 : Nat),
   (I15 s14 m23)
  )
 ) ∧
 ∀ (s24 : St) (m25 : Nat),
 (I15 s24 m25) →
 ∃ (I26 : (St → (Nat → Prop))),
 (
  bsel (a2 == 2) (
   ∃ (n27 : Int) (n28 : Int),
   ((ldN s24 (AV.ptr m1 6) 2) = (some [(AV.int .u64 n27), (AV.int .u64 n28)])) ∧
   ∃ (s29 : St),
   ((wrN s24 (AV.ptr m7 0) [(AV.int .u64 n27), (AV.int .u64 n28)]) = (some s29)) ∧
   ∃ (n30 : Int) (n31 : Int),
   ((ldN s29 (AV.ptr m3 6) 2) = (some [(AV.int .u64 n30), (AV.int .u64 n31)])) ∧
   ∃ (s32 : St),
   ((wrN s29 (AV.ptr m12 0) [(AV.int .u64 n30), (AV.int .u64 n31)]) = (some s32)) ∧
   ∃ (m33 : Nat),
   (I26 s32 m33)
  ) (
   ∃ (m34 : Nat),
   (I26 s24 m34)
  )
 ) ∧
 ∀ (s35 : St) (m36 : Nat),
 (I26 s35 m36) →
 ∃ (n37 : Int) (n38 : Int),
 ((ldN s35 (AV.ptr m7 0) 2) = (some [(AV.int .u64 n37), (AV.int .u64 n38)])) ∧
 ∃ (n39 : Int) (n40 : Int),
 ((ldN s35 (AV.ptr m12 0) 2) = (some [(AV.int .u64 n39), (AV.int .u64 n40)])) ∧
 bsel (if (false = true) then ((n37 == n39) && ((n38 == n40) && true)) else (! ((n37 == n39) && ((n38 == n40) && true)))) (
  ∃ (n41 : Int),
  ((ld1 s35 (AV.ptr m7 0)) = (some (AV.int .u64 n41))) ∧
  ∃ (n42 : Int),
  ((ld1 s35 (AV.ptr m12 0)) = (some (AV.int .u64 n42))) ∧
  bsel (decide (n41 > n42)) (
   (Q (AV.bool true) s35)
  ) (
   ∃ (n43 : Int),
   ((ld1 s35 (AV.ptr m7 0)) = (some (AV.int .u64 n43))) ∧
   ∃ (n44 : Int),
   ((ld1 s35 (AV.ptr m12 0)) = (some (AV.int .u64 n44))) ∧
   bsel (n43 == n44) (
    ∃ (n45 : Int),
    ((ld1 s35 (AV.ptr m7 1)) = (some (AV.int .u64 n45))) ∧
    ∃ (n46 : Int),
    ((ld1 s35 (AV.ptr m12 1)) = (some (AV.int .u64 n46))) ∧
    (Q (AV.bool (decide (n45 > n46))) s35)
   ) (
    (Q (AV.bool false) s35)
   )
  )
 ) (
  ∃ (t47 : ByteArray) (t48 : ByteArray),
  ((ldN s35 (AV.ptr m1 0) 2) = (some [(AV.str t47), (AV.str t48)])) ∧
  ∃ (t49 : ByteArray) (t50 : ByteArray),
  ((ldN s35 (AV.ptr m3 0) 2) = (some [(AV.str t49), (AV.str t50)])) ∧
  CallsD P F.spoorref15_EdgeLess [(AV.agg [(AV.str t47), (AV.str t48)]), (AV.agg [(AV.str t49), (AV.str t50)])] s35 fun x51 s52 =>
  ∃ (c53 : Bool),
  (x51 = (AV.bool c53)) ∧
  (Q (AV.bool c53) s52)
 )
set_option maxRecDepth 100000 in
theorem vc.spoorlaw15_falls_ok {a0_0 : ByteArray} {a0_1 : ByteArray} {a0_2 : Int} {a0_3 : Int} {a0_4 : Int} {a0_5 : Int} {a0_6 : Int} {a0_7 : Int} {a0_8 : AV} {a1_0 : ByteArray} {a1_1 : ByteArray} {a1_2 : Int} {a1_3 : Int} {a1_4 : Int} {a1_5 : Int} {a1_6 : Int} {a1_7 : Int} {a1_8 : AV} {a2 : Int} {s : St} {Q : AV → St → Prop} (h : vc.spoorlaw15_falls a0_0 a0_1 a0_2 a0_3 a0_4 a0_5 a0_6 a0_7 a0_8 a1_0 a1_1 a1_2 a1_3 a1_4 a1_5 a1_6 a1_7 a1_8 a2 s Q) : CallsD P F.spoorlaw15_falls [.agg [.str a0_0, .str a0_1, .int .u64 a0_2, .int .u64 a0_3, .int .u64 a0_4, .int .u64 a0_5, .int .u64 a0_6, .int .u64 a0_7, a0_8], .agg [.str a1_0, .str a1_1, .int .u64 a1_2, .int .u64 a1_3, .int .u64 a1_4, .int .u64 a1_5, .int .u64 a1_6, .int .u64 a1_7, a1_8], .int .i64 a2] s Q :=
 fnD_ok (C := C.spoorlaw15_falls) hD hX rfl mixes (fi := fnI Try.f24) (by kernel_rfl) (by kernel_rfl) (cast (by kernel_rfl : vc.spoorlaw15_falls a0_0 a0_1 a0_2 a0_3 a0_4 a0_5 a0_6 a0_7 a0_8 a1_0 a1_1 a1_2 a1_3 a1_4 a1_5 a1_6 a1_7 a1_8 a2 s Q = wpC P C.spoorlaw15_falls 1000000 (fnI Try.f24).body ⟨PT.setAll .nil 0 [.agg [.str a0_0, .str a0_1, .int .u64 a0_2, .int .u64 a0_3, .int .u64 a0_4, .int .u64 a0_5, .int .u64 a0_6, .int .u64 a0_7, a0_8], .agg [.str a1_0, .str a1_1, .int .u64 a1_2, .int .u64 a1_3, .int .u64 a1_4, .int .u64 a1_5, .int .u64 a1_6, .int .u64 a1_7, a1_8], .int .i64 a2], max [.agg [.str a0_0, .str a0_1, .int .u64 a0_2, .int .u64 a0_3, .int .u64 a0_4, .int .u64 a0_5, .int .u64 a0_6, .int .u64 a0_7, a0_8], .agg [.str a1_0, .str a1_1, .int .u64 a1_2, .int .u64 a1_3, .int .u64 a1_4, .int .u64 a1_5, .int .u64 a1_6, .int .u64 a1_7, a1_8], .int .i64 a2].length (fnI Try.f24).nt, s, []⟩ (endW C.spoorlaw15_falls (fnI Try.f24).results Q)) h)
def C.p_rollup_Rollup_Top_S1 : Cx := { D := D, rt := rt, its := [], lps := [], det := true }
set_option maxRecDepth 100000 in
def vc.p_rollup_Rollup_Top_S1 (a0_0 : ByteArray) (a0_1 : ByteArray) (a0_2 : Int) (a0_3 : Int) (a0_4 : Int) (a0_5 : Int) (a0_6 : Int) (a0_7 : Int) (a0_8 : AV) (a1_0 : ByteArray) (a1_1 : ByteArray) (a1_2 : Int) (a1_3 : Int) (a1_4 : Int) (a1_5 : Int) (a1_6 : Int) (a1_7 : Int) (a1_8 : AV) (c0 : AV) (s : St) (Q : (AV → (St → Prop))) : Prop :=
 ∀ (m1 : Nat) (s2 : St),
 (NewO s (cellsO [(AV.str a0_0), (AV.str a0_1), (AV.int .u64 a0_2), (AV.int .u64 a0_3), (AV.int .u64 a0_4), (AV.int .u64 a0_5), (AV.int .u64 a0_6), (AV.int .u64 a0_7), a0_8]) m1 s2) →
 ∀ (m3 : Nat) (s4 : St),
 (NewO s2 (cellsO [(AV.str a1_0), (AV.str a1_1), (AV.int .u64 a1_2), (AV.int .u64 a1_3), (AV.int .u64 a1_4), (AV.int .u64 a1_5), (AV.int .u64 a1_6), (AV.int .u64 a1_7), a1_8]) m3 s4) →
 ∀ (s5 : St),
 (Bump s4 10 s5) →
 ∃ (n6 : Int) (n7 : Int) (n8 : Int) (n9 : Int) (n10 : Int) (n11 : Int) (x12 : AV),
 ((ldN s5 (AV.ptr m3 2) 7) = (some [(AV.int .u64 n6), (AV.int .u64 n7), (AV.int .u64 n8), (AV.int .u64 n9), (AV.int .u64 n10), (AV.int .u64 n11), x12])) ∧
 ∃ (n13 : Int),
 ((ld1 s5 c0) = (some (AV.int .i64 n13))) ∧
 CallsD P F.rollup_number [(AV.agg [(AV.int .u64 n6), (AV.int .u64 n7), (AV.int .u64 n8), (AV.int .u64 n9), (AV.int .u64 n10), (AV.int .u64 n11), x12]), (AV.int .i64 n13)] s5 fun x14 s15 =>
 ∃ (n16 : Int) (n17 : Int),
 (x14 = (AV.agg [(AV.int .u64 n16), (AV.int .u64 n17)])) ∧
 ∃ (n18 : Int) (n19 : Int) (n20 : Int) (n21 : Int) (n22 : Int) (n23 : Int) (x24 : AV),
 ((ldN s15 (AV.ptr m1 2) 7) = (some [(AV.int .u64 n18), (AV.int .u64 n19), (AV.int .u64 n20), (AV.int .u64 n21), (AV.int .u64 n22), (AV.int .u64 n23), x24])) ∧
 ((ldN s5 (AV.ptr m1 2) 7) = (some [(AV.int .u64 n18), (AV.int .u64 n19), (AV.int .u64 n20), (AV.int .u64 n21), (AV.int .u64 n22), (AV.int .u64 n23), x24])) ∧
 ∃ (n25 : Int),
 ((ld1 s15 c0) = (some (AV.int .i64 n25))) ∧
 ((ld1 s5 c0) = (some (AV.int .i64 n25))) ∧
 CallsD P F.rollup_number [(AV.agg [(AV.int .u64 n18), (AV.int .u64 n19), (AV.int .u64 n20), (AV.int .u64 n21), (AV.int .u64 n22), (AV.int .u64 n23), x24]), (AV.int .i64 n25)] s15 fun x26 s27 =>
 ∃ (n28 : Int) (n29 : Int),
 (x26 = (AV.agg [(AV.int .u64 n28), (AV.int .u64 n29)])) ∧
 CallsD P F.rollup_nat [(AV.agg [(AV.int .u64 n16), (AV.int .u64 n17)]), (AV.agg [(AV.int .u64 n28), (AV.int .u64 n29)])] s27 fun x30 s31 =>
 ∃ (n32 : Int),
 (x30 = (AV.int .i64 n32)) ∧
 (Q (AV.int .i64 n32) s31)
set_option maxRecDepth 100000 in
theorem vc.p_rollup_Rollup_Top_S1_ok {a0_0 : ByteArray} {a0_1 : ByteArray} {a0_2 : Int} {a0_3 : Int} {a0_4 : Int} {a0_5 : Int} {a0_6 : Int} {a0_7 : Int} {a0_8 : AV} {a1_0 : ByteArray} {a1_1 : ByteArray} {a1_2 : Int} {a1_3 : Int} {a1_4 : Int} {a1_5 : Int} {a1_6 : Int} {a1_7 : Int} {a1_8 : AV} {c0 : AV} {s : St} {Q : AV → St → Prop} (h : vc.p_rollup_Rollup_Top_S1 a0_0 a0_1 a0_2 a0_3 a0_4 a0_5 a0_6 a0_7 a0_8 a1_0 a1_1 a1_2 a1_3 a1_4 a1_5 a1_6 a1_7 a1_8 c0 s Q) : CallsD P F.p_rollup_Rollup_Top_S1 [.agg [.str a0_0, .str a0_1, .int .u64 a0_2, .int .u64 a0_3, .int .u64 a0_4, .int .u64 a0_5, .int .u64 a0_6, .int .u64 a0_7, a0_8], .agg [.str a1_0, .str a1_1, .int .u64 a1_2, .int .u64 a1_3, .int .u64 a1_4, .int .u64 a1_5, .int .u64 a1_6, .int .u64 a1_7, a1_8], c0] s Q :=
 fnD_ok (C := C.p_rollup_Rollup_Top_S1) hD hX rfl mixes (fi := fnI Try.f38) (by kernel_rfl) (by kernel_rfl) (cast (by kernel_rfl : vc.p_rollup_Rollup_Top_S1 a0_0 a0_1 a0_2 a0_3 a0_4 a0_5 a0_6 a0_7 a0_8 a1_0 a1_1 a1_2 a1_3 a1_4 a1_5 a1_6 a1_7 a1_8 c0 s Q = wpC P C.p_rollup_Rollup_Top_S1 1000000 (fnI Try.f38).body ⟨PT.setAll .nil 0 [.agg [.str a0_0, .str a0_1, .int .u64 a0_2, .int .u64 a0_3, .int .u64 a0_4, .int .u64 a0_5, .int .u64 a0_6, .int .u64 a0_7, a0_8], .agg [.str a1_0, .str a1_1, .int .u64 a1_2, .int .u64 a1_3, .int .u64 a1_4, .int .u64 a1_5, .int .u64 a1_6, .int .u64 a1_7, a1_8], c0], max [.agg [.str a0_0, .str a0_1, .int .u64 a0_2, .int .u64 a0_3, .int .u64 a0_4, .int .u64 a0_5, .int .u64 a0_6, .int .u64 a0_7, a0_8], .agg [.str a1_0, .str a1_1, .int .u64 a1_2, .int .u64 a1_3, .int .u64 a1_4, .int .u64 a1_5, .int .u64 a1_6, .int .u64 a1_7, a1_8], c0].length (fnI Try.f38).nt, s, []⟩ (endW C.p_rollup_Rollup_Top_S1 (fnI Try.f38).results Q)) h)
def C.rollup_nat : Cx := { D := D, rt := rt, its := [], lps := [], det := true }
set_option maxRecDepth 100000 in
def vc.rollup_nat (a0_0 : Int) (a0_1 : Int) (a1_0 : Int) (a1_1 : Int) (s : St) (Q : (AV → (St → Prop))) : Prop :=
 ∀ (m1 : Nat) (s2 : St),
 (NewO s (cellsO [(AV.int .u64 a0_0), (AV.int .u64 a0_1)]) m1 s2) →
 ∀ (m3 : Nat) (s4 : St),
 (NewO s2 (cellsO [(AV.int .u64 a1_0), (AV.int .u64 a1_1)]) m3 s4) →
 ∀ (s5 : St),
 (Bump s4 13 s5) →
 ∃ (n6 : Int),
 ((ld1 s5 (AV.ptr m1 0)) = (some (AV.int .u64 n6))) ∧
 ∃ (n7 : Int),
 ((ld1 s5 (AV.ptr m3 0)) = (some (AV.int .u64 n7))) ∧
 CallsD P F.cmp_Compare_uint64 [(AV.int .u64 n6), (AV.int .u64 n7)] s5 fun x8 s9 =>
 ∃ (n10 : Int),
 (x8 = (AV.int .i64 n10)) ∧
 ∃ (n11 : Int),
 ((ld1 s9 (AV.ptr m1 1)) = (some (AV.int .u64 n11))) ∧
 ((ld1 s5 (AV.ptr m1 1)) = (some (AV.int .u64 n11))) ∧
 ∃ (n12 : Int),
 ((ld1 s9 (AV.ptr m3 1)) = (some (AV.int .u64 n12))) ∧
 ((ld1 s5 (AV.ptr m3 1)) = (some (AV.int .u64 n12))) ∧
 CallsD P F.cmp_Compare_uint64 [(AV.int .u64 n11), (AV.int .u64 n12)] s9 fun x13 s14 =>
 ∃ (n15 : Int),
 (x13 = (AV.int .i64 n15)) ∧
 CallsD P F.cmp_Or_int [(AV.slice ((St.nx s4) + 10) 0 2 (ACap.exact 2))] (hsetS s14 ((St.nx s4) + 10) (cellsO [(AV.int .i64 n10), (AV.int .i64 n15)])) fun x16 s17 =>
 ∃ (n18 : Int),
 (x16 = (AV.int .i64 n18)) ∧
 (Q (AV.int .i64 n18) s17)
set_option maxRecDepth 100000 in
theorem vc.rollup_nat_ok {a0_0 : Int} {a0_1 : Int} {a1_0 : Int} {a1_1 : Int} {s : St} {Q : AV → St → Prop} (h : vc.rollup_nat a0_0 a0_1 a1_0 a1_1 s Q) : CallsD P F.rollup_nat [.agg [.int .u64 a0_0, .int .u64 a0_1], .agg [.int .u64 a1_0, .int .u64 a1_1]] s Q :=
 fnD_ok (C := C.rollup_nat) hD hX rfl mixes (fi := fnI Try.f39) (by kernel_rfl) (by kernel_rfl) (cast (by kernel_rfl : vc.rollup_nat a0_0 a0_1 a1_0 a1_1 s Q = wpC P C.rollup_nat 1000000 (fnI Try.f39).body ⟨PT.setAll .nil 0 [.agg [.int .u64 a0_0, .int .u64 a0_1], .agg [.int .u64 a1_0, .int .u64 a1_1]], max [.agg [.int .u64 a0_0, .int .u64 a0_1], .agg [.int .u64 a1_0, .int .u64 a1_1]].length (fnI Try.f39).nt, s, []⟩ (endW C.rollup_nat (fnI Try.f39).results Q)) h)
def C.rollup_number : Cx := { D := D, rt := rt, its := [], lps := [], det := true }
set_option maxRecDepth 100000 in
def vc.rollup_number (a0_0 : Int) (a0_1 : Int) (a0_2 : Int) (a0_3 : Int) (a0_4 : Int) (a0_5 : Int) (a0_6 : AV) (a1 : Int) (s : St) (Q : (AV → (St → Prop))) : Prop :=
 ∀ (m1 : Nat) (s2 : St),
 (NewO s (cellsO [(AV.int .u64 a0_0), (AV.int .u64 a0_1), (AV.int .u64 a0_2), (AV.int .u64 a0_3), (AV.int .u64 a0_4), (AV.int .u64 a0_5), a0_6]) m1 s2) →
 ∀ (m3 : Nat) (s4 : St),
 (NewO s2 (cellsO [(AV.int .u64 0), (AV.int .u64 0)]) m3 s4) →
 ∃ (n5 : Int) (n6 : Int),
 ((ldN s4 (AV.ptr m1 0) 2) = (some [(AV.int .u64 n5), (AV.int .u64 n6)])) ∧
 ∃ (n7 : Int) (n8 : Int),
 ((ldN s4 (AV.ptr m1 2) 2) = (some [(AV.int .u64 n7), (AV.int .u64 n8)])) ∧
 ∃ (n9 : Int) (n10 : Int),
 ((ldN s4 (AV.ptr m1 4) 2) = (some [(AV.int .u64 n9), (AV.int .u64 n10)])) ∧
 ∃ (n11 : Int) (n12 : Int),
 ((indexA D T.y3_api_Nat_113 (AV.agg [(AV.int .u64 n5), (AV.int .u64 n6), (AV.int .u64 n7), (AV.int .u64 n8), (AV.int .u64 n9), (AV.int .u64 n10)]) (AV.int .i64 a1)) = (some (AV.agg [(AV.int .u64 n11), (AV.int .u64 n12)]))) ∧
 ∃ (s13 : St),
 ((wrN s4 (AV.ptr m3 0) [(AV.int .u64 n11), (AV.int .u64 n12)]) = (some s13)) ∧
 ∃ (n14 : Int) (n15 : Int),
 ((ldN s13 (AV.ptr m3 0) 2) = (some [(AV.int .u64 n14), (AV.int .u64 n15)])) ∧
 (Q (AV.agg [(AV.int .u64 n14), (AV.int .u64 n15)]) s13)
set_option maxRecDepth 100000 in
theorem vc.rollup_number_ok {a0_0 : Int} {a0_1 : Int} {a0_2 : Int} {a0_3 : Int} {a0_4 : Int} {a0_5 : Int} {a0_6 : AV} {a1 : Int} {s : St} {Q : AV → St → Prop} (h : vc.rollup_number a0_0 a0_1 a0_2 a0_3 a0_4 a0_5 a0_6 a1 s Q) : CallsD P F.rollup_number [.agg [.int .u64 a0_0, .int .u64 a0_1, .int .u64 a0_2, .int .u64 a0_3, .int .u64 a0_4, .int .u64 a0_5, a0_6], .int .i64 a1] s Q :=
 fnD_ok (C := C.rollup_number) hD hX rfl mixes (fi := fnI Try.f40) (by kernel_rfl) (by kernel_rfl) (cast (by kernel_rfl : vc.rollup_number a0_0 a0_1 a0_2 a0_3 a0_4 a0_5 a0_6 a1 s Q = wpC P C.rollup_number 1000000 (fnI Try.f40).body ⟨PT.setAll .nil 0 [.agg [.int .u64 a0_0, .int .u64 a0_1, .int .u64 a0_2, .int .u64 a0_3, .int .u64 a0_4, .int .u64 a0_5, a0_6], .int .i64 a1], max [.agg [.int .u64 a0_0, .int .u64 a0_1, .int .u64 a0_2, .int .u64 a0_3, .int .u64 a0_4, .int .u64 a0_5, a0_6], .int .i64 a1].length (fnI Try.f40).nt, s, []⟩ (endW C.rollup_number (fnI Try.f40).results Q)) h)
def C.slices_Clip_sl_api_EdgeTally_api_EdgeTally : Cx := { D := D, rt := rt, its := [], lps := [], det := true }
set_option maxRecDepth 100000 in
def vc.slices_Clip_sl_api_EdgeTally_api_EdgeTally (a0 : AV) (s : St) (Q : (AV → (St → Prop))) : Prop :=
 slenK a0 fun m1 =>
 slenK a0 fun m2 =>
 optK (sliceV 9 a0 none (some (AV.int .i64 ((m1 : Nat) : Int))) (some (AV.int .i64 ((m2 : Nat) : Int)))) fun x3 =>
 (Q x3 s)
set_option maxRecDepth 100000 in
theorem vc.slices_Clip_sl_api_EdgeTally_api_EdgeTally_ok {a0 : AV} {s : St} {Q : AV → St → Prop} (h : vc.slices_Clip_sl_api_EdgeTally_api_EdgeTally a0 s Q) : CallsD P F.slices_Clip_sl_api_EdgeTally_api_EdgeTally [a0] s Q :=
 fnD_ok (C := C.slices_Clip_sl_api_EdgeTally_api_EdgeTally) hD hX rfl mixes (fi := fnI Try.f41) (by kernel_rfl) (by kernel_rfl) (cast (by kernel_rfl : vc.slices_Clip_sl_api_EdgeTally_api_EdgeTally a0 s Q = wpC P C.slices_Clip_sl_api_EdgeTally_api_EdgeTally 1000000 (fnI Try.f41).body ⟨PT.setAll .nil 0 [a0], max [a0].length (fnI Try.f41).nt, s, []⟩ (endW C.slices_Clip_sl_api_EdgeTally_api_EdgeTally (fnI Try.f41).results Q)) h)
def C.cmp_Compare_uint64 : Cx := { D := D, rt := rt, its := [], lps := [], det := true }
set_option maxRecDepth 100000 in
def vc.cmp_Compare_uint64 (a0 : Int) (a1 : Int) (s : St) (Q : (AV → (St → Prop))) : Prop :=
 CallsD P F.cmp_isNaN_uint64 [(AV.int .u64 a0)] s fun x1 s2 =>
 ∃ (c3 : Bool),
 (x1 = (AV.bool c3)) ∧
 CallsD P F.cmp_isNaN_uint64 [(AV.int .u64 a1)] s2 fun x4 s5 =>
 ∃ (c6 : Bool),
 (x4 = (AV.bool c6)) ∧
 bsel c3 (
  bsel c6 (
   (Q (AV.int .i64 0) s5)
  ) (
   (Q (AV.int .i64 (-1)) s5)
  )
 ) (
  bsel c6 (
   (Q (AV.int .i64 1) s5)
  ) (
   bsel (decide (a0 < a1)) (
    (Q (AV.int .i64 (-1)) s5)
   ) (
    bsel (decide (a0 > a1)) (
     (Q (AV.int .i64 1) s5)
    ) (
     (Q (AV.int .i64 0) s5)
    )
   )
  )
 )
set_option maxRecDepth 100000 in
theorem vc.cmp_Compare_uint64_ok {a0 : Int} {a1 : Int} {s : St} {Q : AV → St → Prop} (h : vc.cmp_Compare_uint64 a0 a1 s Q) : CallsD P F.cmp_Compare_uint64 [.int .u64 a0, .int .u64 a1] s Q :=
 fnD_ok (C := C.cmp_Compare_uint64) hD hX rfl mixes (fi := fnI Try.f57) (by kernel_rfl) (by kernel_rfl) (cast (by kernel_rfl : vc.cmp_Compare_uint64 a0 a1 s Q = wpC P C.cmp_Compare_uint64 1000000 (fnI Try.f57).body ⟨PT.setAll .nil 0 [.int .u64 a0, .int .u64 a1], max [.int .u64 a0, .int .u64 a1].length (fnI Try.f57).nt, s, []⟩ (endW C.cmp_Compare_uint64 (fnI Try.f57).results Q)) h)
def C.cmp_isNaN_uint64 : Cx := { D := D, rt := rt, its := [], lps := [], det := true }
set_option maxRecDepth 100000 in
def vc.cmp_isNaN_uint64 (a0 : Int) (s : St) (Q : (AV → (St → Prop))) : Prop :=
 (Q (AV.bool (a0 != a0)) s)
set_option maxRecDepth 100000 in
theorem vc.cmp_isNaN_uint64_ok {a0 : Int} {s : St} {Q : AV → St → Prop} (h : vc.cmp_isNaN_uint64 a0 s Q) : CallsD P F.cmp_isNaN_uint64 [.int .u64 a0] s Q :=
 fnD_ok (C := C.cmp_isNaN_uint64) hD hX rfl mixes (fi := fnI Try.f71) (by kernel_rfl) (by kernel_rfl) (cast (by kernel_rfl : vc.cmp_isNaN_uint64 a0 s Q = wpC P C.cmp_isNaN_uint64 1000000 (fnI Try.f71).body ⟨PT.setAll .nil 0 [.int .u64 a0], max [.int .u64 a0].length (fnI Try.f71).nt, s, []⟩ (endW C.cmp_isNaN_uint64 (fnI Try.f71).results Q)) h)
end
end Go.Eng.S

