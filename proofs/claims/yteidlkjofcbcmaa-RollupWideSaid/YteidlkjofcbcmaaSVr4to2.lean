/-
  What is to be shown of functions of the program, and that it suffices.
  What is to be shown of functions of the program, and that it suffices.
  What is to be shown of functions of the program, and that it suffices.
  What is to be shown of functions of the program, and that it suffices.
  What is to be shown of functions of the program, and that it suffices.
-/
import Derived.Test.YteidlkjofcbcmaaSDefs
namespace Go.Eng.S
open Go Go.Eng Go.Proofs
noncomputable section
def C.spoorlaw15_filled : Cx := { D := D, rt := rt, its := [], lps := [(0, [41, 40, 39, 38, 37, 36, 35, 34, 33, 32, 31, 30, 29, 28, 27, 26, 25, 23, 24, 7, 15, 16, 17, 18, 19, 20, 21, 22], [7])], det := true }
set_option maxRecDepth 100000 in
def vc.spoorlaw15_filled (a0 : Int) (a1 : AV) (s : St) (Q : (AV → (St → Prop))) : Prop :=
 CallsD P F.rollup_New [(AV.int .i64 a0)] s fun x1 s2 =>
 ∃ (x3 : AV) (n4 : Int),
 (x1 = (AV.tuple [x3, (AV.int .i64 n4)])) ∧
 bsel (n4 != 0) (
  (Q AV.nilptr s2)
 ) (
  ∃ (I5 : (Int → (St → (Nat → Prop)))),
  (
   ∃ (m6 : Nat),
   (I5 0 s2 m6)
  ) ∧
  ∀ (n7 : Int) (s8 : St) (m9 : Nat),
  (I5 n7 s8 m9) →
  slenK a1 fun m10 =>
  bsel (decide (n7 < ((m10 : Nat) : Int))) (
   nilK (TD.ptr 83) x3 false fun c11 =>
   bsel c11 (
    ∀ (s12 : St),
    (Bump s8 17 s12) →
    ixsK 10 a1 n7 fun m13 m14 =>
    ∃ (n15 : Int),
    ((ld1 s12 (AV.ptr m13 m14)) = (some (AV.int .i64 n15))) ∧
    ixsK 10 a1 n7 fun m16 m17 =>
    ∃ (t18 : ByteArray) (t19 : ByteArray),
    ((ldN s12 (AV.ptr m16 (m17 + 1)) 2) = (some [(AV.str t18), (AV.str t19)])) ∧
    ixsK 10 a1 n7 fun m20 m21 =>
    ∃ (n22 : Int) (n23 : Int) (n24 : Int) (n25 : Int) (n26 : Int) (n27 : Int) (x28 : AV),
    ((ldN s12 (AV.ptr m20 (m21 + 3)) 7) = (some [(AV.int .u64 n22), (AV.int .u64 n23), (AV.int .u64 n24), (AV.int .u64 n25), (AV.int .u64 n26), (AV.int .u64 n27), x28])) ∧
    CallsD P F.p_rollup_Rollup_Put [x3, (AV.int .i64 n15), (AV.agg [(AV.str t18), (AV.str t19)]), (AV.agg [(AV.int .u64 n22), (AV.int .u64 n23), (AV.int .u64 n24), (AV.int .u64 n25), (AV.int .u64 n26), (AV.int .u64 n27), x28])] s12 fun x29 s30 =>
    ∃ (n31 : Int),
    (x29 = (AV.int .i64 n31)) ∧
    ∃ (m32 : Nat),
    (m32 < m9) ∧
    (I5 (IntKind.wrap .i64 (n7 + 1)) s30 m32)
   ) (
    (Q x3 s8)
   )
  ) (
   (Q x3 s8)
  )
 )
set_option maxRecDepth 100000 in
theorem vc.spoorlaw15_filled_ok {a0 : Int} {a1 : AV} {s : St} {Q : AV → St → Prop} (h : vc.spoorlaw15_filled a0 a1 s Q) : CallsD P F.spoorlaw15_filled [.int .i64 a0, a1] s Q :=
 fnD_ok (C := C.spoorlaw15_filled) hD hX rfl mixes (fi := fnI Try.f10) (by kernel_rfl) (by kernel_rfl) (cast (by kernel_rfl : vc.spoorlaw15_filled a0 a1 s Q = wpC P C.spoorlaw15_filled 1000000 (fnI Try.f10).body ⟨PT.setAll .nil 0 [.int .i64 a0, a1], max [.int .i64 a0, a1].length (fnI Try.f10).nt, s, []⟩ (endW C.spoorlaw15_filled (fnI Try.f10).results Q)) h)
end
end Go.Eng.S

namespace Go.Eng.S
open Go Go.Eng Go.Proofs
noncomputable section
def C.p_rollup_Rollup_wide : Cx := { D := D, rt := rt, its := [], lps := [(0, [10, 20, 6, 19, 18, 17, 16, 15, 14, 5, 4, 12, 13, 11], [6, 10])], det := true }
set_option maxRecDepth 100000 in
def vc.p_rollup_Rollup_wide (a0 : AV) (a1 : Int) (s : St) (Q : (AV → (St → Prop))) : Prop :=
 bsel (decide (a1 < 0)) (
  (Q (AV.tuple [(AV.int .i64 0), (AV.bool false)]) s)
 ) (
  ∃ (I1 : (Int → (Int → (St → (Nat → Prop))))),
  (
   ∃ (m2 : Nat),
   (I1 1 0 s m2)
  ) ∧
  ∀ (n3 : Int) (n4 : Int) (s5 : St) (m6 : Nat),
  (I1 n3 n4 s5 m6) →
  bsel (decide (n4 < a1)) (
   bsel (decide (n3 ≥ 2097152)) (
    (Q (AV.tuple [(AV.int .i64 0), (AV.bool false)]) s5)
   ) (
    ptrK a0 0 fun m7 m8 =>
    ∃ (n9 : Int),
    ((ld1 s5 (AV.ptr m7 m8)) = (some (AV.int .i64 n9))) ∧
    ∃ (m10 : Nat),
    (m10 < m6) ∧
    (I1 (IntKind.wrap .i64 (n3 * n9)) (IntKind.wrap .i64 (n4 + 1)) s5 m10)
   )
  ) (
   (Q (AV.tuple [(AV.int .i64 n3), (AV.bool true)]) s5)
  )
 )
set_option maxRecDepth 100000 in
theorem vc.p_rollup_Rollup_wide_ok {a0 : AV} {a1 : Int} {s : St} {Q : AV → St → Prop} (h : vc.p_rollup_Rollup_wide a0 a1 s Q) : CallsD P F.p_rollup_Rollup_wide [a0, .int .i64 a1] s Q :=
 fnD_ok (C := C.p_rollup_Rollup_wide) hD hX rfl mixes (fi := fnI Try.f30) (by kernel_rfl) (by kernel_rfl) (cast (by kernel_rfl : vc.p_rollup_Rollup_wide a0 a1 s Q = wpC P C.p_rollup_Rollup_wide 1000000 (fnI Try.f30).body ⟨PT.setAll .nil 0 [a0, .int .i64 a1], max [a0, .int .i64 a1].length (fnI Try.f30).nt, s, []⟩ (endW C.p_rollup_Rollup_wide (fnI Try.f30).results Q)) h)
def C.p_rollup_Rollup_window : Cx := { D := D, rt := rt, its := [], lps := [] }
set_option maxRecDepth 100000 in
def vc.p_rollup_Rollup_window (a0 : AV) (a1 : Int) (a2 : Int) (s : St) (Q : (AV → (St → Prop))) : Prop :=
 ∀ (m1 : Nat) (s2 : St),
 (NewO s (cellsO [(AV.int .i64 0), (AV.int .i64 0), AV.nilslice]) m1 s2) →
 CallsA P F.p_rollup_Rollup_sum [a0, (AV.int .i64 a1), (AV.int .i64 (IntKind.wrap .i64 (a1 + a2)))] s2 fun x3 s4 =>
 ∃ (x5 : AV),
 (x3 = x5) ∧
 (oneK x5 (∃ s6 : St, (((wrN s4 (AV.ptr m1 0) [(AV.int .i64 a1), (AV.int .i64 a2), x5]) = (some s6)) ∧ (∃ n7 : Int, (∃ n8 : Int, (∃ x9 : AV, (((ldN s6 (AV.ptr m1 0) 3) = (some [(AV.int .i64 n7), (AV.int .i64 n8), x9])) ∧ (Q (AV.agg [(AV.int .i64 n7), (AV.int .i64 n8), x9]) s6))))))))
set_option maxRecDepth 100000 in
theorem vc.p_rollup_Rollup_window_ok {a0 : AV} {a1 : Int} {a2 : Int} {s : St} {Q : AV → St → Prop} (h : vc.p_rollup_Rollup_window a0 a1 a2 s Q) : CallsA P F.p_rollup_Rollup_window [a0, .int .i64 a1, .int .i64 a2] s Q :=
 fnB_ok (C := C.p_rollup_Rollup_window) hD hX mixes (fi := fnI Try.f31) (by kernel_rfl) (by kernel_rfl) (cast (by kernel_rfl : vc.p_rollup_Rollup_window a0 a1 a2 s Q = wpC P C.p_rollup_Rollup_window 1000000 (fnI Try.f31).body ⟨PT.setAll .nil 0 [a0, .int .i64 a1, .int .i64 a2], max [a0, .int .i64 a1, .int .i64 a2].length (fnI Try.f31).nt, s, []⟩ (endW C.p_rollup_Rollup_window (fnI Try.f31).results Q)) h)
def C.p_rollup_Rollup_Cover : Cx := { D := D, rt := rt, its := [], lps := [(0, [9, 8, 57, 56, 55, 54, 53, 52, 51, 58, 59, 60, 1, 12, 11, 34, 33, 29, 32, 31, 30, 50, 35, 36, 37, 38, 39, 40, 41, 42, 43, 44, 45, 46, 47, 48, 49, 27, 28, 10, 24, 25, 26], [1, 8]), (2, [10, 28, 27, 49, 48, 47, 46, 45, 44, 43, 42, 41, 40, 39, 38, 37, 36, 35, 50, 9, 30, 31, 32, 29, 33, 34, 11, 12], [9, 10])] }
set_option maxRecDepth 100000 in
def vc.p_rollup_Rollup_Cover (a0 : AV) (a1 : Int) (a2 : Int) (s : St) (Q : (AV → (St → Prop))) : Prop :=
 bsel (decide (a1 < 0)) (
  (Q (AV.tuple [AV.nilslice, (AV.int .i64 151)]) s)
 ) (
  bsel (decide (a1 > a2)) (
   (Q (AV.tuple [AV.nilslice, (AV.int .i64 151)]) s)
  ) (
   bsel (decide (a2 > 2097152)) (
    (Q (AV.tuple [AV.nilslice, (AV.int .i64 151)]) s)
   ) (
    ∃ (I1 : (Int → (AV → (St → (Nat → Prop))))),
    (
     ∃ (m2 : Nat),
     (I1 a1 AV.nilslice s m2)
    ) ∧
    ∀ (n3 : Int) (x4 : AV) (s5 : St) (m6 : Nat),
    (I1 n3 x4 s5 m6) →
    bsel (decide (n3 < a2)) (
     ∃ (I7 : (Int → (Int → (St → (Nat → Prop))))),
     (
      ∃ (m8 : Nat),
      (I7 1 1 s5 m8)
     ) ∧
     ∀ (n9 : Int) (n10 : Int) (s11 : St) (m12 : Nat),
     (I7 n9 n10 s11 m12) →
     CallsA P F.p_rollup_Rollup_wide [a0, (AV.int .i64 n10)] s11 fun x13 s14 =>
     ∃ (n15 : Int) (c16 : Bool),
     (x13 = (AV.tuple [(AV.int .i64 n15), (AV.bool c16)])) ∧
     bsel (!c16) (
      CallsA P F.p_rollup_Rollup_window [a0, (AV.int .i64 n3), (AV.int .i64 n9)] s14 fun x17 s18 =>
      ∃ (n19 : Int) (n20 : Int) (x21 : AV),
      (x17 = (AV.agg [(AV.int .i64 n19), (AV.int .i64 n20), x21])) ∧
      ∀ (m22 : Nat) (s23 : St),
      (NewO s18 (cellsO [(AV.int .i64 n19), (AV.int .i64 n20), x21]) m22 s23) →
      ∃ (x24 : AV) (s25 : St),
      ((appendX D s23 T.sl_api_Window T.sl_api_Window x4 (AV.slice m22 0 1 (ACap.exact 1))) = (some (x24, s25))) ∧
      ∃ (m26 : Nat),
      (m26 < m6) ∧
      (I1 (IntKind.wrap .i64 (n3 + n9)) x24 s25 m26)
     ) (
      ((n15 : Int) ≠ 0) ∧
      bsel ((Int.tmod n3 n15) != 0) (
       CallsA P F.p_rollup_Rollup_window [a0, (AV.int .i64 n3), (AV.int .i64 n9)] s14 fun x27 s28 =>
       ∃ (n29 : Int) (n30 : Int) (x31 : AV),
       (x27 = (AV.agg [(AV.int .i64 n29), (AV.int .i64 n30), x31])) ∧
       ∀ (m32 : Nat) (s33 : St),
       (NewO s28 (cellsO [(AV.int .i64 n29), (AV.int .i64 n30), x31]) m32 s33) →
       ∃ (x34 : AV) (s35 : St),
       ((appendX D s33 T.sl_api_Window T.sl_api_Window x4 (AV.slice m32 0 1 (ACap.exact 1))) = (some (x34, s35))) ∧
       ∃ (m36 : Nat),
       (m36 < m6) ∧
       (I1 (IntKind.wrap .i64 (n3 + n9)) x34 s35 m36)
      ) (
       bsel (decide ((IntKind.wrap .i64 (n3 + n15)) > a2)) (
        CallsA P F.p_rollup_Rollup_window [a0, (AV.int .i64 n3), (AV.int .i64 n9)] s14 fun x37 s38 =>
        ∃ (n39 : Int) (n40 : Int) (x41 : AV),
        (x37 = (AV.agg [(AV.int .i64 n39), (AV.int .i64 n40), x41])) ∧
        ∀ (m42 : Nat) (s43 : St),
        (NewO s38 (cellsO [(AV.int .i64 n39), (AV.int .i64 n40), x41]) m42 s43) →
        ∃ (x44 : AV) (s45 : St),
        ((appendX D s43 T.sl_api_Window T.sl_api_Window x4 (AV.slice m42 0 1 (ACap.exact 1))) = (some (x44, s45))) ∧
        ∃ (m46 : Nat),
        (m46 < m6) ∧
        (I1 (IntKind.wrap .i64 (n3 + n9)) x44 s45 m46)
       ) (
        ∃ (m47 : Nat),
        (m47 < m12) ∧
        (I7 n15 (IntKind.wrap .i64 (n10 + 1)) s14 m47)
       )
      )
     )
    ) (
     (Q (AV.tuple [x4, (AV.int .i64 0)]) s5)
    )
   )
  )
 )
set_option maxRecDepth 100000 in
theorem vc.p_rollup_Rollup_Cover_ok {a0 : AV} {a1 : Int} {a2 : Int} {s : St} {Q : AV → St → Prop} (h : vc.p_rollup_Rollup_Cover a0 a1 a2 s Q) : CallsA P F.p_rollup_Rollup_Cover [a0, .int .i64 a1, .int .i64 a2] s Q :=
 fnB_ok (C := C.p_rollup_Rollup_Cover) hD hX mixes (fi := fnI Try.f12) (by kernel_rfl) (by kernel_rfl) (cast (by kernel_rfl : vc.p_rollup_Rollup_Cover a0 a1 a2 s Q = wpC P C.p_rollup_Rollup_Cover 1000000 (fnI Try.f12).body ⟨PT.setAll .nil 0 [a0, .int .i64 a1, .int .i64 a2], max [a0, .int .i64 a1, .int .i64 a2].length (fnI Try.f12).nt, s, []⟩ (endW C.p_rollup_Rollup_Cover (fnI Try.f12).results Q)) h)
end
end Go.Eng.S

namespace Go.Eng.S
open Go Go.Eng Go.Proofs
noncomputable section
end
end Go.Eng.S

namespace Go.Eng.S
open Go Go.Eng Go.Proofs
noncomputable section
def C.cmp_Less_int64 : Cx := { D := D, rt := rt, its := [], lps := [], det := true }
set_option maxRecDepth 100000 in
def vc.cmp_Less_int64 (a0 : Int) (a1 : Int) (s : St) (Q : (AV → (St → Prop))) : Prop :=
 CallsD P F.cmp_isNaN_int64 [(AV.int .i64 a0)] s fun x1 s2 =>
 ∃ (c3 : Bool),
 (x1 = (AV.bool c3)) ∧
 bsel c3 (
  CallsD P F.cmp_isNaN_int64 [(AV.int .i64 a1)] s2 fun x4 s5 =>
  ∃ (c6 : Bool),
  (x4 = (AV.bool c6)) ∧
  bsel (!c6) (
   (Q (AV.bool true) s5)
  ) (
   (Q (AV.bool (decide (a0 < a1))) s5)
  )
 ) (
  (Q (AV.bool (decide (a0 < a1))) s2)
 )
set_option maxRecDepth 100000 in
theorem vc.cmp_Less_int64_ok {a0 : Int} {a1 : Int} {s : St} {Q : AV → St → Prop} (h : vc.cmp_Less_int64 a0 a1 s Q) : CallsD P F.cmp_Less_int64 [.int .i64 a0, .int .i64 a1] s Q :=
 fnD_ok (C := C.cmp_Less_int64) hD hX rfl mixes (fi := fnI Try.f78) (by kernel_rfl) (by kernel_rfl) (cast (by kernel_rfl : vc.cmp_Less_int64 a0 a1 s Q = wpC P C.cmp_Less_int64 1000000 (fnI Try.f78).body ⟨PT.setAll .nil 0 [.int .i64 a0, .int .i64 a1], max [.int .i64 a0, .int .i64 a1].length (fnI Try.f78).nt, s, []⟩ (endW C.cmp_Less_int64 (fnI Try.f78).results Q)) h)
def C.cmp_isNaN_int64 : Cx := { D := D, rt := rt, its := [], lps := [], det := true }
set_option maxRecDepth 100000 in
def vc.cmp_isNaN_int64 (a0 : Int) (s : St) (Q : (AV → (St → Prop))) : Prop :=
 (Q (AV.bool (a0 != a0)) s)
set_option maxRecDepth 100000 in
theorem vc.cmp_isNaN_int64_ok {a0 : Int} {s : St} {Q : AV → St → Prop} (h : vc.cmp_isNaN_int64 a0 s Q) : CallsD P F.cmp_isNaN_int64 [.int .i64 a0] s Q :=
 fnD_ok (C := C.cmp_isNaN_int64) hD hX rfl mixes (fi := fnI Try.f99) (by kernel_rfl) (by kernel_rfl) (cast (by kernel_rfl : vc.cmp_isNaN_int64 a0 s Q = wpC P C.cmp_isNaN_int64 1000000 (fnI Try.f99).body ⟨PT.setAll .nil 0 [.int .i64 a0], max [.int .i64 a0].length (fnI Try.f99).nt, s, []⟩ (endW C.cmp_isNaN_int64 (fnI Try.f99).results Q)) h)
def C.slices_insertionSortOrdered_int64 : Cx := { D := D, rt := rt, its := [], lps := [(0, [7, 15, 48, 47, 46, 45, 44, 43, 42, 41, 40, 39, 38, 37, 36, 35, 34, 33, 31, 32, 16, 17, 18, 19, 20, 21, 22, 23, 24, 25, 26, 27, 28, 29, 30, 13, 14, 6, 10, 11, 12], [6]), (2, [48, 47, 46, 45, 44, 43, 42, 41, 40, 39, 38, 37, 36, 35, 34, 33, 31, 32, 7, 16, 17, 18, 19, 20, 21, 22, 23, 24, 25, 26, 27, 28, 29, 30], [7])], det := true, jns := [(14, [16, 17, 18, 19, 20, 21, 22, 23, 24, 25, 26, 27, 28, 29, 30], [30], [.bool false])] }
set_option maxRecDepth 100000 in
def vc.slices_insertionSortOrdered_int64 (a0 : AV) (a1 : Int) (a2 : Int) (s : St) (Q : (AV → (St → Prop))) : Prop :=
 ∃ (I1 : (Int → (St → (Nat → Prop)))),
 (
  ∃ (m2 : Nat),
  (I1 (IntKind.wrap .i64 (a1 + 1)) s m2)
 ) ∧
 ∀ (n3 : Int) (s4 : St) (m5 : Nat),
 (I1 n3 s4 m5) →
 bsel (decide (n3 < a2)) (
  ∃ (I6 : (Int → (St → (Nat → Prop)))),
  (
   ∃ (m7 : Nat),
   (I6 n3 s4 m7)
  ) ∧
  ∀ (n8 : Int) (s9 : St) (m10 : Nat),
  (I6 n8 s9 m10) →
  ∃ (I11 : (Bool → (St → (Nat → Prop)))),
  (
   ∀ (s12 : St),
   (Bump s9 15 s12) →
   bsel (decide (n8 > a1)) (
    ixsK 1 a0 n8 fun m13 m14 =>
    ∃ (n15 : Int),
    ((ld1 s12 (AV.ptr m13 m14)) = (some (AV.int .i64 n15))) ∧
    ixsK 1 a0 (IntKind.wrap .i64 (n8 - 1)) fun m16 m17 =>
    ∃ (n18 : Int),
    ((ld1 s12 (AV.ptr m16 m17)) = (some (AV.int .i64 n18))) ∧
    CallsD P F.cmp_Less_int64 [(AV.int .i64 n15), (AV.int .i64 n18)] s12 fun x19 s20 =>
    ∃ (c21 : Bool),
    (x19 = (AV.bool c21)) ∧
    ∃ (m22 : Nat),
    (I11 c21 s20 m22)
   ) (
    ∃ (m23 : Nat),
    (I11 false s12 m23)
   )
  ) ∧
  ∀ (c24 : Bool) (s25 : St) (m26 : Nat),
  (I11 c24 s25 m26) →
  bsel c24 (
   ∀ (s27 : St),
   (Bump s25 18 s27) →
   ixsK 1 a0 (IntKind.wrap .i64 (n8 - 1)) fun m28 m29 =>
   ∃ (n30 : Int),
   ((ld1 s27 (AV.ptr m28 m29)) = (some (AV.int .i64 n30))) ∧
   ixsK 1 a0 n8 fun m31 m32 =>
   ∃ (n33 : Int),
   ((ld1 s27 (AV.ptr m31 m32)) = (some (AV.int .i64 n33))) ∧
   ixsK 1 a0 n8 fun m34 m35 =>
   ∃ (s36 : St),
   ((wrN s27 (AV.ptr m34 m35) [(AV.int .i64 n30)]) = (some s36)) ∧
   ixsK 1 a0 (IntKind.wrap .i64 (n8 - 1)) fun m37 m38 =>
   ∃ (s39 : St),
   ((wrN s36 (AV.ptr m37 m38) [(AV.int .i64 n33)]) = (some s39)) ∧
   ∃ (m40 : Nat),
   (m40 < m10) ∧
   (I6 (IntKind.wrap .i64 (n8 - 1)) s39 m40)
  ) (
   ∃ (m41 : Nat),
   (m41 < m5) ∧
   (I1 (IntKind.wrap .i64 (n3 + 1)) s25 m41)
  )
 ) (
  (Q (AV.tuple []) s4)
 )
set_option maxRecDepth 100000 in
theorem vc.slices_insertionSortOrdered_int64_ok {a0 : AV} {a1 : Int} {a2 : Int} {s : St} {Q : AV → St → Prop} (h : vc.slices_insertionSortOrdered_int64 a0 a1 a2 s Q) : CallsD P F.slices_insertionSortOrdered_int64 [a0, .int .i64 a1, .int .i64 a2] s Q :=
 fnD_ok (C := C.slices_insertionSortOrdered_int64) hD hX rfl mixes (fi := fnI Try.f72) (by kernel_rfl) (by kernel_rfl) (cast (by kernel_rfl : vc.slices_insertionSortOrdered_int64 a0 a1 a2 s Q = wpC P C.slices_insertionSortOrdered_int64 1000000 (fnI Try.f72).body ⟨PT.setAll .nil 0 [a0, .int .i64 a1, .int .i64 a2], max [a0, .int .i64 a1, .int .i64 a2].length (fnI Try.f72).nt, s, []⟩ (endW C.slices_insertionSortOrdered_int64 (fnI Try.f72).results Q)) h)
def C.slices_siftDownOrdered_int64 : Cx := { D := D, rt := rt, its := [], lps := [(0, [16, 15, 14, 52, 51, 50, 49, 48, 47, 46, 45, 44, 43, 42, 41, 40, 39, 8, 75, 53, 54, 55, 56, 57, 58, 59, 60, 61, 62, 63, 64, 65, 66, 67, 68, 69, 70, 71, 72, 73, 74, 38, 37, 17, 18, 19, 20, 21, 22, 23, 24, 25, 26, 27, 28, 29, 30, 31, 32, 33, 34, 35, 36, 11, 12, 13, 9], [8])], det := true, jns := [(111, [9, 38, 37, 17, 18, 19, 20, 21, 22, 23, 24, 25, 26, 27, 28, 29, 30, 31, 32, 33, 34, 35, 36], [9], [.int .i64 0])] }
set_option maxRecDepth 100000 in
def vc.slices_siftDownOrdered_int64 (a0 : AV) (a1 : Int) (a2 : Int) (a3 : Int) (s : St) (Q : (AV → (St → Prop))) : Prop :=
 ∃ (I1 : (Int → (St → (Nat → Prop)))),
 (
  ∃ (m2 : Nat),
  (I1 a1 s m2)
 ) ∧
 ∀ (n3 : Int) (s4 : St) (m5 : Nat),
 (I1 n3 s4 m5) →
 bsel (decide ((IntKind.wrap .i64 ((IntKind.wrap .i64 (2 * n3)) + 1)) ≥ a2)) (
  (Q (AV.tuple []) s4)
 ) (
  ∃ (I6 : (Int → (St → (Nat → Prop)))),
  (
   ∀ (s7 : St),
   (Bump s4 20 s7) →
   bsel (decide ((IntKind.wrap .i64 ((IntKind.wrap .i64 ((IntKind.wrap .i64 (2 * n3)) + 1)) + 1)) < a2)) (
    ixsK 1 a0 (IntKind.wrap .i64 (a3 + (IntKind.wrap .i64 ((IntKind.wrap .i64 (2 * n3)) + 1)))) fun m8 m9 =>
    ∃ (n10 : Int),
    ((ld1 s7 (AV.ptr m8 m9)) = (some (AV.int .i64 n10))) ∧
    ixsK 1 a0 (IntKind.wrap .i64 ((IntKind.wrap .i64 (a3 + (IntKind.wrap .i64 ((IntKind.wrap .i64 (2 * n3)) + 1)))) + 1)) fun m11 m12 =>
    ∃ (n13 : Int),
    ((ld1 s7 (AV.ptr m11 m12)) = (some (AV.int .i64 n13))) ∧
    CallsD P F.cmp_Less_int64 [(AV.int .i64 n10), (AV.int .i64 n13)] s7 fun x14 s15 =>
    ∃ (c16 : Bool),
    (x14 = (AV.bool c16)) ∧
    bsel c16 (
     ∃ (m17 : Nat),
     (I6 (IntKind.wrap .i64 ((IntKind.wrap .i64 ((IntKind.wrap .i64 (2 * n3)) + 1)) + 1)) s15 m17)
    ) (
     ∃ (m18 : Nat),
     (I6 (IntKind.wrap .i64 ((IntKind.wrap .i64 (2 * n3)) + 1)) s15 m18)
    )
   ) (
    ∃ (m19 : Nat),
    (I6 (IntKind.wrap .i64 ((IntKind.wrap .i64 (2 * n3)) + 1)) s7 m19)
   )
  ) ∧
  ∀ (n20 : Int) (s21 : St) (m22 : Nat),
  (I6 n20 s21 m22) →
  ∀ (s23 : St),
  (Bump s21 14 s23) →
  ixsK 1 a0 (IntKind.wrap .i64 (a3 + n3)) fun m24 m25 =>
  ∃ (n26 : Int),
  ((ld1 s23 (AV.ptr m24 m25)) = (some (AV.int .i64 n26))) ∧
  ixsK 1 a0 (IntKind.wrap .i64 (a3 + n20)) fun m27 m28 =>
  ∃ (n29 : Int),
  ((ld1 s23 (AV.ptr m27 m28)) = (some (AV.int .i64 n29))) ∧
  CallsD P F.cmp_Less_int64 [(AV.int .i64 n26), (AV.int .i64 n29)] s23 fun x30 s31 =>
  ∃ (c32 : Bool),
  (x30 = (AV.bool c32)) ∧
  bsel (!c32) (
   (Q (AV.tuple []) s31)
  ) (
   ∀ (s33 : St),
   (Bump s31 24 s33) →
   ixsK 1 a0 (IntKind.wrap .i64 (a3 + n20)) fun m34 m35 =>
   ∃ (n36 : Int),
   ((ld1 s33 (AV.ptr m34 m35)) = (some (AV.int .i64 n36))) ∧
   ixsK 1 a0 (IntKind.wrap .i64 (a3 + n3)) fun m37 m38 =>
   ∃ (n39 : Int),
   ((ld1 s33 (AV.ptr m37 m38)) = (some (AV.int .i64 n39))) ∧
   ixsK 1 a0 (IntKind.wrap .i64 (a3 + n3)) fun m40 m41 =>
   ∃ (s42 : St),
   ((wrN s33 (AV.ptr m40 m41) [(AV.int .i64 n36)]) = (some s42)) ∧
   ixsK 1 a0 (IntKind.wrap .i64 (a3 + n20)) fun m43 m44 =>
   ∃ (s45 : St),
   ((wrN s42 (AV.ptr m43 m44) [(AV.int .i64 n39)]) = (some s45)) ∧
   ∃ (m46 : Nat),
   (m46 < m5) ∧
   (I1 n20 s45 m46)
  )
 )
set_option maxRecDepth 100000 in
theorem vc.slices_siftDownOrdered_int64_ok {a0 : AV} {a1 : Int} {a2 : Int} {a3 : Int} {s : St} {Q : AV → St → Prop} (h : vc.slices_siftDownOrdered_int64 a0 a1 a2 a3 s Q) : CallsD P F.slices_siftDownOrdered_int64 [a0, .int .i64 a1, .int .i64 a2, .int .i64 a3] s Q :=
 fnD_ok (C := C.slices_siftDownOrdered_int64) hD hX rfl mixes (fi := fnI Try.f94) (by kernel_rfl) (by kernel_rfl) (cast (by kernel_rfl : vc.slices_siftDownOrdered_int64 a0 a1 a2 a3 s Q = wpC P C.slices_siftDownOrdered_int64 1000000 (fnI Try.f94).body ⟨PT.setAll .nil 0 [a0, .int .i64 a1, .int .i64 a2, .int .i64 a3], max [a0, .int .i64 a1, .int .i64 a2, .int .i64 a3].length (fnI Try.f94).nt, s, []⟩ (endW C.slices_siftDownOrdered_int64 (fnI Try.f94).results Q)) h)
def C.slices_heapSortOrdered_int64 : Cx := { D := D, rt := rt, its := [], lps := [(0, [26, 25, 24, 23, 22, 20, 21, 9, 18, 19], [9]), (2, [50, 49, 48, 47, 46, 45, 44, 43, 42, 41, 40, 39, 38, 37, 36, 35, 34, 33, 51, 52, 53, 54, 55, 31, 32, 10, 29, 30], [10])], det := true }
set_option maxRecDepth 100000 in
def vc.slices_heapSortOrdered_int64 (a0 : AV) (a1 : Int) (a2 : Int) (s : St) (Q : (AV → (St → Prop))) : Prop :=
 ((2 : Int) ≠ 0) ∧
 ∃ (I1 : (Int → (St → (Nat → Prop)))),
 (
  ∃ (m2 : Nat),
  (I1 (IntKind.wrap .i64 (Int.tdiv (IntKind.wrap .i64 ((IntKind.wrap .i64 (a2 - a1)) - 1)) 2)) s m2)
 ) ∧
 ∀ (n3 : Int) (s4 : St) (m5 : Nat),
 (I1 n3 s4 m5) →
 bsel (decide (n3 ≥ 0)) (
  CallsD P F.slices_siftDownOrdered_int64 [a0, (AV.int .i64 n3), (AV.int .i64 (IntKind.wrap .i64 (a2 - a1))), (AV.int .i64 a1)] s4 fun x6 s7 =>
  (x6 = (AV.tuple [])) ∧
  ∃ (m8 : Nat),
  (m8 < m5) ∧
  (I1 (IntKind.wrap .i64 (n3 - 1)) s7 m8)
 ) (
  ∃ (I9 : (Int → (St → (Nat → Prop)))),
  (
   ∃ (m10 : Nat),
   (I9 (IntKind.wrap .i64 ((IntKind.wrap .i64 (a2 - a1)) - 1)) s4 m10)
  ) ∧
  ∀ (n11 : Int) (s12 : St) (m13 : Nat),
  (I9 n11 s12 m13) →
  bsel (decide (n11 ≥ 0)) (
   ∀ (s14 : St),
   (Bump s12 20 s14) →
   ixsK 1 a0 (IntKind.wrap .i64 (a1 + n11)) fun m15 m16 =>
   ∃ (n17 : Int),
   ((ld1 s14 (AV.ptr m15 m16)) = (some (AV.int .i64 n17))) ∧
   ixsK 1 a0 a1 fun m18 m19 =>
   ∃ (n20 : Int),
   ((ld1 s14 (AV.ptr m18 m19)) = (some (AV.int .i64 n20))) ∧
   ixsK 1 a0 a1 fun m21 m22 =>
   ∃ (s23 : St),
   ((wrN s14 (AV.ptr m21 m22) [(AV.int .i64 n17)]) = (some s23)) ∧
   ixsK 1 a0 (IntKind.wrap .i64 (a1 + n11)) fun m24 m25 =>
   ∃ (s26 : St),
   ((wrN s23 (AV.ptr m24 m25) [(AV.int .i64 n20)]) = (some s26)) ∧
   CallsD P F.slices_siftDownOrdered_int64 [a0, (AV.int .i64 0), (AV.int .i64 n11), (AV.int .i64 a1)] s26 fun x27 s28 =>
   (x27 = (AV.tuple [])) ∧
   ∃ (m29 : Nat),
   (m29 < m13) ∧
   (I9 (IntKind.wrap .i64 (n11 - 1)) s28 m29)
  ) (
   (Q (AV.tuple []) s12)
  )
 )
set_option maxRecDepth 100000 in
theorem vc.slices_heapSortOrdered_int64_ok {a0 : AV} {a1 : Int} {a2 : Int} {s : St} {Q : AV → St → Prop} (h : vc.slices_heapSortOrdered_int64 a0 a1 a2 s Q) : CallsD P F.slices_heapSortOrdered_int64 [a0, .int .i64 a1, .int .i64 a2] s Q :=
 fnD_ok (C := C.slices_heapSortOrdered_int64) hD hX rfl mixes (fi := fnI Try.f73) (by kernel_rfl) (by kernel_rfl) (cast (by kernel_rfl : vc.slices_heapSortOrdered_int64 a0 a1 a2 s Q = wpC P C.slices_heapSortOrdered_int64 1000000 (fnI Try.f73).body ⟨PT.setAll .nil 0 [a0, .int .i64 a1, .int .i64 a2], max [a0, .int .i64 a1, .int .i64 a2].length (fnI Try.f73).nt, s, []⟩ (endW C.slices_heapSortOrdered_int64 (fnI Try.f73).results Q)) h)
def C.slices_reverseRangeOrdered_int64 : Cx := { D := D, rt := rt, its := [], lps := [(0, [27, 26, 25, 24, 23, 22, 21, 20, 19, 18, 17, 16, 15, 14, 7, 31, 30, 28, 29, 6, 11, 12, 13], [6, 7])], det := true }
set_option maxRecDepth 100000 in
def vc.slices_reverseRangeOrdered_int64 (a0 : AV) (a1 : Int) (a2 : Int) (s : St) (Q : (AV → (St → Prop))) : Prop :=
 ∃ (I1 : (Int → (Int → (St → (Nat → Prop))))),
 (
  ∃ (m2 : Nat),
  (I1 a1 (IntKind.wrap .i64 (a2 - 1)) s m2)
 ) ∧
 ∀ (n3 : Int) (n4 : Int) (s5 : St) (m6 : Nat),
 (I1 n3 n4 s5 m6) →
 bsel (decide (n3 < n4)) (
  ∀ (s7 : St),
  (Bump s5 16 s7) →
  ixsK 1 a0 n4 fun m8 m9 =>
  ∃ (n10 : Int),
  ((ld1 s7 (AV.ptr m8 m9)) = (some (AV.int .i64 n10))) ∧
  ixsK 1 a0 n3 fun m11 m12 =>
  ∃ (n13 : Int),
  ((ld1 s7 (AV.ptr m11 m12)) = (some (AV.int .i64 n13))) ∧
  ixsK 1 a0 n3 fun m14 m15 =>
  ∃ (s16 : St),
  ((wrN s7 (AV.ptr m14 m15) [(AV.int .i64 n10)]) = (some s16)) ∧
  ixsK 1 a0 n4 fun m17 m18 =>
  ∃ (s19 : St),
  ((wrN s16 (AV.ptr m17 m18) [(AV.int .i64 n13)]) = (some s19)) ∧
  ∃ (m20 : Nat),
  (m20 < m6) ∧
  (I1 (IntKind.wrap .i64 (n3 + 1)) (IntKind.wrap .i64 (n4 - 1)) s19 m20)
 ) (
  (Q (AV.tuple []) s5)
 )
set_option maxRecDepth 100000 in
theorem vc.slices_reverseRangeOrdered_int64_ok {a0 : AV} {a1 : Int} {a2 : Int} {s : St} {Q : AV → St → Prop} (h : vc.slices_reverseRangeOrdered_int64 a0 a1 a2 s Q) : CallsD P F.slices_reverseRangeOrdered_int64 [a0, .int .i64 a1, .int .i64 a2] s Q :=
 fnD_ok (C := C.slices_reverseRangeOrdered_int64) hD hX rfl mixes (fi := fnI Try.f76) (by kernel_rfl) (by kernel_rfl) (cast (by kernel_rfl : vc.slices_reverseRangeOrdered_int64 a0 a1 a2 s Q = wpC P C.slices_reverseRangeOrdered_int64 1000000 (fnI Try.f76).body ⟨PT.setAll .nil 0 [a0, .int .i64 a1, .int .i64 a2], max [a0, .int .i64 a1, .int .i64 a2].length (fnI Try.f76).nt, s, []⟩ (endW C.slices_reverseRangeOrdered_int64 (fnI Try.f76).results Q)) h)
end
end Go.Eng.S

namespace Go.Eng.S
open Go Go.Eng Go.Proofs
noncomputable section
def C.slices_partialInsertionSortOrdered_int64 : Cx := { D := D, rt := rt, its := [], lps := [(0, [32, 31, 30, 29, 28, 27, 26, 25, 24, 23, 22, 21, 20, 19, 18, 17, 33, 34, 7, 41, 40, 39, 38, 61, 60, 59, 58, 65, 64, 67, 66, 94, 93, 92, 91, 90, 89, 88, 87, 86, 85, 84, 83, 82, 81, 80, 79, 68, 69, 70, 71, 72, 73, 74, 75, 76, 77, 78, 62, 63, 9, 10, 100, 99, 116, 115, 114, 113, 112, 111, 110, 109, 108, 107, 106, 117, 118, 119, 120, 121, 122, 123, 124, 125, 126, 127, 128, 129, 130, 131, 132, 104, 105, 101, 102, 103, 95, 96, 97, 98, 42, 43, 44, 45, 46, 47, 48, 49, 50, 51, 52, 53, 54, 55, 56, 57, 6, 35, 36, 37, 15, 16, 8, 13, 14], [7, 8]), (2, [7, 34, 33, 17, 18, 19, 20, 21, 22, 23, 24, 25, 26, 27, 28, 29, 30, 31, 32], [7]), (4, [78, 77, 76, 75, 74, 73, 72, 71, 70, 69, 68, 79, 80, 81, 82, 83, 84, 85, 86, 87, 88, 89, 90, 91, 92, 93, 94, 66, 67, 9, 64, 65], [9]), (6, [116, 115, 114, 113, 112, 111, 110, 109, 108, 107, 106, 117, 118, 119, 120, 121, 122, 123, 124, 125, 126, 127, 128, 129, 130, 131, 132, 104, 105, 10, 101, 102, 103], [10])], det := true, jns := [(17, [17, 18, 19, 20, 21, 22, 23, 24, 25, 26, 27, 28, 29, 30, 31, 32], [32], [.bool false]), (186, [9, 63, 62, 78, 77, 76, 75, 74, 73, 72, 71, 70, 69, 68, 79, 80, 81, 82, 83, 84, 85, 86, 87, 88, 89, 90, 91, 92, 93, 94, 66, 67, 64, 65, 58, 59, 60, 61], [], [])] }
set_option maxRecDepth 100000 in
def vc.slices_partialInsertionSortOrdered_int64 (a0 : AV) (a1 : Int) (a2 : Int) (s : St) (Q : (AV → (St → Prop))) : Prop :=
 ∃ (I1 : (Int → (Int → (St → (Nat → Prop))))),
 (
  ∃ (m2 : Nat),
  (I1 (IntKind.wrap .i64 (a1 + 1)) 0 s m2)
 ) ∧
 ∀ (n3 : Int) (n4 : Int) (s5 : St) (m6 : Nat),
 (I1 n3 n4 s5 m6) →
 bsel (decide (n4 < 5)) (
  ∃ (I7 : (Int → (St → (Nat → Prop)))),
  (
   ∃ (m8 : Nat),
   (I7 n3 s5 m8)
  ) ∧
  ∀ (n9 : Int) (s10 : St) (m11 : Nat),
  (I7 n9 s10 m11) →
  ∃ (I12 : (Bool → (St → (Nat → Prop)))),
  (
   ∀ (s13 : St),
   (Bump s10 16 s13) →
   bsel (decide (n9 < a2)) (
    ixsK 1 a0 n9 fun m14 m15 =>
    ∃ (n16 : Int),
    ((ld1 s13 (AV.ptr m14 m15)) = (some (AV.int .i64 n16))) ∧
    ixsK 1 a0 (IntKind.wrap .i64 (n9 - 1)) fun m17 m18 =>
    ∃ (n19 : Int),
    ((ld1 s13 (AV.ptr m17 m18)) = (some (AV.int .i64 n19))) ∧
    CallsD P F.cmp_Less_int64 [(AV.int .i64 n16), (AV.int .i64 n19)] s13 fun x20 s21 =>
    ∃ (c22 : Bool),
    (x20 = (AV.bool c22)) ∧
    ∃ (m23 : Nat),
    (I12 (!c22) s21 m23)
   ) (
    ∃ (m24 : Nat),
    (I12 false s13 m24)
   )
  ) ∧
  ∀ (c25 : Bool) (s26 : St) (m27 : Nat),
  (I12 c25 s26 m27) →
  bsel c25 (
   ∃ (m28 : Nat),
   (m28 < m11) ∧
   (I7 (IntKind.wrap .i64 (n9 + 1)) s26 m28)
  ) (
   bsel (n9 == a2) (
    (Q (AV.bool true) s26)
   ) (
    bsel (decide ((IntKind.wrap .i64 (a2 - a1)) < 50)) (
     (Q (AV.bool false) s26)
    ) (
     ∀ (s29 : St),
     (Bump s26 18 s29) →
     ixsK 1 a0 (IntKind.wrap .i64 (n9 - 1)) fun m30 m31 =>
     ∃ (n32 : Int),
     ((ld1 s29 (AV.ptr m30 m31)) = (some (AV.int .i64 n32))) ∧
     ixsK 1 a0 n9 fun m33 m34 =>
     ∃ (n35 : Int),
     ((ld1 s29 (AV.ptr m33 m34)) = (some (AV.int .i64 n35))) ∧
     ixsK 1 a0 n9 fun m36 m37 =>
     ∃ (s38 : St),
     ((wrN s29 (AV.ptr m36 m37) [(AV.int .i64 n32)]) = (some s38)) ∧
     ixsK 1 a0 (IntKind.wrap .i64 (n9 - 1)) fun m39 m40 =>
     ∃ (s41 : St),
     ((wrN s38 (AV.ptr m39 m40) [(AV.int .i64 n35)]) = (some s41)) ∧
     ∃ (I42 : (St → (Nat → Prop))),
     (
      bsel (decide ((IntKind.wrap .i64 (n9 - a1)) ≥ 2)) (
       ∃ (I43 : (Int → (St → (Nat → Prop)))),
       (
        ∃ (m44 : Nat),
        (I43 (IntKind.wrap .i64 (n9 - 1)) s41 m44)
       ) ∧
       ∀ (n45 : Int) (s46 : St) (m47 : Nat),
       (I43 n45 s46 m47) →
       bsel (decide (n45 ≥ 1)) (
        ∀ (s48 : St),
        (Bump s46 11 s48) →
        ixsK 1 a0 n45 fun m49 m50 =>
        ∃ (n51 : Int),
        ((ld1 s48 (AV.ptr m49 m50)) = (some (AV.int .i64 n51))) ∧
        ixsK 1 a0 (IntKind.wrap .i64 (n45 - 1)) fun m52 m53 =>
        ∃ (n54 : Int),
        ((ld1 s48 (AV.ptr m52 m53)) = (some (AV.int .i64 n54))) ∧
        CallsD P F.cmp_Less_int64 [(AV.int .i64 n51), (AV.int .i64 n54)] s48 fun x55 s56 =>
        ∃ (c57 : Bool),
        (x55 = (AV.bool c57)) ∧
        bsel (!c57) (
         ∃ (m58 : Nat),
         (I42 s56 m58)
        ) (
         ∀ (s59 : St),
         (Bump s56 18 s59) →
         ixsK 1 a0 (IntKind.wrap .i64 (n45 - 1)) fun m60 m61 =>
         ∃ (n62 : Int),
         ((ld1 s59 (AV.ptr m60 m61)) = (some (AV.int .i64 n62))) ∧
         ixsK 1 a0 n45 fun m63 m64 =>
         ∃ (n65 : Int),
         ((ld1 s59 (AV.ptr m63 m64)) = (some (AV.int .i64 n65))) ∧
         ixsK 1 a0 n45 fun m66 m67 =>
         ∃ (s68 : St),
         ((wrN s59 (AV.ptr m66 m67) [(AV.int .i64 n62)]) = (some s68)) ∧
         ixsK 1 a0 (IntKind.wrap .i64 (n45 - 1)) fun m69 m70 =>
         ∃ (s71 : St),
         ((wrN s68 (AV.ptr m69 m70) [(AV.int .i64 n65)]) = (some s71)) ∧
         ∃ (m72 : Nat),
         (m72 < m47) ∧
         (I43 (IntKind.wrap .i64 (n45 - 1)) s71 m72)
        )
       ) (
        ∃ (m73 : Nat),
        (I42 s46 m73)
       )
      ) (
       ∃ (m74 : Nat),
       (I42 s41 m74)
      )
     ) ∧
     ∀ (s75 : St) (m76 : Nat),
     (I42 s75 m76) →
     bsel (decide ((IntKind.wrap .i64 (a2 - n9)) ≥ 2)) (
      ∃ (I77 : (Int → (St → (Nat → Prop)))),
      (
       ∃ (m78 : Nat),
       (I77 (IntKind.wrap .i64 (n9 + 1)) s75 m78)
      ) ∧
      ∀ (n79 : Int) (s80 : St) (m81 : Nat),
      (I77 n79 s80 m81) →
      bsel (decide (n79 < a2)) (
       ∀ (s82 : St),
       (Bump s80 11 s82) →
       ixsK 1 a0 n79 fun m83 m84 =>
       ∃ (n85 : Int),
       ((ld1 s82 (AV.ptr m83 m84)) = (some (AV.int .i64 n85))) ∧
       ixsK 1 a0 (IntKind.wrap .i64 (n79 - 1)) fun m86 m87 =>
       ∃ (n88 : Int),
       ((ld1 s82 (AV.ptr m86 m87)) = (some (AV.int .i64 n88))) ∧
       CallsD P F.cmp_Less_int64 [(AV.int .i64 n85), (AV.int .i64 n88)] s82 fun x89 s90 =>
       ∃ (c91 : Bool),
       (x89 = (AV.bool c91)) ∧
       bsel (!c91) (
        ∃ (m92 : Nat),
        (m92 < m6) ∧
        (I1 n9 (IntKind.wrap .i64 (n4 + 1)) s90 m92)
       ) (
        ∀ (s93 : St),
        (Bump s90 18 s93) →
        ixsK 1 a0 (IntKind.wrap .i64 (n79 - 1)) fun m94 m95 =>
        ∃ (n96 : Int),
        ((ld1 s93 (AV.ptr m94 m95)) = (some (AV.int .i64 n96))) ∧
        ixsK 1 a0 n79 fun m97 m98 =>
        ∃ (n99 : Int),
        ((ld1 s93 (AV.ptr m97 m98)) = (some (AV.int .i64 n99))) ∧
        ixsK 1 a0 n79 fun m100 m101 =>
        ∃ (s102 : St),
        ((wrN s93 (AV.ptr m100 m101) [(AV.int .i64 n96)]) = (some s102)) ∧
        ixsK 1 a0 (IntKind.wrap .i64 (n79 - 1)) fun m103 m104 =>
        ∃ (s105 : St),
        ((wrN s102 (AV.ptr m103 m104) [(AV.int .i64 n99)]) = (some s105)) ∧
        ∃ (m106 : Nat),
        (m106 < m81) ∧
        (I77 (IntKind.wrap .i64 (n79 + 1)) s105 m106)
       )
      ) (
       ∃ (m107 : Nat),
       (m107 < m6) ∧
       (I1 n9 (IntKind.wrap .i64 (n4 + 1)) s80 m107)
      )
     ) (
      ∃ (m108 : Nat),
      (m108 < m6) ∧
      (I1 n9 (IntKind.wrap .i64 (n4 + 1)) s75 m108)
     )
    )
   )
  )
 ) (
  (Q (AV.bool false) s5)
 )
set_option maxRecDepth 100000 in
theorem vc.slices_partialInsertionSortOrdered_int64_ok {a0 : AV} {a1 : Int} {a2 : Int} {s : St} {Q : AV → St → Prop} (h : vc.slices_partialInsertionSortOrdered_int64 a0 a1 a2 s Q) : CallsD P F.slices_partialInsertionSortOrdered_int64 [a0, .int .i64 a1, .int .i64 a2] s Q :=
 fnD_ok (C := C.slices_partialInsertionSortOrdered_int64) hD hX rfl mixes (fi := fnI Try.f77) (by kernel_rfl) (by kernel_rfl) (cast (by kernel_rfl : vc.slices_partialInsertionSortOrdered_int64 a0 a1 a2 s Q = wpC P C.slices_partialInsertionSortOrdered_int64 1000000 (fnI Try.f77).body ⟨PT.setAll .nil 0 [a0, .int .i64 a1, .int .i64 a2], max [a0, .int .i64 a1, .int .i64 a2].length (fnI Try.f77).nt, s, []⟩ (endW C.slices_partialInsertionSortOrdered_int64 (fnI Try.f77).results Q)) h)
def C.slices_partitionEqualOrdered_int64 : Cx := { D := D, rt := rt, its := [], lps := [(0, [59, 58, 57, 56, 55, 54, 53, 52, 51, 50, 49, 48, 47, 46, 60, 61, 10, 78, 77, 76, 75, 74, 73, 72, 71, 70, 69, 68, 67, 66, 65, 82, 81, 79, 80, 62, 63, 64, 9, 45, 44, 29, 30, 31, 32, 33, 34, 35, 36, 37, 38, 39, 40, 41, 42, 43], [9, 10]), (2, [9, 45, 44, 29, 30, 31, 32, 33, 34, 35, 36, 37, 38, 39, 40, 41, 42, 43], [9]), (4, [10, 61, 60, 46, 47, 48, 49, 50, 51, 52, 53, 54, 55, 56, 57, 58, 59], [10])], det := true, jns := [(11, [29, 30, 31, 32, 33, 34, 35, 36, 37, 38, 39, 40, 41, 42, 43], [43], [.bool false]), (17, [46, 47, 48, 49, 50, 51, 52, 53, 54, 55, 56, 57, 58, 59], [59], [.bool false])] }
set_option maxRecDepth 100000 in
def vc.slices_partitionEqualOrdered_int64 (a0 : AV) (a1 : Int) (a2 : Int) (a3 : Int) (s : St) (Q : (AV → (St → Prop))) : Prop :=
 ∀ (s1 : St),
 (Bump s 16 s1) →
 ixsK 1 a0 a3 fun m2 m3 =>
 ∃ (n4 : Int),
 ((ld1 s1 (AV.ptr m2 m3)) = (some (AV.int .i64 n4))) ∧
 ixsK 1 a0 a1 fun m5 m6 =>
 ∃ (n7 : Int),
 ((ld1 s1 (AV.ptr m5 m6)) = (some (AV.int .i64 n7))) ∧
 ixsK 1 a0 a1 fun m8 m9 =>
 ∃ (s10 : St),
 ((wrN s1 (AV.ptr m8 m9) [(AV.int .i64 n4)]) = (some s10)) ∧
 ixsK 1 a0 a3 fun m11 m12 =>
 ∃ (s13 : St),
 ((wrN s10 (AV.ptr m11 m12) [(AV.int .i64 n7)]) = (some s13)) ∧
 ∃ (I14 : (Int → (Int → (St → (Nat → Prop))))),
 (
  ∃ (m15 : Nat),
  (I14 (IntKind.wrap .i64 (a1 + 1)) (IntKind.wrap .i64 (a2 - 1)) s13 m15)
 ) ∧
 ∀ (n16 : Int) (n17 : Int) (s18 : St) (m19 : Nat),
 (I14 n16 n17 s18 m19) →
 ∃ (I20 : (Int → (St → (Nat → Prop)))),
 (
  ∃ (m21 : Nat),
  (I20 n16 s18 m21)
 ) ∧
 ∀ (n22 : Int) (s23 : St) (m24 : Nat),
 (I20 n22 s23 m24) →
 ∃ (I25 : (Bool → (St → (Nat → Prop)))),
 (
  ∀ (s26 : St),
  (Bump s23 15 s26) →
  bsel (decide (n22 ≤ n17)) (
   ixsK 1 a0 a1 fun m27 m28 =>
   ∃ (n29 : Int),
   ((ld1 s26 (AV.ptr m27 m28)) = (some (AV.int .i64 n29))) ∧
   ixsK 1 a0 n22 fun m30 m31 =>
   ∃ (n32 : Int),
   ((ld1 s26 (AV.ptr m30 m31)) = (some (AV.int .i64 n32))) ∧
   CallsD P F.cmp_Less_int64 [(AV.int .i64 n29), (AV.int .i64 n32)] s26 fun x33 s34 =>
   ∃ (c35 : Bool),
   (x33 = (AV.bool c35)) ∧
   ∃ (m36 : Nat),
   (I25 (!c35) s34 m36)
  ) (
   ∃ (m37 : Nat),
   (I25 false s26 m37)
  )
 ) ∧
 ∀ (c38 : Bool) (s39 : St) (m40 : Nat),
 (I25 c38 s39 m40) →
 bsel c38 (
  ∃ (m41 : Nat),
  (m41 < m24) ∧
  (I20 (IntKind.wrap .i64 (n22 + 1)) s39 m41)
 ) (
  ∃ (I42 : (Int → (St → (Nat → Prop)))),
  (
   ∃ (m43 : Nat),
   (I42 n17 s39 m43)
  ) ∧
  ∀ (n44 : Int) (s45 : St) (m46 : Nat),
  (I42 n44 s45 m46) →
  ∃ (I47 : (Bool → (St → (Nat → Prop)))),
  (
   ∀ (s48 : St),
   (Bump s45 14 s48) →
   bsel (decide (n22 ≤ n44)) (
    ixsK 1 a0 a1 fun m49 m50 =>
    ∃ (n51 : Int),
    ((ld1 s48 (AV.ptr m49 m50)) = (some (AV.int .i64 n51))) ∧
    ixsK 1 a0 n44 fun m52 m53 =>
    ∃ (n54 : Int),
    ((ld1 s48 (AV.ptr m52 m53)) = (some (AV.int .i64 n54))) ∧
    CallsD P F.cmp_Less_int64 [(AV.int .i64 n51), (AV.int .i64 n54)] s48 fun x55 s56 =>
    ∃ (c57 : Bool),
    (x55 = (AV.bool c57)) ∧
    ∃ (m58 : Nat),
    (I47 c57 s56 m58)
   ) (
    ∃ (m59 : Nat),
    (I47 false s48 m59)
   )
  ) ∧
  ∀ (c60 : Bool) (s61 : St) (m62 : Nat),
  (I47 c60 s61 m62) →
  bsel c60 (
   ∃ (m63 : Nat),
   (m63 < m46) ∧
   (I42 (IntKind.wrap .i64 (n44 - 1)) s61 m63)
  ) (
   bsel (decide (n22 > n44)) (
    (Q (AV.int .i64 n22) s61)
   ) (
    ∀ (s64 : St),
    (Bump s61 16 s64) →
    ixsK 1 a0 n44 fun m65 m66 =>
    ∃ (n67 : Int),
    ((ld1 s64 (AV.ptr m65 m66)) = (some (AV.int .i64 n67))) ∧
    ixsK 1 a0 n22 fun m68 m69 =>
    ∃ (n70 : Int),
    ((ld1 s64 (AV.ptr m68 m69)) = (some (AV.int .i64 n70))) ∧
    ixsK 1 a0 n22 fun m71 m72 =>
    ∃ (s73 : St),
    ((wrN s64 (AV.ptr m71 m72) [(AV.int .i64 n67)]) = (some s73)) ∧
    ixsK 1 a0 n44 fun m74 m75 =>
    ∃ (s76 : St),
    ((wrN s73 (AV.ptr m74 m75) [(AV.int .i64 n70)]) = (some s76)) ∧
    ∃ (m77 : Nat),
    (m77 < m19) ∧
    (I14 (IntKind.wrap .i64 (n22 + 1)) (IntKind.wrap .i64 (n44 - 1)) s76 m77)
   )
  )
 )
set_option maxRecDepth 100000 in
theorem vc.slices_partitionEqualOrdered_int64_ok {a0 : AV} {a1 : Int} {a2 : Int} {a3 : Int} {s : St} {Q : AV → St → Prop} (h : vc.slices_partitionEqualOrdered_int64 a0 a1 a2 a3 s Q) : CallsD P F.slices_partitionEqualOrdered_int64 [a0, .int .i64 a1, .int .i64 a2, .int .i64 a3] s Q :=
 fnD_ok (C := C.slices_partitionEqualOrdered_int64) hD hX rfl mixes (fi := fnI Try.f79) (by kernel_rfl) (by kernel_rfl) (cast (by kernel_rfl : vc.slices_partitionEqualOrdered_int64 a0 a1 a2 a3 s Q = wpC P C.slices_partitionEqualOrdered_int64 1000000 (fnI Try.f79).body ⟨PT.setAll .nil 0 [a0, .int .i64 a1, .int .i64 a2, .int .i64 a3], max [a0, .int .i64 a1, .int .i64 a2, .int .i64 a3].length (fnI Try.f79).nt, s, []⟩ (endW C.slices_partitionEqualOrdered_int64 (fnI Try.f79).results Q)) h)
def C.slices_partitionOrdered_int64 : Cx := { D := D, rt := rt, its := [], lps := [(0, [10, 45, 44, 30, 31, 32, 33, 34, 35, 36, 37, 38, 39, 40, 41, 42, 43], [10]), (2, [11, 62, 61, 46, 47, 48, 49, 50, 51, 52, 53, 54, 55, 56, 57, 58, 59, 60], [11]), (4, [129, 128, 127, 126, 125, 124, 123, 122, 121, 120, 119, 118, 117, 116, 115, 130, 131, 11, 148, 147, 146, 145, 144, 143, 142, 141, 140, 139, 138, 137, 136, 135, 152, 151, 149, 150, 132, 133, 134, 10, 114, 113, 99, 100, 101, 102, 103, 104, 105, 106, 107, 108, 109, 110, 111, 112], [10, 11]), (6, [10, 114, 113, 99, 100, 101, 102, 103, 104, 105, 106, 107, 108, 109, 110, 111, 112], [10]), (8, [11, 131, 130, 115, 116, 117, 118, 119, 120, 121, 122, 123, 124, 125, 126, 127, 128, 129], [11])], det := true, jns := [(11, [30, 31, 32, 33, 34, 35, 36, 37, 38, 39, 40, 41, 42, 43], [43], [.bool false]), (17, [46, 47, 48, 49, 50, 51, 52, 53, 54, 55, 56, 57, 58, 59, 60], [60], [.bool false]), (41, [99, 100, 101, 102, 103, 104, 105, 106, 107, 108, 109, 110, 111, 112], [112], [.bool false]), (47, [115, 116, 117, 118, 119, 120, 121, 122, 123, 124, 125, 126, 127, 128, 129], [129], [.bool false])] }
set_option maxRecDepth 100000 in
def vc.slices_partitionOrdered_int64 (a0 : AV) (a1 : Int) (a2 : Int) (a3 : Int) (s : St) (Q : (AV → (St → Prop))) : Prop :=
 ∀ (s1 : St),
 (Bump s 16 s1) →
 ixsK 1 a0 a3 fun m2 m3 =>
 ∃ (n4 : Int),
 ((ld1 s1 (AV.ptr m2 m3)) = (some (AV.int .i64 n4))) ∧
 ixsK 1 a0 a1 fun m5 m6 =>
 ∃ (n7 : Int),
 ((ld1 s1 (AV.ptr m5 m6)) = (some (AV.int .i64 n7))) ∧
 ixsK 1 a0 a1 fun m8 m9 =>
 ∃ (s10 : St),
 ((wrN s1 (AV.ptr m8 m9) [(AV.int .i64 n4)]) = (some s10)) ∧
 ixsK 1 a0 a3 fun m11 m12 =>
 ∃ (s13 : St),
 ((wrN s10 (AV.ptr m11 m12) [(AV.int .i64 n7)]) = (some s13)) ∧
 ∃ (I14 : (Int → (St → (Nat → Prop)))),
 (
  ∃ (m15 : Nat),
  (I14 (IntKind.wrap .i64 (a1 + 1)) s13 m15)
 ) ∧
 ∀ (n16 : Int) (s17 : St) (m18 : Nat),
 (I14 n16 s17 m18) →
 ∃ (I19 : (Bool → (St → (Nat → Prop)))),
 (
  ∀ (s20 : St),
  (Bump s17 14 s20) →
  bsel (decide (n16 ≤ (IntKind.wrap .i64 (a2 - 1)))) (
   ixsK 1 a0 n16 fun m21 m22 =>
   ∃ (n23 : Int),
   ((ld1 s20 (AV.ptr m21 m22)) = (some (AV.int .i64 n23))) ∧
   ixsK 1 a0 a1 fun m24 m25 =>
   ∃ (n26 : Int),
   ((ld1 s20 (AV.ptr m24 m25)) = (some (AV.int .i64 n26))) ∧
   CallsD P F.cmp_Less_int64 [(AV.int .i64 n23), (AV.int .i64 n26)] s20 fun x27 s28 =>
   ∃ (c29 : Bool),
   (x27 = (AV.bool c29)) ∧
   ∃ (m30 : Nat),
   (I19 c29 s28 m30)
  ) (
   ∃ (m31 : Nat),
   (I19 false s20 m31)
  )
 ) ∧
 ∀ (c32 : Bool) (s33 : St) (m34 : Nat),
 (I19 c32 s33 m34) →
 bsel c32 (
  ∃ (m35 : Nat),
  (m35 < m18) ∧
  (I14 (IntKind.wrap .i64 (n16 + 1)) s33 m35)
 ) (
  ∃ (I36 : (Int → (St → (Nat → Prop)))),
  (
   ∃ (m37 : Nat),
   (I36 (IntKind.wrap .i64 (a2 - 1)) s33 m37)
  ) ∧
  ∀ (n38 : Int) (s39 : St) (m40 : Nat),
  (I36 n38 s39 m40) →
  ∃ (I41 : (Bool → (St → (Nat → Prop)))),
  (
   ∀ (s42 : St),
   (Bump s39 15 s42) →
   bsel (decide (n16 ≤ n38)) (
    ixsK 1 a0 n38 fun m43 m44 =>
    ∃ (n45 : Int),
    ((ld1 s42 (AV.ptr m43 m44)) = (some (AV.int .i64 n45))) ∧
    ixsK 1 a0 a1 fun m46 m47 =>
    ∃ (n48 : Int),
    ((ld1 s42 (AV.ptr m46 m47)) = (some (AV.int .i64 n48))) ∧
    CallsD P F.cmp_Less_int64 [(AV.int .i64 n45), (AV.int .i64 n48)] s42 fun x49 s50 =>
    ∃ (c51 : Bool),
    (x49 = (AV.bool c51)) ∧
    ∃ (m52 : Nat),
    (I41 (!c51) s50 m52)
   ) (
    ∃ (m53 : Nat),
    (I41 false s42 m53)
   )
  ) ∧
  ∀ (c54 : Bool) (s55 : St) (m56 : Nat),
  (I41 c54 s55 m56) →
  bsel c54 (
   ∃ (m57 : Nat),
   (m57 < m40) ∧
   (I36 (IntKind.wrap .i64 (n38 - 1)) s55 m57)
  ) (
   bsel (decide (n16 > n38)) (
    ∀ (s58 : St),
    (Bump s55 16 s58) →
    ixsK 1 a0 a1 fun m59 m60 =>
    ∃ (n61 : Int),
    ((ld1 s58 (AV.ptr m59 m60)) = (some (AV.int .i64 n61))) ∧
    ixsK 1 a0 n38 fun m62 m63 =>
    ∃ (n64 : Int),
    ((ld1 s58 (AV.ptr m62 m63)) = (some (AV.int .i64 n64))) ∧
    ixsK 1 a0 n38 fun m65 m66 =>
    ∃ (s67 : St),
    ((wrN s58 (AV.ptr m65 m66) [(AV.int .i64 n61)]) = (some s67)) ∧
    ixsK 1 a0 a1 fun m68 m69 =>
    ∃ (s70 : St),
    ((wrN s67 (AV.ptr m68 m69) [(AV.int .i64 n64)]) = (some s70)) ∧
    (Q (AV.tuple [(AV.int .i64 n38), (AV.bool true)]) s70)
   ) (
    ∀ (s71 : St),
    (Bump s55 16 s71) →
    ixsK 1 a0 n38 fun m72 m73 =>
    ∃ (n74 : Int),
    ((ld1 s71 (AV.ptr m72 m73)) = (some (AV.int .i64 n74))) ∧
    ixsK 1 a0 n16 fun m75 m76 =>
    ∃ (n77 : Int),
    ((ld1 s71 (AV.ptr m75 m76)) = (some (AV.int .i64 n77))) ∧
    ixsK 1 a0 n16 fun m78 m79 =>
    ∃ (s80 : St),
    ((wrN s71 (AV.ptr m78 m79) [(AV.int .i64 n74)]) = (some s80)) ∧
    ixsK 1 a0 n38 fun m81 m82 =>
    ∃ (s83 : St),
    ((wrN s80 (AV.ptr m81 m82) [(AV.int .i64 n77)]) = (some s83)) ∧
    ∃ (I84 : (Int → (Int → (St → (Nat → Prop))))),
    (
     ∃ (m85 : Nat),
     (I84 (IntKind.wrap .i64 (n16 + 1)) (IntKind.wrap .i64 (n38 - 1)) s83 m85)
    ) ∧
    ∀ (n86 : Int) (n87 : Int) (s88 : St) (m89 : Nat),
    (I84 n86 n87 s88 m89) →
    ∃ (I90 : (Int → (St → (Nat → Prop)))),
    (
     ∃ (m91 : Nat),
     (I90 n86 s88 m91)
    ) ∧
    ∀ (n92 : Int) (s93 : St) (m94 : Nat),
    (I90 n92 s93 m94) →
    ∃ (I95 : (Bool → (St → (Nat → Prop)))),
    (
     ∀ (s96 : St),
     (Bump s93 14 s96) →
     bsel (decide (n92 ≤ n87)) (
      ixsK 1 a0 n92 fun m97 m98 =>
      ∃ (n99 : Int),
      ((ld1 s96 (AV.ptr m97 m98)) = (some (AV.int .i64 n99))) ∧
      ixsK 1 a0 a1 fun m100 m101 =>
      ∃ (n102 : Int),
      ((ld1 s96 (AV.ptr m100 m101)) = (some (AV.int .i64 n102))) ∧
      CallsD P F.cmp_Less_int64 [(AV.int .i64 n99), (AV.int .i64 n102)] s96 fun x103 s104 =>
      ∃ (c105 : Bool),
      (x103 = (AV.bool c105)) ∧
      ∃ (m106 : Nat),
      (I95 c105 s104 m106)
     ) (
      ∃ (m107 : Nat),
      (I95 false s96 m107)
     )
    ) ∧
    ∀ (c108 : Bool) (s109 : St) (m110 : Nat),
    (I95 c108 s109 m110) →
    bsel c108 (
     ∃ (m111 : Nat),
     (m111 < m94) ∧
     (I90 (IntKind.wrap .i64 (n92 + 1)) s109 m111)
    ) (
     ∃ (I112 : (Int → (St → (Nat → Prop)))),
     (
      ∃ (m113 : Nat),
      (I112 n87 s109 m113)
     ) ∧
     ∀ (n114 : Int) (s115 : St) (m116 : Nat),
     (I112 n114 s115 m116) →
     ∃ (I117 : (Bool → (St → (Nat → Prop)))),
     (
      ∀ (s118 : St),
      (Bump s115 15 s118) →
      bsel (decide (n92 ≤ n114)) (
       ixsK 1 a0 n114 fun m119 m120 =>
       ∃ (n121 : Int),
       ((ld1 s118 (AV.ptr m119 m120)) = (some (AV.int .i64 n121))) ∧
       ixsK 1 a0 a1 fun m122 m123 =>
       ∃ (n124 : Int),
       ((ld1 s118 (AV.ptr m122 m123)) = (some (AV.int .i64 n124))) ∧
       CallsD P F.cmp_Less_int64 [(AV.int .i64 n121), (AV.int .i64 n124)] s118 fun x125 s126 =>
       ∃ (c127 : Bool),
       (x125 = (AV.bool c127)) ∧
       ∃ (m128 : Nat),
       (I117 (!c127) s126 m128)
      ) (
       ∃ (m129 : Nat),
       (I117 false s118 m129)
      )
     ) ∧
     ∀ (c130 : Bool) (s131 : St) (m132 : Nat),
     (I117 c130 s131 m132) →
     bsel c130 (
      ∃ (m133 : Nat),
      (m133 < m116) ∧
      (I112 (IntKind.wrap .i64 (n114 - 1)) s131 m133)
     ) (
      bsel (decide (n92 > n114)) (
       ∀ (s134 : St),
       (Bump s131 16 s134) →
       ixsK 1 a0 a1 fun m135 m136 =>
       ∃ (n137 : Int),
       ((ld1 s134 (AV.ptr m135 m136)) = (some (AV.int .i64 n137))) ∧
       ixsK 1 a0 n114 fun m138 m139 =>
       ∃ (n140 : Int),
       ((ld1 s134 (AV.ptr m138 m139)) = (some (AV.int .i64 n140))) ∧
       ixsK 1 a0 n114 fun m141 m142 =>
       ∃ (s143 : St),
       ((wrN s134 (AV.ptr m141 m142) [(AV.int .i64 n137)]) = (some s143)) ∧
       ixsK 1 a0 a1 fun m144 m145 =>
       ∃ (s146 : St),
       ((wrN s143 (AV.ptr m144 m145) [(AV.int .i64 n140)]) = (some s146)) ∧
       (Q (AV.tuple [(AV.int .i64 n114), (AV.bool false)]) s146)
      ) (
       ∀ (s147 : St),
       (Bump s131 16 s147) →
       ixsK 1 a0 n114 fun m148 m149 =>
       ∃ (n150 : Int),
       ((ld1 s147 (AV.ptr m148 m149)) = (some (AV.int .i64 n150))) ∧
       ixsK 1 a0 n92 fun m151 m152 =>
       ∃ (n153 : Int),
       ((ld1 s147 (AV.ptr m151 m152)) = (some (AV.int .i64 n153))) ∧
       ixsK 1 a0 n92 fun m154 m155 =>
       ∃ (s156 : St),
       ((wrN s147 (AV.ptr m154 m155) [(AV.int .i64 n150)]) = (some s156)) ∧
       ixsK 1 a0 n114 fun m157 m158 =>
       ∃ (s159 : St),
       ((wrN s156 (AV.ptr m157 m158) [(AV.int .i64 n153)]) = (some s159)) ∧
       ∃ (m160 : Nat),
       (m160 < m89) ∧
       (I84 (IntKind.wrap .i64 (n92 + 1)) (IntKind.wrap .i64 (n114 - 1)) s159 m160)
      )
     )
    )
   )
  )
 )
set_option maxRecDepth 100000 in
theorem vc.slices_partitionOrdered_int64_ok {a0 : AV} {a1 : Int} {a2 : Int} {a3 : Int} {s : St} {Q : AV → St → Prop} (h : vc.slices_partitionOrdered_int64 a0 a1 a2 a3 s Q) : CallsD P F.slices_partitionOrdered_int64 [a0, .int .i64 a1, .int .i64 a2, .int .i64 a3] s Q :=
 fnD_ok (C := C.slices_partitionOrdered_int64) hD hX rfl mixes (fi := fnI Try.f80) (by kernel_rfl) (by kernel_rfl) (cast (by kernel_rfl : vc.slices_partitionOrdered_int64 a0 a1 a2 a3 s Q = wpC P C.slices_partitionOrdered_int64 1000000 (fnI Try.f80).body ⟨PT.setAll .nil 0 [a0, .int .i64 a1, .int .i64 a2, .int .i64 a3], max [a0, .int .i64 a1, .int .i64 a2, .int .i64 a3].length (fnI Try.f80).nt, s, []⟩ (endW C.slices_partitionOrdered_int64 (fnI Try.f80).results Q)) h)
end
end Go.Eng.S

