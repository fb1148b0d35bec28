/-
  What is to be shown of functions of the program, and that it suffices.
  What is to be shown of functions of the program, and that it suffices.
  What is to be shown of functions of the program, and that it suffices.
  What is to be shown of functions of the program, and that it suffices.
  What is to be shown of functions of the program, and that it suffices.
  What is to be shown of functions of the program, and that it suffices.
  What is to be shown of functions of the program, and that it suffices.
-/
import Derived.Test.YthjagnpghdcbcaaGreatDoorSDefs
namespace Go.Eng.S
open Go Go.Eng Go.Proofs
noncomputable section
def C.sketch_Check : Cx := { D := D, rt := rt, its := [], lps := [], det := true }
set_option maxRecDepth 100000 in
def vc.sketch_Check (a0 : AV) (s : St) (Q : (AV → (St → Prop))) : Prop :=
 CallsD P F.sketch_laid [a0] s fun x1 s2 =>
 ∃ (x3 : AV) (c4 : Bool),
 (x1 = (AV.tuple [x3, (AV.bool c4)])) ∧
 bsel (!c4) (
  (Q (AV.int .i64 131) s2)
 ) (
  (Q (AV.int .i64 0) s2)
 )
set_option maxRecDepth 100000 in
theorem vc.sketch_Check_ok {a0 : AV} {s : St} {Q : AV → St → Prop} (h : vc.sketch_Check a0 s Q) : CallsD P F.sketch_Check [a0] s Q :=
 fnD_ok (C := C.sketch_Check) hD hX rfl mixes (fi := fnI Tryz.f35) (by kernel_rfl) (by kernel_rfl) (cast (by kernel_rfl : vc.sketch_Check a0 s Q = wpC P C.sketch_Check 1000000 (fnI Tryz.f35).body ⟨PT.setAll .nil 0 [a0], max [a0].length (fnI Tryz.f35).nt, s, []⟩ (endW C.sketch_Check (fnI Tryz.f35).results Q)) h)
def C.sketch_Less : Cx := { D := D, rt := rt, its := [], lps := [(0, [30, 54, 42, 41, 40, 39, 38, 37, 36, 35, 34, 4, 5, 43, 44, 45, 46, 47, 48, 49, 50, 51, 52, 53, 32, 33, 11, 31], [30])], det := true }
set_option maxRecDepth 100000 in
def vc.sketch_Less (a0 : AV) (a1 : AV) (s : St) (Q : (AV → (St → Prop))) : Prop :=
 CallsD P F.sketch_laid [a0] s fun x1 s2 =>
 ∃ (x3 : AV) (c4 : Bool),
 (x1 = (AV.tuple [x3, (AV.bool c4)])) ∧
 CallsD P F.sketch_laid [a1] s2 fun x5 s6 =>
 ∃ (x7 : AV) (c8 : Bool),
 (x5 = (AV.tuple [x7, (AV.bool c8)])) ∧
 bsel (!c4) (
  (Q (AV.tuple [AV.nilslice, (AV.int .i64 131)]) s6)
 ) (
  bsel (!c8) (
   (Q (AV.tuple [AV.nilslice, (AV.int .i64 131)]) s6)
  ) (
   slenK a1 fun m9 =>
   ∃ (I10 : (Int → (St → (Nat → Prop)))),
   (
    ∃ (m11 : Nat),
    (I10 0 s6 m11)
   ) ∧
   ∀ (n12 : Int) (s13 : St) (m14 : Nat),
   (I10 n12 s13 m14) →
   bsel (decide (n12 < ((m9 : Nat) : Int))) (
    ixsK 2 a1 n12 fun m15 m16 =>
    ∃ (n17 : Int) (n18 : Int),
    ((ldN s13 (AV.ptr m15 m16) 2) = (some [(AV.int .i64 n17), (AV.int .u64 n18)])) ∧
    ∀ (m19 : Nat) (s20 : St),
    (NewO s13 (cellsO [(AV.int .i64 0), (AV.int .u64 0)]) m19 s20) →
    ∃ (s21 : St),
    ((wrN s20 (AV.ptr m19 0) [(AV.int .i64 n17), (AV.int .u64 n18)]) = (some s21)) ∧
    ∀ (s22 : St),
    (Bump s21 9 s22) →
    ∃ (n23 : Int),
    ((ld1 s22 (AV.ptr m19 0)) = (some (AV.int .i64 n23))) ∧
    ptrK x3 0 fun m24 m25 =>
    ((0 : Int) ≤ n23) ∧
    (n23 < 1920) ∧
    ∃ (n26 : Int),
    ((ld1 s22 (AV.ptr m24 (m25 + (Int.toNat n23)))) = (some (AV.int .u64 n26))) ∧
    ∃ (n27 : Int),
    ((ld1 s22 (AV.ptr m19 1)) = (some (AV.int .u64 n27))) ∧
    bsel (decide (n26 < n27)) (
     (Q (AV.tuple [AV.nilslice, (AV.int .i64 134)]) s22)
    ) (
     ∀ (s28 : St),
     (Bump s22 12 s28) →
     ∃ (n29 : Int),
     ((ld1 s28 (AV.ptr m19 0)) = (some (AV.int .i64 n29))) ∧
     ptrK x3 0 fun m30 m31 =>
     ((0 : Int) ≤ n29) ∧
     (n29 < 1920) ∧
     ∃ (n32 : Int),
     ((ld1 s28 (AV.ptr m30 (m31 + (Int.toNat n29)))) = (some (AV.int .u64 n32))) ∧
     ∃ (n33 : Int),
     ((ld1 s28 (AV.ptr m19 1)) = (some (AV.int .u64 n33))) ∧
     ptrK x3 0 fun m34 m35 =>
     ((0 : Int) ≤ n29) ∧
     (n29 < 1920) ∧
     ∃ (s36 : St),
     ((wrN s28 (AV.ptr m34 (m35 + (Int.toNat n29))) [(AV.int .u64 (IntKind.wrap .u64 (n32 - n33)))]) = (some s36)) ∧
     ∃ (m37 : Nat),
     (m37 < m14) ∧
     (I10 (IntKind.wrap .i64 (n12 + 1)) s36 m37)
    )
   ) (
    CallsD P F.p_sketch_row_bars [x3] s13 fun x38 s39 =>
    ∃ (x40 : AV),
    (x38 = x40) ∧
    (Q (AV.tuple [x40, (AV.int .i64 0)]) s39)
   )
  )
 )
set_option maxRecDepth 100000 in
theorem vc.sketch_Less_ok {a0 : AV} {a1 : AV} {s : St} {Q : AV → St → Prop} (h : vc.sketch_Less a0 a1 s Q) : CallsD P F.sketch_Less [a0, a1] s Q :=
 fnD_ok (C := C.sketch_Less) hD hX rfl mixes (fi := fnI Tryz.f37) (by kernel_rfl) (by kernel_rfl) (cast (by kernel_rfl : vc.sketch_Less a0 a1 s Q = wpC P C.sketch_Less 1000000 (fnI Tryz.f37).body ⟨PT.setAll .nil 0 [a0, a1], max [a0, a1].length (fnI Tryz.f37).nt, s, []⟩ (endW C.sketch_Less (fnI Tryz.f37).results Q)) h)
def C.sketch_Merge : Cx := { D := D, rt := rt, its := [], lps := [(0, [30, 40, 39, 38, 37, 36, 35, 34, 32, 33, 11, 31], [30])], det := true }
set_option maxRecDepth 100000 in
def vc.sketch_Merge (a0 : AV) (a1 : AV) (s : St) (Q : (AV → (St → Prop))) : Prop :=
 CallsD P F.sketch_laid [a0] s fun x1 s2 =>
 ∃ (x3 : AV) (c4 : Bool),
 (x1 = (AV.tuple [x3, (AV.bool c4)])) ∧
 CallsD P F.sketch_laid [a1] s2 fun x5 s6 =>
 ∃ (x7 : AV) (c8 : Bool),
 (x5 = (AV.tuple [x7, (AV.bool c8)])) ∧
 bsel (!c4) (
  (Q (AV.tuple [AV.nilslice, (AV.int .i64 131)]) s6)
 ) (
  bsel (!c8) (
   (Q (AV.tuple [AV.nilslice, (AV.int .i64 131)]) s6)
  ) (
   slenK a1 fun m9 =>
   ∃ (I10 : (Int → (St → (Nat → Prop)))),
   (
    ∃ (m11 : Nat),
    (I10 0 s6 m11)
   ) ∧
   ∀ (n12 : Int) (s13 : St) (m14 : Nat),
   (I10 n12 s13 m14) →
   bsel (decide (n12 < ((m9 : Nat) : Int))) (
    ixsK 2 a1 n12 fun m15 m16 =>
    ∃ (n17 : Int) (n18 : Int),
    ((ldN s13 (AV.ptr m15 m16) 2) = (some [(AV.int .i64 n17), (AV.int .u64 n18)])) ∧
    ∀ (m19 : Nat) (s20 : St),
    (NewO s13 (cellsO [(AV.int .i64 0), (AV.int .u64 0)]) m19 s20) →
    ∃ (s21 : St),
    ((wrN s20 (AV.ptr m19 0) [(AV.int .i64 n17), (AV.int .u64 n18)]) = (some s21)) ∧
    ∃ (n22 : Int),
    ((ld1 s21 (AV.ptr m19 0)) = (some (AV.int .i64 n22))) ∧
    ∃ (n23 : Int),
    ((ld1 s21 (AV.ptr m19 1)) = (some (AV.int .u64 n23))) ∧
    CallsD P F.p_sketch_row_put [x3, (AV.int .i64 n22), (AV.int .u64 n23)] s21 fun x24 s25 =>
    (x24 = (AV.tuple [])) ∧
    ∃ (m26 : Nat),
    (m26 < m14) ∧
    (I10 (IntKind.wrap .i64 (n12 + 1)) s25 m26)
   ) (
    CallsD P F.p_sketch_row_bars [x3] s13 fun x27 s28 =>
    ∃ (x29 : AV),
    (x27 = x29) ∧
    (Q (AV.tuple [x29, (AV.int .i64 0)]) s28)
   )
  )
 )
set_option maxRecDepth 100000 in
theorem vc.sketch_Merge_ok {a0 : AV} {a1 : AV} {s : St} {Q : AV → St → Prop} (h : vc.sketch_Merge a0 a1 s Q) : CallsD P F.sketch_Merge [a0, a1] s Q :=
 fnD_ok (C := C.sketch_Merge) hD hX rfl mixes (fi := fnI Tryz.f33) (by kernel_rfl) (by kernel_rfl) (cast (by kernel_rfl : vc.sketch_Merge a0 a1 s Q = wpC P C.sketch_Merge 1000000 (fnI Tryz.f33).body ⟨PT.setAll .nil 0 [a0, a1], max [a0, a1].length (fnI Tryz.f33).nt, s, []⟩ (endW C.sketch_Merge (fnI Tryz.f33).results Q)) h)
def C.sketch_laid : Cx := { D := D, rt := rt, its := [], lps := [(0, [10, 35, 27, 26, 25, 24, 23, 22, 21, 20, 19, 18, 17, 16, 15, 14, 2, 3, 28, 29, 30, 31, 32, 33, 34, 5, 12, 13, 7, 11], [5, 10])], det := true }
set_option maxRecDepth 100000 in
def vc.sketch_laid (a0 : AV) (s : St) (Q : (AV → (St → Prop))) : Prop :=
 ∀ (m1 : Nat) (s2 : St),
 (NewO s (cellsO (zcells D T.sketch_row)) m1 s2) →
 slenK a0 fun m3 =>
 ∃ (I4 : (Int → (Int → (St → (Nat → Prop))))),
 (
  ∃ (m5 : Nat),
  (I4 (-1) 0 s2 m5)
 ) ∧
 ∀ (n6 : Int) (n7 : Int) (s8 : St) (m9 : Nat),
 (I4 n6 n7 s8 m9) →
 bsel (decide (n7 < ((m3 : Nat) : Int))) (
  ixsK 2 a0 n7 fun m10 m11 =>
  ∃ (n12 : Int) (n13 : Int),
  ((ldN s8 (AV.ptr m10 m11) 2) = (some [(AV.int .i64 n12), (AV.int .u64 n13)])) ∧
  ∀ (m14 : Nat) (s15 : St),
  (NewO s8 (cellsO [(AV.int .i64 0), (AV.int .u64 0)]) m14 s15) →
  ∃ (s16 : St),
  ((wrN s15 (AV.ptr m14 0) [(AV.int .i64 n12), (AV.int .u64 n13)]) = (some s16)) ∧
  ∃ (n17 : Int),
  ((ld1 s16 (AV.ptr m14 0)) = (some (AV.int .i64 n17))) ∧
  bsel (decide (n17 ≤ n6)) (
   (Q (AV.tuple [AV.nilptr, (AV.bool false)]) s16)
  ) (
   ∃ (n18 : Int),
   ((ld1 s16 (AV.ptr m14 0)) = (some (AV.int .i64 n18))) ∧
   bsel (decide (n18 ≥ 1920)) (
    (Q (AV.tuple [AV.nilptr, (AV.bool false)]) s16)
   ) (
    ∃ (n19 : Int),
    ((ld1 s16 (AV.ptr m14 1)) = (some (AV.int .u64 n19))) ∧
    bsel (n19 == 0) (
     (Q (AV.tuple [AV.nilptr, (AV.bool false)]) s16)
    ) (
     ∀ (s20 : St),
     (Bump s16 9 s20) →
     ∃ (n21 : Int),
     ((ld1 s20 (AV.ptr m14 0)) = (some (AV.int .i64 n21))) ∧
     ∃ (n22 : Int),
     ((ld1 s20 (AV.ptr m14 1)) = (some (AV.int .u64 n22))) ∧
     ∃ (n23 : Int),
     ((ld1 s20 (AV.ptr m14 0)) = (some (AV.int .i64 n23))) ∧
     ((0 : Int) ≤ n21) ∧
     (n21 < 1920) ∧
     ∃ (s24 : St),
     ((wrN s20 (AV.ptr m1 (0 + (Int.toNat n21))) [(AV.int .u64 n22)]) = (some s24)) ∧
     ((ld1 s24 (AV.ptr m14 0)) = (some (AV.int .i64 n23))) ∧
     ∃ (m25 : Nat),
     (m25 < m9) ∧
     (I4 n23 (IntKind.wrap .i64 (n7 + 1)) s24 m25)
    )
   )
  )
 ) (
  (Q (AV.tuple [(AV.ptr m1 0), (AV.bool true)]) s8)
 )
set_option maxRecDepth 100000 in
theorem vc.sketch_laid_ok {a0 : AV} {s : St} {Q : AV → St → Prop} (h : vc.sketch_laid a0 s Q) : CallsD P F.sketch_laid [a0] s Q :=
 fnD_ok (C := C.sketch_laid) hD hX rfl mixes (fi := fnI Tryz.f62) (by kernel_rfl) (by kernel_rfl) (cast (by kernel_rfl : vc.sketch_laid a0 s Q = wpC P C.sketch_laid 1000000 (fnI Tryz.f62).body ⟨PT.setAll .nil 0 [a0], max [a0].length (fnI Tryz.f62).nt, s, []⟩ (endW C.sketch_laid (fnI Tryz.f62).results Q)) h)
def C.p_sketch_row_put : Cx := { D := D, rt := rt, its := [], lps := [], det := true }
set_option maxRecDepth 100000 in
def vc.p_sketch_row_put (a0 : AV) (a1 : Int) (a2 : Int) (s : St) (Q : (AV → (St → Prop))) : Prop :=
 ptrK a0 0 fun m1 m2 =>
 ((0 : Int) ≤ a1) ∧
 (a1 < 1920) ∧
 ∃ (n3 : Int),
 ((ld1 s (AV.ptr m1 (m2 + (Int.toNat a1)))) = (some (AV.int .u64 n3))) ∧
 ∃ (n4 : Int) (n5 : Int),
 ((add64 [(AV.int .u64 n3), (AV.int .u64 a2), (AV.int .u64 0)]) = (some (AV.tuple [(AV.int .u64 n4), (AV.int .u64 n5)]))) ∧
 bsel (decide (n5 > 0)) (
  ptrK a0 0 fun m6 m7 =>
  ((0 : Int) ≤ a1) ∧
  (a1 < 1920) ∧
  ∃ (s8 : St),
  ((wrN s (AV.ptr m6 (m7 + (Int.toNat a1))) [(AV.int .u64 18446744073709551615)]) = (some s8)) ∧
  (Q (AV.tuple []) s8)
 ) (
  ptrK a0 0 fun m9 m10 =>
  ((0 : Int) ≤ a1) ∧
  (a1 < 1920) ∧
  ∃ (s11 : St),
  ((wrN s (AV.ptr m9 (m10 + (Int.toNat a1))) [(AV.int .u64 n4)]) = (some s11)) ∧
  (Q (AV.tuple []) s11)
 )
set_option maxRecDepth 100000 in
theorem vc.p_sketch_row_put_ok {a0 : AV} {a1 : Int} {a2 : Int} {s : St} {Q : AV → St → Prop} (h : vc.p_sketch_row_put a0 a1 a2 s Q) : CallsD P F.p_sketch_row_put [a0, .int .i64 a1, .int .u64 a2] s Q :=
 fnD_ok (C := C.p_sketch_row_put) hD hX rfl mixes (fi := fnI Tryz.f63) (by kernel_rfl) (by kernel_rfl) (cast (by kernel_rfl : vc.p_sketch_row_put a0 a1 a2 s Q = wpC P C.p_sketch_row_put 1000000 (fnI Tryz.f63).body ⟨PT.setAll .nil 0 [a0, .int .i64 a1, .int .u64 a2], max [a0, .int .i64 a1, .int .u64 a2].length (fnI Tryz.f63).nt, s, []⟩ (endW C.p_sketch_row_put (fnI Tryz.f63).results Q)) h)
def C.p_sketch_row_bars : Cx := { D := D, rt := rt, its := [], lps := [(0, [7, 21, 14, 13, 15, 16, 17, 18, 19, 20, 3, 9, 10, 11, 12, 4, 5, 8], [3, 7])], det := true }
set_option maxRecDepth 100000 in
def vc.p_sketch_row_bars (a0 : AV) (s : St) (Q : (AV → (St → Prop))) : Prop :=
 ∃ (I1 : (AV → (Int → (St → (Nat → Prop))))),
 (
  ∃ (m2 : Nat),
  (I1 AV.nilslice 0 s m2)
 ) ∧
 ∀ (x3 : AV) (n4 : Int) (s5 : St) (m6 : Nat),
 (I1 x3 n4 s5 m6) →
 bsel (decide (n4 < 1920)) (
  ∀ (s7 : St),
  (Bump s5 6 s7) →
  ptrK a0 0 fun m8 m9 =>
  ((0 : Int) ≤ n4) ∧
  (n4 < 1920) ∧
  ∃ (n10 : Int),
  ((ld1 s7 (AV.ptr m8 (m9 + (Int.toNat n4)))) = (some (AV.int .u64 n10))) ∧
  bsel (decide (n10 > 0)) (
   ∀ (m11 : Nat) (s12 : St),
   (NewO s7 (cellsO [(AV.int .i64 n4), (AV.int .u64 n10)]) m11 s12) →
   ∃ (x13 : AV) (s14 : St),
   ((appendX D s12 T.sl_api_Bar T.sl_api_Bar x3 (AV.slice m11 0 1 (ACap.exact 1))) = (some (x13, s14))) ∧
   ∃ (m15 : Nat),
   (m15 < m6) ∧
   (I1 x13 (IntKind.wrap .i64 (n4 + 1)) s14 m15)
  ) (
   ∃ (m16 : Nat),
   (m16 < m6) ∧
   (I1 x3 (IntKind.wrap .i64 (n4 + 1)) s7 m16)
  )
 ) (
  (Q x3 s5)
 )
set_option maxRecDepth 100000 in
theorem vc.p_sketch_row_bars_ok {a0 : AV} {s : St} {Q : AV → St → Prop} (h : vc.p_sketch_row_bars a0 s Q) : CallsD P F.p_sketch_row_bars [a0] s Q :=
 fnD_ok (C := C.p_sketch_row_bars) hD hX rfl mixes (fi := fnI Tryz.f64) (by kernel_rfl) (by kernel_rfl) (cast (by kernel_rfl : vc.p_sketch_row_bars a0 s Q = wpC P C.p_sketch_row_bars 1000000 (fnI Tryz.f64).body ⟨PT.setAll .nil 0 [a0], max [a0].length (fnI Tryz.f64).nt, s, []⟩ (endW C.p_sketch_row_bars (fnI Tryz.f64).results Q)) h)
end
end Go.Eng.S

namespace Go.Eng.S
open Go Go.Eng Go.Proofs
noncomputable section
def C.calls_minus : Cx := { D := D, rt := rt, its := [], lps := [], det := true }
set_option maxRecDepth 100000 in
def vc.calls_minus (a0_0 : Int) (a0_1 : Int) (a1_0 : Int) (a1_1 : Int) (s : St) (Q : (AV → (St → Prop))) : Prop :=
 ∀ (m1 : Nat) (s2 : St),
 (NewO s (cellsO [(AV.int .u64 a0_0), (AV.int .u64 a0_1)]) m1 s2) →
 ∀ (m3 : Nat) (s4 : St),
 (NewO s2 (cellsO [(AV.int .u64 a1_0), (AV.int .u64 a1_1)]) m3 s4) →
 ∀ (m5 : Nat) (s6 : St),
 (NewO s4 (cellsO [(AV.int .u64 0), (AV.int .u64 0)]) m5 s6) →
 ∃ (n7 : Int),
 ((ld1 s6 (AV.ptr m1 1)) = (some (AV.int .u64 n7))) ∧
 ∃ (n8 : Int),
 ((ld1 s6 (AV.ptr m3 1)) = (some (AV.int .u64 n8))) ∧
 ∃ (n9 : Int) (n10 : Int),
 ((sub64 [(AV.int .u64 n7), (AV.int .u64 n8), (AV.int .u64 0)]) = (some (AV.tuple [(AV.int .u64 n9), (AV.int .u64 n10)]))) ∧
 ∃ (n11 : Int),
 ((ld1 s6 (AV.ptr m1 0)) = (some (AV.int .u64 n11))) ∧
 ∃ (n12 : Int),
 ((ld1 s6 (AV.ptr m3 0)) = (some (AV.int .u64 n12))) ∧
 ∃ (n13 : Int) (n14 : Int),
 ((sub64 [(AV.int .u64 n11), (AV.int .u64 n12), (AV.int .u64 n10)]) = (some (AV.tuple [(AV.int .u64 n13), (AV.int .u64 n14)]))) ∧
 ∃ (s15 : St),
 ((wrN s6 (AV.ptr m5 0) [(AV.int .u64 n13), (AV.int .u64 n9)]) = (some s15)) ∧
 ∃ (n16 : Int) (n17 : Int),
 ((ldN s15 (AV.ptr m5 0) 2) = (some [(AV.int .u64 n16), (AV.int .u64 n17)])) ∧
 (Q (AV.tuple [(AV.agg [(AV.int .u64 n16), (AV.int .u64 n17)]), (AV.bool (n14 == 0))]) s15)
set_option maxRecDepth 100000 in
theorem vc.calls_minus_ok {a0_0 : Int} {a0_1 : Int} {a1_0 : Int} {a1_1 : Int} {s : St} {Q : AV → St → Prop} (h : vc.calls_minus a0_0 a0_1 a1_0 a1_1 s Q) : CallsD P F.calls_minus [.agg [.int .u64 a0_0, .int .u64 a0_1], .agg [.int .u64 a1_0, .int .u64 a1_1]] s Q :=
 fnD_ok (C := C.calls_minus) hD hX rfl mixes (fi := fnI Tryz.f36) (by kernel_rfl) (by kernel_rfl) (cast (by kernel_rfl : vc.calls_minus a0_0 a0_1 a1_0 a1_1 s Q = wpC P C.calls_minus 1000000 (fnI Tryz.f36).body ⟨PT.setAll .nil 0 [.agg [.int .u64 a0_0, .int .u64 a0_1], .agg [.int .u64 a1_0, .int .u64 a1_1]], max [.agg [.int .u64 a0_0, .int .u64 a0_1], .agg [.int .u64 a1_0, .int .u64 a1_1]].length (fnI Tryz.f36).nt, s, []⟩ (endW C.calls_minus (fnI Tryz.f36).results Q)) h)
def C.calls_plus : Cx := { D := D, rt := rt, its := [], lps := [], det := true }
set_option maxRecDepth 100000 in
def vc.calls_plus (a0_0 : Int) (a0_1 : Int) (a1_0 : Int) (a1_1 : Int) (s : St) (Q : (AV → (St → Prop))) : Prop :=
 ∀ (m1 : Nat) (s2 : St),
 (NewO s (cellsO [(AV.int .u64 a0_0), (AV.int .u64 a0_1)]) m1 s2) →
 ∀ (m3 : Nat) (s4 : St),
 (NewO s2 (cellsO [(AV.int .u64 a1_0), (AV.int .u64 a1_1)]) m3 s4) →
 ∀ (m5 : Nat) (s6 : St),
 (NewO s4 (cellsO [(AV.int .u64 0), (AV.int .u64 0)]) m5 s6) →
 ∃ (n7 : Int),
 ((ld1 s6 (AV.ptr m1 1)) = (some (AV.int .u64 n7))) ∧
 ∃ (n8 : Int),
 ((ld1 s6 (AV.ptr m3 1)) = (some (AV.int .u64 n8))) ∧
 ∃ (n9 : Int) (n10 : Int),
 ((add64 [(AV.int .u64 n7), (AV.int .u64 n8), (AV.int .u64 0)]) = (some (AV.tuple [(AV.int .u64 n9), (AV.int .u64 n10)]))) ∧
 ∃ (n11 : Int),
 ((ld1 s6 (AV.ptr m1 0)) = (some (AV.int .u64 n11))) ∧
 ∃ (n12 : Int),
 ((ld1 s6 (AV.ptr m3 0)) = (some (AV.int .u64 n12))) ∧
 ∃ (n13 : Int) (n14 : Int),
 ((add64 [(AV.int .u64 n11), (AV.int .u64 n12), (AV.int .u64 n10)]) = (some (AV.tuple [(AV.int .u64 n13), (AV.int .u64 n14)]))) ∧
 bsel (decide (n14 > 0)) (
  ∃ (s15 : St),
  ((wrN s6 (AV.ptr m5 0) [(AV.int .u64 18446744073709551615), (AV.int .u64 18446744073709551615)]) = (some s15)) ∧
  ∃ (n16 : Int) (n17 : Int),
  ((ldN s15 (AV.ptr m5 0) 2) = (some [(AV.int .u64 n16), (AV.int .u64 n17)])) ∧
  (Q (AV.agg [(AV.int .u64 n16), (AV.int .u64 n17)]) s15)
 ) (
  ∃ (s18 : St),
  ((wrN s6 (AV.ptr m5 0) [(AV.int .u64 n13), (AV.int .u64 n9)]) = (some s18)) ∧
  ∃ (n19 : Int) (n20 : Int),
  ((ldN s18 (AV.ptr m5 0) 2) = (some [(AV.int .u64 n19), (AV.int .u64 n20)])) ∧
  (Q (AV.agg [(AV.int .u64 n19), (AV.int .u64 n20)]) s18)
 )
set_option maxRecDepth 100000 in
theorem vc.calls_plus_ok {a0_0 : Int} {a0_1 : Int} {a1_0 : Int} {a1_1 : Int} {s : St} {Q : AV → St → Prop} (h : vc.calls_plus a0_0 a0_1 a1_0 a1_1 s Q) : CallsD P F.calls_plus [.agg [.int .u64 a0_0, .int .u64 a0_1], .agg [.int .u64 a1_0, .int .u64 a1_1]] s Q :=
 fnD_ok (C := C.calls_plus) hD hX rfl mixes (fi := fnI Tryz.f34) (by kernel_rfl) (by kernel_rfl) (cast (by kernel_rfl : vc.calls_plus a0_0 a0_1 a1_0 a1_1 s Q = wpC P C.calls_plus 1000000 (fnI Tryz.f34).body ⟨PT.setAll .nil 0 [.agg [.int .u64 a0_0, .int .u64 a0_1], .agg [.int .u64 a1_0, .int .u64 a1_1]], max [.agg [.int .u64 a0_0, .int .u64 a0_1], .agg [.int .u64 a1_0, .int .u64 a1_1]].length (fnI Tryz.f34).nt, s, []⟩ (endW C.calls_plus (fnI Tryz.f34).results Q)) h)
def C.calls_Plus : Cx := { D := D, rt := rt, its := [], lps := [], det := true }
set_option maxRecDepth 100000 in
def vc.calls_Plus (a0_0 : Int) (a0_1 : Int) (a0_2 : Int) (a0_3 : Int) (a0_4 : Int) (a0_5 : Int) (a0_6 : AV) (a1_0 : Int) (a1_1 : Int) (a1_2 : Int) (a1_3 : Int) (a1_4 : Int) (a1_5 : Int) (a1_6 : AV) (s : St) (Q : (AV → (St → Prop))) : Prop :=
 ∀ (m1 : Nat) (s2 : St),
 (NewO s (cellsO [(AV.int .u64 a0_0), (AV.int .u64 a0_1), (AV.int .u64 a0_2), (AV.int .u64 a0_3), (AV.int .u64 a0_4), (AV.int .u64 a0_5), a0_6]) m1 s2) →
 ∀ (m3 : Nat) (s4 : St),
 (NewO s2 (cellsO [(AV.int .u64 a1_0), (AV.int .u64 a1_1), (AV.int .u64 a1_2), (AV.int .u64 a1_3), (AV.int .u64 a1_4), (AV.int .u64 a1_5), a1_6]) m3 s4) →
 ∀ (m5 : Nat) (s6 : St),
 (NewO s4 (cellsO [(AV.int .u64 0), (AV.int .u64 0), (AV.int .u64 0), (AV.int .u64 0), (AV.int .u64 0), (AV.int .u64 0), AV.nilslice]) m5 s6) →
 ∃ (x7 : AV),
 ((ld1 s6 (AV.ptr m1 6)) = (some x7)) ∧
 ∃ (x8 : AV),
 ((ld1 s6 (AV.ptr m3 6)) = (some x8)) ∧
 CallsD P F.sketch_Merge [x7, x8] s6 fun x9 s10 =>
 ∃ (x11 : AV) (n12 : Int),
 (x9 = (AV.tuple [x11, (AV.int .i64 n12)])) ∧
 bsel (n12 != 0) (
  ∃ (s13 : St),
  ((wrN s10 (AV.ptr m5 0) [(AV.int .u64 0), (AV.int .u64 0), (AV.int .u64 0), (AV.int .u64 0), (AV.int .u64 0), (AV.int .u64 0), AV.nilslice]) = (some s13)) ∧
  ∃ (n14 : Int) (n15 : Int) (n16 : Int) (n17 : Int) (n18 : Int) (n19 : Int) (x20 : AV),
  ((ldN s13 (AV.ptr m5 0) 7) = (some [(AV.int .u64 n14), (AV.int .u64 n15), (AV.int .u64 n16), (AV.int .u64 n17), (AV.int .u64 n18), (AV.int .u64 n19), x20])) ∧
  (Q (AV.tuple [(AV.agg [(AV.int .u64 n14), (AV.int .u64 n15), (AV.int .u64 n16), (AV.int .u64 n17), (AV.int .u64 n18), (AV.int .u64 n19), x20]), (AV.int .i64 n12)]) s13)
 ) (
  ∀ (s21 : St),
  (Bump s10 19 s21) →
  ∃ (n22 : Int) (n23 : Int),
  ((ldN s21 (AV.ptr m1 0) 2) = (some [(AV.int .u64 n22), (AV.int .u64 n23)])) ∧
  ∃ (n24 : Int) (n25 : Int),
  ((ldN s21 (AV.ptr m3 0) 2) = (some [(AV.int .u64 n24), (AV.int .u64 n25)])) ∧
  CallsD P F.calls_plus [(AV.agg [(AV.int .u64 n22), (AV.int .u64 n23)]), (AV.agg [(AV.int .u64 n24), (AV.int .u64 n25)])] s21 fun x26 s27 =>
  ∃ (n28 : Int) (n29 : Int),
  (x26 = (AV.agg [(AV.int .u64 n28), (AV.int .u64 n29)])) ∧
  ∃ (n30 : Int) (n31 : Int),
  ((ldN s27 (AV.ptr m1 2) 2) = (some [(AV.int .u64 n30), (AV.int .u64 n31)])) ∧
  ((ldN s21 (AV.ptr m1 2) 2) = (some [(AV.int .u64 n30), (AV.int .u64 n31)])) ∧
  ∃ (n32 : Int) (n33 : Int),
  ((ldN s27 (AV.ptr m3 2) 2) = (some [(AV.int .u64 n32), (AV.int .u64 n33)])) ∧
  ((ldN s21 (AV.ptr m3 2) 2) = (some [(AV.int .u64 n32), (AV.int .u64 n33)])) ∧
  CallsD P F.calls_plus [(AV.agg [(AV.int .u64 n30), (AV.int .u64 n31)]), (AV.agg [(AV.int .u64 n32), (AV.int .u64 n33)])] s27 fun x34 s35 =>
  ∃ (n36 : Int) (n37 : Int),
  (x34 = (AV.agg [(AV.int .u64 n36), (AV.int .u64 n37)])) ∧
  ∃ (n38 : Int) (n39 : Int),
  ((ldN s35 (AV.ptr m1 4) 2) = (some [(AV.int .u64 n38), (AV.int .u64 n39)])) ∧
  ((ldN s27 (AV.ptr m1 4) 2) = (some [(AV.int .u64 n38), (AV.int .u64 n39)])) ∧
  ((ldN s21 (AV.ptr m1 4) 2) = (some [(AV.int .u64 n38), (AV.int .u64 n39)])) ∧
  ∃ (n40 : Int) (n41 : Int),
  ((ldN s35 (AV.ptr m3 4) 2) = (some [(AV.int .u64 n40), (AV.int .u64 n41)])) ∧
  ((ldN s27 (AV.ptr m3 4) 2) = (some [(AV.int .u64 n40), (AV.int .u64 n41)])) ∧
  ((ldN s21 (AV.ptr m3 4) 2) = (some [(AV.int .u64 n40), (AV.int .u64 n41)])) ∧
  CallsD P F.calls_plus [(AV.agg [(AV.int .u64 n38), (AV.int .u64 n39)]), (AV.agg [(AV.int .u64 n40), (AV.int .u64 n41)])] s35 fun x42 s43 =>
  ∃ (n44 : Int) (n45 : Int),
  (x42 = (AV.agg [(AV.int .u64 n44), (AV.int .u64 n45)])) ∧
  (oneK x11 (∃ s46 : St, (((wrN s43 (AV.ptr m5 0) [(AV.int .u64 n28), (AV.int .u64 n29), (AV.int .u64 n36), (AV.int .u64 n37), (AV.int .u64 n44), (AV.int .u64 n45), x11]) = (some s46)) ∧ (∃ n47 : Int, (∃ n48 : Int, (∃ n49 : Int, (∃ n50 : Int, (∃ n51 : Int, (∃ n52 : Int, (∃ x53 : AV, (((ldN s46 (AV.ptr m5 0) 7) = (some [(AV.int .u64 n47), (AV.int .u64 n48), (AV.int .u64 n49), (AV.int .u64 n50), (AV.int .u64 n51), (AV.int .u64 n52), x53])) ∧ (Q (AV.tuple [(AV.agg [(AV.int .u64 n47), (AV.int .u64 n48), (AV.int .u64 n49), (AV.int .u64 n50), (AV.int .u64 n51), (AV.int .u64 n52), x53]), (AV.int .i64 0)]) s46))))))))))))
 )
set_option maxRecDepth 100000 in
theorem vc.calls_Plus_ok {a0_0 : Int} {a0_1 : Int} {a0_2 : Int} {a0_3 : Int} {a0_4 : Int} {a0_5 : Int} {a0_6 : AV} {a1_0 : Int} {a1_1 : Int} {a1_2 : Int} {a1_3 : Int} {a1_4 : Int} {a1_5 : Int} {a1_6 : AV} {s : St} {Q : AV → St → Prop} (h : vc.calls_Plus a0_0 a0_1 a0_2 a0_3 a0_4 a0_5 a0_6 a1_0 a1_1 a1_2 a1_3 a1_4 a1_5 a1_6 s Q) : CallsD P F.calls_Plus [.agg [.int .u64 a0_0, .int .u64 a0_1, .int .u64 a0_2, .int .u64 a0_3, .int .u64 a0_4, .int .u64 a0_5, a0_6], .agg [.int .u64 a1_0, .int .u64 a1_1, .int .u64 a1_2, .int .u64 a1_3, .int .u64 a1_4, .int .u64 a1_5, a1_6]] s Q :=
 fnD_ok (C := C.calls_Plus) hD hX rfl mixes (fi := fnI Tryz.f10) (by kernel_rfl) (by kernel_rfl) (cast (by kernel_rfl : vc.calls_Plus a0_0 a0_1 a0_2 a0_3 a0_4 a0_5 a0_6 a1_0 a1_1 a1_2 a1_3 a1_4 a1_5 a1_6 s Q = wpC P C.calls_Plus 1000000 (fnI Tryz.f10).body ⟨PT.setAll .nil 0 [.agg [.int .u64 a0_0, .int .u64 a0_1, .int .u64 a0_2, .int .u64 a0_3, .int .u64 a0_4, .int .u64 a0_5, a0_6], .agg [.int .u64 a1_0, .int .u64 a1_1, .int .u64 a1_2, .int .u64 a1_3, .int .u64 a1_4, .int .u64 a1_5, a1_6]], max [.agg [.int .u64 a0_0, .int .u64 a0_1, .int .u64 a0_2, .int .u64 a0_3, .int .u64 a0_4, .int .u64 a0_5, a0_6], .agg [.int .u64 a1_0, .int .u64 a1_1, .int .u64 a1_2, .int .u64 a1_3, .int .u64 a1_4, .int .u64 a1_5, a1_6]].length (fnI Tryz.f10).nt, s, []⟩ (endW C.calls_Plus (fnI Tryz.f10).results Q)) h)
def C.calls_Minus : Cx := { D := D, rt := rt, its := [], lps := [], det := true }
set_option maxRecDepth 100000 in
def vc.calls_Minus (a0_0 : Int) (a0_1 : Int) (a0_2 : Int) (a0_3 : Int) (a0_4 : Int) (a0_5 : Int) (a0_6 : AV) (a1_0 : Int) (a1_1 : Int) (a1_2 : Int) (a1_3 : Int) (a1_4 : Int) (a1_5 : Int) (a1_6 : AV) (s : St) (Q : (AV → (St → Prop))) : Prop :=
 ∀ (m1 : Nat) (s2 : St),
 (NewO s (cellsO [(AV.int .u64 a0_0), (AV.int .u64 a0_1), (AV.int .u64 a0_2), (AV.int .u64 a0_3), (AV.int .u64 a0_4), (AV.int .u64 a0_5), a0_6]) m1 s2) →
 ∀ (m3 : Nat) (s4 : St),
 (NewO s2 (cellsO [(AV.int .u64 a1_0), (AV.int .u64 a1_1), (AV.int .u64 a1_2), (AV.int .u64 a1_3), (AV.int .u64 a1_4), (AV.int .u64 a1_5), a1_6]) m3 s4) →
 ∀ (m5 : Nat) (s6 : St),
 (NewO s4 (cellsO [(AV.int .u64 0), (AV.int .u64 0), (AV.int .u64 0), (AV.int .u64 0), (AV.int .u64 0), (AV.int .u64 0), AV.nilslice]) m5 s6) →
 ∃ (x7 : AV),
 ((ld1 s6 (AV.ptr m1 6)) = (some x7)) ∧
 CallsD P F.sketch_Check [x7] s6 fun x8 s9 =>
 ∃ (n10 : Int),
 (x8 = (AV.int .i64 n10)) ∧
 bsel (n10 != 0) (
  ∃ (s11 : St),
  ((wrN s9 (AV.ptr m5 0) [(AV.int .u64 0), (AV.int .u64 0), (AV.int .u64 0), (AV.int .u64 0), (AV.int .u64 0), (AV.int .u64 0), AV.nilslice]) = (some s11)) ∧
  ∃ (n12 : Int) (n13 : Int) (n14 : Int) (n15 : Int) (n16 : Int) (n17 : Int) (x18 : AV),
  ((ldN s11 (AV.ptr m5 0) 7) = (some [(AV.int .u64 n12), (AV.int .u64 n13), (AV.int .u64 n14), (AV.int .u64 n15), (AV.int .u64 n16), (AV.int .u64 n17), x18])) ∧
  (Q (AV.tuple [(AV.agg [(AV.int .u64 n12), (AV.int .u64 n13), (AV.int .u64 n14), (AV.int .u64 n15), (AV.int .u64 n16), (AV.int .u64 n17), x18]), (AV.int .i64 131)]) s11)
 ) (
  ∃ (x19 : AV),
  ((ld1 s9 (AV.ptr m3 6)) = (some x19)) ∧
  CallsD P F.sketch_Check [x19] s9 fun x20 s21 =>
  ∃ (n22 : Int),
  (x20 = (AV.int .i64 n22)) ∧
  bsel (n22 != 0) (
   ∃ (s23 : St),
   ((wrN s21 (AV.ptr m5 0) [(AV.int .u64 0), (AV.int .u64 0), (AV.int .u64 0), (AV.int .u64 0), (AV.int .u64 0), (AV.int .u64 0), AV.nilslice]) = (some s23)) ∧
   ∃ (n24 : Int) (n25 : Int) (n26 : Int) (n27 : Int) (n28 : Int) (n29 : Int) (x30 : AV),
   ((ldN s23 (AV.ptr m5 0) 7) = (some [(AV.int .u64 n24), (AV.int .u64 n25), (AV.int .u64 n26), (AV.int .u64 n27), (AV.int .u64 n28), (AV.int .u64 n29), x30])) ∧
   (Q (AV.tuple [(AV.agg [(AV.int .u64 n24), (AV.int .u64 n25), (AV.int .u64 n26), (AV.int .u64 n27), (AV.int .u64 n28), (AV.int .u64 n29), x30]), (AV.int .i64 131)]) s23)
  ) (
   ∃ (n31 : Int) (n32 : Int),
   ((ldN s21 (AV.ptr m1 0) 2) = (some [(AV.int .u64 n31), (AV.int .u64 n32)])) ∧
   ∃ (n33 : Int) (n34 : Int),
   ((ldN s21 (AV.ptr m3 0) 2) = (some [(AV.int .u64 n33), (AV.int .u64 n34)])) ∧
   CallsD P F.calls_minus [(AV.agg [(AV.int .u64 n31), (AV.int .u64 n32)]), (AV.agg [(AV.int .u64 n33), (AV.int .u64 n34)])] s21 fun x35 s36 =>
   ∃ (n37 : Int) (n38 : Int) (c39 : Bool),
   (x35 = (AV.tuple [(AV.agg [(AV.int .u64 n37), (AV.int .u64 n38)]), (AV.bool c39)])) ∧
   ∀ (m40 : Nat) (s41 : St),
   (NewO s36 (cellsO [(AV.int .u64 0), (AV.int .u64 0)]) m40 s41) →
   ∃ (s42 : St),
   ((wrN s41 (AV.ptr m40 0) [(AV.int .u64 n37), (AV.int .u64 n38)]) = (some s42)) ∧
   ∃ (n43 : Int) (n44 : Int),
   ((ldN s42 (AV.ptr m1 2) 2) = (some [(AV.int .u64 n43), (AV.int .u64 n44)])) ∧
   ∃ (n45 : Int) (n46 : Int),
   ((ldN s42 (AV.ptr m3 2) 2) = (some [(AV.int .u64 n45), (AV.int .u64 n46)])) ∧
   CallsD P F.calls_minus [(AV.agg [(AV.int .u64 n43), (AV.int .u64 n44)]), (AV.agg [(AV.int .u64 n45), (AV.int .u64 n46)])] s42 fun x47 s48 =>
   ∃ (n49 : Int) (n50 : Int) (c51 : Bool),
   (x47 = (AV.tuple [(AV.agg [(AV.int .u64 n49), (AV.int .u64 n50)]), (AV.bool c51)])) ∧
   ∀ (m52 : Nat) (s53 : St),
   (NewO s48 (cellsO [(AV.int .u64 0), (AV.int .u64 0)]) m52 s53) →
   ∃ (s54 : St),
   ((wrN s53 (AV.ptr m52 0) [(AV.int .u64 n49), (AV.int .u64 n50)]) = (some s54)) ∧
   ∃ (n55 : Int) (n56 : Int),
   ((ldN s54 (AV.ptr m1 4) 2) = (some [(AV.int .u64 n55), (AV.int .u64 n56)])) ∧
   ∃ (n57 : Int) (n58 : Int),
   ((ldN s54 (AV.ptr m3 4) 2) = (some [(AV.int .u64 n57), (AV.int .u64 n58)])) ∧
   CallsD P F.calls_minus [(AV.agg [(AV.int .u64 n55), (AV.int .u64 n56)]), (AV.agg [(AV.int .u64 n57), (AV.int .u64 n58)])] s54 fun x59 s60 =>
   ∃ (n61 : Int) (n62 : Int) (c63 : Bool),
   (x59 = (AV.tuple [(AV.agg [(AV.int .u64 n61), (AV.int .u64 n62)]), (AV.bool c63)])) ∧
   ∀ (m64 : Nat) (s65 : St),
   (NewO s60 (cellsO [(AV.int .u64 0), (AV.int .u64 0)]) m64 s65) →
   ∃ (s66 : St),
   ((wrN s65 (AV.ptr m64 0) [(AV.int .u64 n61), (AV.int .u64 n62)]) = (some s66)) ∧
   ∃ (x67 : AV),
   ((ld1 s66 (AV.ptr m1 6)) = (some x67)) ∧
   ∃ (x68 : AV),
   ((ld1 s66 (AV.ptr m3 6)) = (some x68)) ∧
   CallsD P F.sketch_Less [x67, x68] s66 fun x69 s70 =>
   ∃ (x71 : AV) (n72 : Int),
   (x69 = (AV.tuple [x71, (AV.int .i64 n72)])) ∧
   bsel (!c39) (
    ∃ (s73 : St),
    ((wrN s70 (AV.ptr m5 0) [(AV.int .u64 0), (AV.int .u64 0), (AV.int .u64 0), (AV.int .u64 0), (AV.int .u64 0), (AV.int .u64 0), AV.nilslice]) = (some s73)) ∧
    ∃ (n74 : Int) (n75 : Int) (n76 : Int) (n77 : Int) (n78 : Int) (n79 : Int) (x80 : AV),
    ((ldN s73 (AV.ptr m5 0) 7) = (some [(AV.int .u64 n74), (AV.int .u64 n75), (AV.int .u64 n76), (AV.int .u64 n77), (AV.int .u64 n78), (AV.int .u64 n79), x80])) ∧
    (Q (AV.tuple [(AV.agg [(AV.int .u64 n74), (AV.int .u64 n75), (AV.int .u64 n76), (AV.int .u64 n77), (AV.int .u64 n78), (AV.int .u64 n79), x80]), (AV.int .i64 141)]) s73)
   ) (
    bsel (!c51) (
     ∃ (s81 : St),
     ((wrN s70 (AV.ptr m5 0) [(AV.int .u64 0), (AV.int .u64 0), (AV.int .u64 0), (AV.int .u64 0), (AV.int .u64 0), (AV.int .u64 0), AV.nilslice]) = (some s81)) ∧
     ∃ (n82 : Int) (n83 : Int) (n84 : Int) (n85 : Int) (n86 : Int) (n87 : Int) (x88 : AV),
     ((ldN s81 (AV.ptr m5 0) 7) = (some [(AV.int .u64 n82), (AV.int .u64 n83), (AV.int .u64 n84), (AV.int .u64 n85), (AV.int .u64 n86), (AV.int .u64 n87), x88])) ∧
     (Q (AV.tuple [(AV.agg [(AV.int .u64 n82), (AV.int .u64 n83), (AV.int .u64 n84), (AV.int .u64 n85), (AV.int .u64 n86), (AV.int .u64 n87), x88]), (AV.int .i64 141)]) s81)
    ) (
     bsel (!c63) (
      ∃ (s89 : St),
      ((wrN s70 (AV.ptr m5 0) [(AV.int .u64 0), (AV.int .u64 0), (AV.int .u64 0), (AV.int .u64 0), (AV.int .u64 0), (AV.int .u64 0), AV.nilslice]) = (some s89)) ∧
      ∃ (n90 : Int) (n91 : Int) (n92 : Int) (n93 : Int) (n94 : Int) (n95 : Int) (x96 : AV),
      ((ldN s89 (AV.ptr m5 0) 7) = (some [(AV.int .u64 n90), (AV.int .u64 n91), (AV.int .u64 n92), (AV.int .u64 n93), (AV.int .u64 n94), (AV.int .u64 n95), x96])) ∧
      (Q (AV.tuple [(AV.agg [(AV.int .u64 n90), (AV.int .u64 n91), (AV.int .u64 n92), (AV.int .u64 n93), (AV.int .u64 n94), (AV.int .u64 n95), x96]), (AV.int .i64 141)]) s89)
     ) (
      bsel (n72 != 0) (
       ∃ (s97 : St),
       ((wrN s70 (AV.ptr m5 0) [(AV.int .u64 0), (AV.int .u64 0), (AV.int .u64 0), (AV.int .u64 0), (AV.int .u64 0), (AV.int .u64 0), AV.nilslice]) = (some s97)) ∧
       ∃ (n98 : Int) (n99 : Int) (n100 : Int) (n101 : Int) (n102 : Int) (n103 : Int) (x104 : AV),
       ((ldN s97 (AV.ptr m5 0) 7) = (some [(AV.int .u64 n98), (AV.int .u64 n99), (AV.int .u64 n100), (AV.int .u64 n101), (AV.int .u64 n102), (AV.int .u64 n103), x104])) ∧
       (Q (AV.tuple [(AV.agg [(AV.int .u64 n98), (AV.int .u64 n99), (AV.int .u64 n100), (AV.int .u64 n101), (AV.int .u64 n102), (AV.int .u64 n103), x104]), (AV.int .i64 141)]) s97)
      ) (
       ∃ (n105 : Int) (n106 : Int),
       ((ldN s70 (AV.ptr m40 0) 2) = (some [(AV.int .u64 n105), (AV.int .u64 n106)])) ∧
       ∃ (n107 : Int) (n108 : Int),
       ((ldN s70 (AV.ptr m52 0) 2) = (some [(AV.int .u64 n107), (AV.int .u64 n108)])) ∧
       ∃ (n109 : Int) (n110 : Int),
       ((ldN s70 (AV.ptr m64 0) 2) = (some [(AV.int .u64 n109), (AV.int .u64 n110)])) ∧
       (oneK x71 (∃ s111 : St, (((wrN s70 (AV.ptr m5 0) [(AV.int .u64 n105), (AV.int .u64 n106), (AV.int .u64 n107), (AV.int .u64 n108), (AV.int .u64 n109), (AV.int .u64 n110), x71]) = (some s111)) ∧ (∃ n112 : Int, (∃ n113 : Int, (∃ n114 : Int, (∃ n115 : Int, (∃ n116 : Int, (∃ n117 : Int, (∃ x118 : AV, (((ldN s111 (AV.ptr m5 0) 7) = (some [(AV.int .u64 n112), (AV.int .u64 n113), (AV.int .u64 n114), (AV.int .u64 n115), (AV.int .u64 n116), (AV.int .u64 n117), x118])) ∧ (Q (AV.tuple [(AV.agg [(AV.int .u64 n112), (AV.int .u64 n113), (AV.int .u64 n114), (AV.int .u64 n115), (AV.int .u64 n116), (AV.int .u64 n117), x118]), (AV.int .i64 0)]) s111))))))))))))
      )
     )
    )
   )
  )
 )
set_option maxRecDepth 100000 in
theorem vc.calls_Minus_ok {a0_0 : Int} {a0_1 : Int} {a0_2 : Int} {a0_3 : Int} {a0_4 : Int} {a0_5 : Int} {a0_6 : AV} {a1_0 : Int} {a1_1 : Int} {a1_2 : Int} {a1_3 : Int} {a1_4 : Int} {a1_5 : Int} {a1_6 : AV} {s : St} {Q : AV → St → Prop} (h : vc.calls_Minus a0_0 a0_1 a0_2 a0_3 a0_4 a0_5 a0_6 a1_0 a1_1 a1_2 a1_3 a1_4 a1_5 a1_6 s Q) : CallsD P F.calls_Minus [.agg [.int .u64 a0_0, .int .u64 a0_1, .int .u64 a0_2, .int .u64 a0_3, .int .u64 a0_4, .int .u64 a0_5, a0_6], .agg [.int .u64 a1_0, .int .u64 a1_1, .int .u64 a1_2, .int .u64 a1_3, .int .u64 a1_4, .int .u64 a1_5, a1_6]] s Q :=
 fnD_ok (C := C.calls_Minus) hD hX rfl mixes (fi := fnI Tryz.f11) (by kernel_rfl) (by kernel_rfl) (cast (by kernel_rfl : vc.calls_Minus a0_0 a0_1 a0_2 a0_3 a0_4 a0_5 a0_6 a1_0 a1_1 a1_2 a1_3 a1_4 a1_5 a1_6 s Q = wpC P C.calls_Minus 1000000 (fnI Tryz.f11).body ⟨PT.setAll .nil 0 [.agg [.int .u64 a0_0, .int .u64 a0_1, .int .u64 a0_2, .int .u64 a0_3, .int .u64 a0_4, .int .u64 a0_5, a0_6], .agg [.int .u64 a1_0, .int .u64 a1_1, .int .u64 a1_2, .int .u64 a1_3, .int .u64 a1_4, .int .u64 a1_5, a1_6]], max [.agg [.int .u64 a0_0, .int .u64 a0_1, .int .u64 a0_2, .int .u64 a0_3, .int .u64 a0_4, .int .u64 a0_5, a0_6], .agg [.int .u64 a1_0, .int .u64 a1_1, .int .u64 a1_2, .int .u64 a1_3, .int .u64 a1_4, .int .u64 a1_5, a1_6]].length (fnI Tryz.f11).nt, s, []⟩ (endW C.calls_Minus (fnI Tryz.f11).results Q)) h)
end
end Go.Eng.S

namespace Go.Eng.S
open Go Go.Eng Go.Proofs
noncomputable section
end
end Go.Eng.S

namespace Go.Eng.S
open Go Go.Eng Go.Proofs
noncomputable section
end
end Go.Eng.S

namespace Go.Eng.S
open Go Go.Eng Go.Proofs
noncomputable section
def C.calls_One : Cx := { D := D, rt := rt, its := [], lps := [], det := true }
set_option maxRecDepth 100000 in
def vc.calls_One (a0_0 : Int) (a0_1 : ByteArray) (a0_2 : ByteArray) (a0_3 : Bool) (a0_4 : Int) (s : St) (Q : (AV → (St → Prop))) : Prop :=
 ∀ (m1 : Nat) (s2 : St),
 (NewO s (cellsO [(AV.int .i64 a0_0), (AV.str a0_1), (AV.str a0_2), (AV.bool a0_3), (AV.int .u64 a0_4)]) m1 s2) →
 ∀ (m3 : Nat) (s4 : St),
 (NewO s2 (cellsO [(AV.int .u64 0), (AV.int .u64 0), (AV.int .u64 0), (AV.int .u64 0), (AV.int .u64 0), (AV.int .u64 0), AV.nilslice]) m3 s4) →
 ∀ (s5 : St),
 (Bump s4 12 s5) →
 ∃ (n6 : Int),
 ((ld1 s5 (AV.ptr m1 4)) = (some (AV.int .u64 n6))) ∧
 ∃ (n7 : Int),
 ((ld1 s5 (AV.ptr m1 4)) = (some (AV.int .u64 n7))) ∧
 CallsD P F.sketch_Index [(AV.int .u64 n7)] s5 fun x8 s9 =>
 ∃ (n10 : Int),
 (x8 = (AV.int .i64 n10)) ∧
 ((ld1 s9 (AV.ptr m1 4)) = (some (AV.int .u64 n6))) ∧
 ∃ (s11 : St),
 (
  ((wrN (hsetS (hsetS s9 ((St.nx s4) + 10) (cellsO [(AV.int .u64 0), (AV.int .u64 0), (AV.int .u64 0), (AV.int .u64 0), (AV.int .u64 0), (AV.int .u64 0), AV.nilslice])) ((St.nx s4) + 8) (cellsO [(AV.int .i64 n10), (AV.int .u64 1)])) (AV.ptr ((St.nx s4) + 10) 0) [(AV.int .u64 0), (AV.int .u64 1), (AV.int .u64 0), (AV.int .u64 0), (AV.int .u64 0), (AV.int .u64 n6), (AV.slice ((St.nx s4) + 8) 0 1 (ACap.exact 1))]) = (some s11))
 ) ∧
 ∃ (c12 : Bool),
 ((ld1 s11 (AV.ptr m1 3)) = (some (AV.bool c12))) ∧
 bsel c12 (
  ∃ (s13 : St),
  ((wrN s11 (AV.ptr ((St.nx s4) + 10) 3) [(AV.int .u64 1)]) = (some s13)) ∧
  ∃ (n14 : Int) (n15 : Int) (n16 : Int) (n17 : Int) (n18 : Int) (n19 : Int) (x20 : AV),
  ((ldN s13 (AV.ptr ((St.nx s4) + 10) 0) 7) = (some [(AV.int .u64 n14), (AV.int .u64 n15), (AV.int .u64 n16), (AV.int .u64 n17), (AV.int .u64 n18), (AV.int .u64 n19), x20])) ∧
  ∃ (s21 : St),
  ((wrN s13 (AV.ptr m3 0) [(AV.int .u64 n14), (AV.int .u64 n15), (AV.int .u64 n16), (AV.int .u64 n17), (AV.int .u64 n18), (AV.int .u64 n19), x20]) = (some s21)) ∧
  ∃ (n22 : Int) (n23 : Int) (n24 : Int) (n25 : Int) (n26 : Int) (n27 : Int) (x28 : AV),
  ((ldN s21 (AV.ptr m3 0) 7) = (some [(AV.int .u64 n22), (AV.int .u64 n23), (AV.int .u64 n24), (AV.int .u64 n25), (AV.int .u64 n26), (AV.int .u64 n27), x28])) ∧
  (Q (AV.agg [(AV.int .u64 n22), (AV.int .u64 n23), (AV.int .u64 n24), (AV.int .u64 n25), (AV.int .u64 n26), (AV.int .u64 n27), x28]) s21)
 ) (
  ∃ (n29 : Int) (n30 : Int) (n31 : Int) (n32 : Int) (n33 : Int) (n34 : Int) (x35 : AV),
  ((ldN s11 (AV.ptr ((St.nx s4) + 10) 0) 7) = (some [(AV.int .u64 n29), (AV.int .u64 n30), (AV.int .u64 n31), (AV.int .u64 n32), (AV.int .u64 n33), (AV.int .u64 n34), x35])) ∧
  ∃ (s36 : St),
  ((wrN s11 (AV.ptr m3 0) [(AV.int .u64 n29), (AV.int .u64 n30), (AV.int .u64 n31), (AV.int .u64 n32), (AV.int .u64 n33), (AV.int .u64 n34), x35]) = (some s36)) ∧
  ∃ (n37 : Int) (n38 : Int) (n39 : Int) (n40 : Int) (n41 : Int) (n42 : Int) (x43 : AV),
  ((ldN s36 (AV.ptr m3 0) 7) = (some [(AV.int .u64 n37), (AV.int .u64 n38), (AV.int .u64 n39), (AV.int .u64 n40), (AV.int .u64 n41), (AV.int .u64 n42), x43])) ∧
  (Q (AV.agg [(AV.int .u64 n37), (AV.int .u64 n38), (AV.int .u64 n39), (AV.int .u64 n40), (AV.int .u64 n41), (AV.int .u64 n42), x43]) s36)
 )
set_option maxRecDepth 100000 in
theorem vc.calls_One_ok {a0_0 : Int} {a0_1 : ByteArray} {a0_2 : ByteArray} {a0_3 : Bool} {a0_4 : Int} {s : St} {Q : AV → St → Prop} (h : vc.calls_One a0_0 a0_1 a0_2 a0_3 a0_4 s Q) : CallsD P F.calls_One [.agg [.int .i64 a0_0, .str a0_1, .str a0_2, .bool a0_3, .int .u64 a0_4]] s Q :=
 fnD_ok (C := C.calls_One) hD hX rfl mixes (fi := fnI Tryz.f9) (by kernel_rfl) (by kernel_rfl) (cast (by kernel_rfl : vc.calls_One a0_0 a0_1 a0_2 a0_3 a0_4 s Q = wpC P C.calls_One 1000000 (fnI Tryz.f9).body ⟨PT.setAll .nil 0 [.agg [.int .i64 a0_0, .str a0_1, .str a0_2, .bool a0_3, .int .u64 a0_4]], max [.agg [.int .i64 a0_0, .str a0_1, .str a0_2, .bool a0_3, .int .u64 a0_4]].length (fnI Tryz.f9).nt, s, []⟩ (endW C.calls_One (fnI Tryz.f9).results Q)) h)
def C.sketch_Index : Cx := { D := D, rt := rt, its := [], lps := [], det := true }
set_option maxRecDepth 100000 in
def vc.sketch_Index (a0 : Int) (s : St) (Q : (AV → (St → Prop))) : Prop :=
 bsel (decide (a0 < 64)) (
  (Q (AV.int .i64 (IntKind.wrap .i64 a0)) s)
 ) (
  CallsD P F.math_bits_Len64 [(AV.int .u64 a0)] s fun x1 s2 =>
  ∃ (n3 : Int),
  (x1 = (AV.int .i64 n3)) ∧
  ((0 : Int) ≤ (IntKind.wrap .i64 ((IntKind.wrap .i64 (n3 - 1)) - 5))) ∧
  (Q (AV.int .i64 (IntKind.wrap .i64 ((IntKind.wrap .i64 (64 + (IntKind.wrap .i64 (32 * (IntKind.wrap .i64 ((IntKind.wrap .i64 (n3 - 1)) - 6)))))) + (IntKind.wrap .i64 (((BitVec.toNat ((BitVec.ofInt 64 (IntKind.wrap .i64 (Int.fdiv a0 (2 ^ (min (Int.toNat (IntKind.wrap .i64 ((IntKind.wrap .i64 (n3 - 1)) - 5))) 64))))) &&& (BitVec.ofInt 64 31))) : Nat) : Int))))) s2)
 )
set_option maxRecDepth 100000 in
theorem vc.sketch_Index_ok {a0 : Int} {s : St} {Q : AV → St → Prop} (h : vc.sketch_Index a0 s Q) : CallsD P F.sketch_Index [.int .u64 a0] s Q :=
 fnD_ok (C := C.sketch_Index) hD hX rfl mixes (fi := fnI Tryz.f32) (by kernel_rfl) (by kernel_rfl) (cast (by kernel_rfl : vc.sketch_Index a0 s Q = wpC P C.sketch_Index 1000000 (fnI Tryz.f32).body ⟨PT.setAll .nil 0 [.int .u64 a0], max [.int .u64 a0].length (fnI Tryz.f32).nt, s, []⟩ (endW C.sketch_Index (fnI Tryz.f32).results Q)) h)
def C.math_bits_Len64 : Cx := { D := D, rt := rt, its := [], lps := [], det := true, jns := [(15, [0, 6, 5, 2, 3, 4], [0, 2], [.int .u64 0, .int .i64 0]), (27, [0, 10, 9, 11, 12, 2, 7, 8], [0, 2], [.int .u64 0, .int .i64 0]), (45, [0, 16, 15, 17, 18, 2, 13, 14], [0, 2], [.int .u64 0, .int .i64 0])] }
set_option maxRecDepth 100000 in
def vc.math_bits_Len64 (a0 : Int) (s : St) (Q : (AV → (St → Prop))) : Prop :=
 ∃ (I1 : (Int → (Int → (St → (Nat → Prop))))),
 (
  bsel (decide (a0 ≥ 4294967296)) (
   ((0 : Int) ≤ 32) ∧
   ∃ (m2 : Nat),
   (I1 (Int.fdiv a0 (2 ^ 32)) 32 s m2)
  ) (
   ∃ (m3 : Nat),
   (I1 a0 0 s m3)
  )
 ) ∧
 ∀ (n4 : Int) (n5 : Int) (s6 : St) (m7 : Nat),
 (I1 n4 n5 s6 m7) →
 ∃ (I8 : (Int → (Int → (St → (Nat → Prop))))),
 (
  bsel (decide (n4 ≥ 65536)) (
   ((0 : Int) ≤ 16) ∧
   ∃ (m9 : Nat),
   (I8 (Int.fdiv n4 (2 ^ 16)) (IntKind.wrap .i64 (n5 + 16)) s6 m9)
  ) (
   ∃ (m10 : Nat),
   (I8 n4 n5 s6 m10)
  )
 ) ∧
 ∀ (n11 : Int) (n12 : Int) (s13 : St) (m14 : Nat),
 (I8 n11 n12 s13 m14) →
 ∃ (I15 : (Int → (Int → (St → (Nat → Prop))))),
 (
  bsel (decide (n11 ≥ 256)) (
   ((0 : Int) ≤ 8) ∧
   ∃ (m16 : Nat),
   (I15 (Int.fdiv n11 (2 ^ 8)) (IntKind.wrap .i64 (n12 + 8)) s13 m16)
  ) (
   ∃ (m17 : Nat),
   (I15 n11 n12 s13 m17)
  )
 ) ∧
 ∀ (n18 : Int) (n19 : Int) (s20 : St) (m21 : Nat),
 (I15 n18 n19 s20 m21) →
 byteK (ByteArray.mk #[0, 1, 2, 2, 3, 3, 3, 3, 4, 4, 4, 4, 4, 4, 4, 4, 5, 5, 5, 5, 5, 5, 5, 5, 5, 5, 5, 5, 5, 5, 5, 5, 6, 6, 6, 6, 6, 6, 6, 6, 6, 6, 6, 6, 6, 6, 6, 6, 6, 6, 6, 6, 6, 6, 6, 6, 6, 6, 6, 6, 6, 6, 6, 6, 7, 7, 7, 7, 7, 7, 7, 7, 7, 7, 7, 7, 7, 7, 7, 7, 7, 7, 7, 7, 7, 7, 7, 7, 7, 7, 7, 7, 7, 7, 7, 7, 7, 7, 7, 7, 7, 7, 7, 7, 7, 7, 7, 7, 7, 7, 7, 7, 7, 7, 7, 7, 7, 7, 7, 7, 7, 7, 7, 7, 7, 7, 7, 7, 8, 8, 8, 8, 8, 8, 8, 8, 8, 8, 8, 8, 8, 8, 8, 8, 8, 8, 8, 8, 8, 8, 8, 8, 8, 8, 8, 8, 8, 8, 8, 8, 8, 8, 8, 8, 8, 8, 8, 8, 8, 8, 8, 8, 8, 8, 8, 8, 8, 8, 8, 8, 8, 8, 8, 8, 8, 8, 8, 8, 8, 8, 8, 8, 8, 8, 8, 8, 8, 8, 8, 8, 8, 8, 8, 8, 8, 8, 8, 8, 8, 8, 8, 8, 8, 8, 8, 8, 8, 8, 8, 8, 8, 8, 8, 8, 8, 8, 8, 8, 8, 8, 8, 8, 8, 8, 8, 8, 8, 8, 8, 8, 8, 8, 8, 8, 8, 8, 8, 8, 8, 8, 8, 8, 8, 8, 8, 8]) (IntKind.wrap .u8 n18) fun y22 =>
 (Q (AV.int .i64 (IntKind.wrap .i64 (n19 + (IntKind.wrap .i64 (((UInt8.toNat y22) : Nat) : Int))))) s20)
set_option maxRecDepth 100000 in
theorem vc.math_bits_Len64_ok {a0 : Int} {s : St} {Q : AV → St → Prop} (h : vc.math_bits_Len64 a0 s Q) : CallsD P F.math_bits_Len64 [.int .u64 a0] s Q :=
 fnD_ok (C := C.math_bits_Len64) hD hX rfl mixes (fi := fnI Tryz.f61) (by kernel_rfl) (by kernel_rfl) (cast (by kernel_rfl : vc.math_bits_Len64 a0 s Q = wpC P C.math_bits_Len64 1000000 (fnI Tryz.f61).body ⟨PT.setAll .nil 0 [.int .u64 a0], max [.int .u64 a0].length (fnI Tryz.f61).nt, s, []⟩ (endW C.math_bits_Len64 (fnI Tryz.f61).results Q)) h)
end
end Go.Eng.S

namespace Go.Eng.S
open Go Go.Eng Go.Proofs
noncomputable section
def C.spoorlaw14_sameTally : Cx := { D := D, rt := rt, its := [], lps := [], det := true }
set_option maxRecDepth 100000 in
def vc.spoorlaw14_sameTally (a0_0 : Int) (a0_1 : Int) (a0_2 : Int) (a0_3 : Int) (a0_4 : Int) (a0_5 : Int) (a0_6 : AV) (a1_0 : Int) (a1_1 : Int) (a1_2 : Int) (a1_3 : Int) (a1_4 : Int) (a1_5 : Int) (a1_6 : AV) (s : St) (Q : (AV → (St → Prop))) : Prop :=
 ∀ (m1 : Nat) (s2 : St),
 (NewO s (cellsO [(AV.int .u64 a0_0), (AV.int .u64 a0_1), (AV.int .u64 a0_2), (AV.int .u64 a0_3), (AV.int .u64 a0_4), (AV.int .u64 a0_5), a0_6]) m1 s2) →
 ∀ (m3 : Nat) (s4 : St),
 (NewO s2 (cellsO [(AV.int .u64 a1_0), (AV.int .u64 a1_1), (AV.int .u64 a1_2), (AV.int .u64 a1_3), (AV.int .u64 a1_4), (AV.int .u64 a1_5), a1_6]) m3 s4) →
 ∃ (x5 : AV),
 ((ld1 s4 (AV.ptr m1 6)) = (some x5)) ∧
 ∃ (x6 : AV),
 ((ld1 s4 (AV.ptr m3 6)) = (some x6)) ∧
 CallsD P F.spoorlaw14_sameBars [x5, x6] s4 fun x7 s8 =>
 ∃ (c9 : Bool),
 (x7 = (AV.bool c9)) ∧
 bsel c9 (
  ∃ (n10 : Int) (n11 : Int),
  ((ldN s8 (AV.ptr m1 0) 2) = (some [(AV.int .u64 n10), (AV.int .u64 n11)])) ∧
  ∃ (n12 : Int) (n13 : Int),
  ((ldN s8 (AV.ptr m3 0) 2) = (some [(AV.int .u64 n12), (AV.int .u64 n13)])) ∧
  bsel (if (true = true) then ((n10 == n12) && ((n11 == n13) && true)) else (! ((n10 == n12) && ((n11 == n13) && true)))) (
   ∃ (n14 : Int) (n15 : Int),
   ((ldN s8 (AV.ptr m1 2) 2) = (some [(AV.int .u64 n14), (AV.int .u64 n15)])) ∧
   ∃ (n16 : Int) (n17 : Int),
   ((ldN s8 (AV.ptr m3 2) 2) = (some [(AV.int .u64 n16), (AV.int .u64 n17)])) ∧
   bsel (if (true = true) then ((n14 == n16) && ((n15 == n17) && true)) else (! ((n14 == n16) && ((n15 == n17) && true)))) (
    ∃ (n18 : Int) (n19 : Int),
    ((ldN s8 (AV.ptr m1 4) 2) = (some [(AV.int .u64 n18), (AV.int .u64 n19)])) ∧
    ∃ (n20 : Int) (n21 : Int),
    ((ldN s8 (AV.ptr m3 4) 2) = (some [(AV.int .u64 n20), (AV.int .u64 n21)])) ∧
    (Q (AV.bool (if (true = true) then ((n18 == n20) && ((n19 == n21) && true)) else (! ((n18 == n20) && ((n19 == n21) && true))))) s8)
   ) (
    (Q (AV.bool false) s8)
   )
  ) (
   (Q (AV.bool false) s8)
  )
 ) (
  (Q (AV.bool false) s8)
 )
set_option maxRecDepth 100000 in
theorem vc.spoorlaw14_sameTally_ok {a0_0 : Int} {a0_1 : Int} {a0_2 : Int} {a0_3 : Int} {a0_4 : Int} {a0_5 : Int} {a0_6 : AV} {a1_0 : Int} {a1_1 : Int} {a1_2 : Int} {a1_3 : Int} {a1_4 : Int} {a1_5 : Int} {a1_6 : AV} {s : St} {Q : AV → St → Prop} (h : vc.spoorlaw14_sameTally a0_0 a0_1 a0_2 a0_3 a0_4 a0_5 a0_6 a1_0 a1_1 a1_2 a1_3 a1_4 a1_5 a1_6 s Q) : CallsD P F.spoorlaw14_sameTally [.agg [.int .u64 a0_0, .int .u64 a0_1, .int .u64 a0_2, .int .u64 a0_3, .int .u64 a0_4, .int .u64 a0_5, a0_6], .agg [.int .u64 a1_0, .int .u64 a1_1, .int .u64 a1_2, .int .u64 a1_3, .int .u64 a1_4, .int .u64 a1_5, a1_6]] s Q :=
 fnD_ok (C := C.spoorlaw14_sameTally) hD hX rfl mixes (fi := fnI Tryz.f15) (by kernel_rfl) (by kernel_rfl) (cast (by kernel_rfl : vc.spoorlaw14_sameTally a0_0 a0_1 a0_2 a0_3 a0_4 a0_5 a0_6 a1_0 a1_1 a1_2 a1_3 a1_4 a1_5 a1_6 s Q = wpC P C.spoorlaw14_sameTally 1000000 (fnI Tryz.f15).body ⟨PT.setAll .nil 0 [.agg [.int .u64 a0_0, .int .u64 a0_1, .int .u64 a0_2, .int .u64 a0_3, .int .u64 a0_4, .int .u64 a0_5, a0_6], .agg [.int .u64 a1_0, .int .u64 a1_1, .int .u64 a1_2, .int .u64 a1_3, .int .u64 a1_4, .int .u64 a1_5, a1_6]], max [.agg [.int .u64 a0_0, .int .u64 a0_1, .int .u64 a0_2, .int .u64 a0_3, .int .u64 a0_4, .int .u64 a0_5, a0_6], .agg [.int .u64 a1_0, .int .u64 a1_1, .int .u64 a1_2, .int .u64 a1_3, .int .u64 a1_4, .int .u64 a1_5, a1_6]].length (fnI Tryz.f15).nt, s, []⟩ (endW C.spoorlaw14_sameTally (fnI Tryz.f15).results Q)) h)
def C.spoorlaw14_sameBars : Cx := { D := D, rt := rt, its := [], lps := [(0, [25, 24, 23, 22, 21, 20, 19, 18, 17, 4, 15, 16, 5, 11, 12, 13, 14], [5])], det := true }
set_option maxRecDepth 100000 in
def vc.spoorlaw14_sameBars (a0 : AV) (a1 : AV) (s : St) (Q : (AV → (St → Prop))) : Prop :=
 slenK a0 fun m1 =>
 slenK a1 fun m2 =>
 bsel (((m1 : Nat) : Int) != ((m2 : Nat) : Int)) (
  (Q (AV.bool false) s)
 ) (
  ∃ (I3 : (Int → (St → (Nat → Prop)))),
  (
   ∃ (m4 : Nat),
   (I3 0 s m4)
  ) ∧
  ∀ (n5 : Int) (s6 : St) (m7 : Nat),
  (I3 n5 s6 m7) →
  slenK a0 fun m8 =>
  bsel (decide (n5 < ((m8 : Nat) : Int))) (
   ∀ (s9 : St),
   (Bump s6 9 s9) →
   ixsK 2 a0 n5 fun m10 m11 =>
   ∃ (n12 : Int) (n13 : Int),
   ((ldN s9 (AV.ptr m10 m11) 2) = (some [(AV.int .i64 n12), (AV.int .u64 n13)])) ∧
   ixsK 2 a1 n5 fun m14 m15 =>
   ∃ (n16 : Int) (n17 : Int),
   ((ldN s9 (AV.ptr m14 m15) 2) = (some [(AV.int .i64 n16), (AV.int .u64 n17)])) ∧
   bsel (if (false = true) then ((n12 == n16) && ((n13 == n17) && true)) else (! ((n12 == n16) && ((n13 == n17) && true)))) (
    (Q (AV.bool false) s9)
   ) (
    ∃ (m18 : Nat),
    (m18 < m7) ∧
    (I3 (IntKind.wrap .i64 (n5 + 1)) s9 m18)
   )
  ) (
   (Q (AV.bool true) s6)
  )
 )
set_option maxRecDepth 100000 in
theorem vc.spoorlaw14_sameBars_ok {a0 : AV} {a1 : AV} {s : St} {Q : AV → St → Prop} (h : vc.spoorlaw14_sameBars a0 a1 s Q) : CallsD P F.spoorlaw14_sameBars [a0, a1] s Q :=
 fnD_ok (C := C.spoorlaw14_sameBars) hD hX rfl mixes (fi := fnI Tryz.f45) (by kernel_rfl) (by kernel_rfl) (cast (by kernel_rfl : vc.spoorlaw14_sameBars a0 a1 s Q = wpC P C.spoorlaw14_sameBars 1000000 (fnI Tryz.f45).body ⟨PT.setAll .nil 0 [a0, a1], max [a0, a1].length (fnI Tryz.f45).nt, s, []⟩ (endW C.spoorlaw14_sameBars (fnI Tryz.f45).results Q)) h)
end
end Go.Eng.S

namespace Go.Eng.S
open Go Go.Eng Go.Proofs
noncomputable section
end
end Go.Eng.S

