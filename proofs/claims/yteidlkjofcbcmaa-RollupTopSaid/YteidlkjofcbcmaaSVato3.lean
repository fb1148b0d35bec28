/-
  What is to be shown of functions of the program, and that it suffices.
  What is to be shown of functions of the program, and that it suffices.
  What is to be shown of functions of the program, and that it suffices.
  What is to be shown of functions of the program, and that it suffices.
  What is to be shown of functions of the program, and that it suffices.
  What is to be shown of functions of the program, and that it suffices.
  What is to be shown of functions of the program, and that it suffices.
-/
import Derived.Test.YteidlkjofcbcmaaSDefs
namespace Go.Eng.S
open Go Go.Eng Go.Proofs
noncomputable section
def C.sketch_Merge : Cx := { D := D, rt := rt, its := [], lps := [(0, [30, 40, 39, 38, 37, 36, 35, 34, 32, 33, 11, 31], [30])], det := true }
set_option maxRecDepth 100000 in
def vc.sketch_Merge (a0 : AV) (a1 : AV) (s : St) (Q : (AV → (St → Prop))) : Prop :=
 CallsD P F.sketch_laid [a0] s fun x1 s2 =>
 ∃ (x3 : AV) (c4 : Bool),
 (x1 = (AV.tuple [x3, (AV.bool c4)])) ∧
 CallsD P F.sketch_laid [a1] s2 fun x5 s6 =>
 ∃ (x7 : AV) (c8 : Bool),
 (x5 = (AV.tuple [x7, (AV.bool c8)])) ∧
 bsel (!c4) (
  (Q (AV.tuple [AV.nilslice, (AV.int .i64 131)]) s6)
 ) (
  bsel (!c8) (
   (Q (AV.tuple [AV.nilslice, (AV.int .i64 131)]) s6)
  ) (
   slenK a1 fun m9 =>
   ∃ (I10 : (Int → (St → (Nat → Prop)))),
   (
    ∃ (m11 : Nat),
    (I10 0 s6 m11)
   ) ∧
   ∀ (n12 : Int) (s13 : St) (m14 : Nat),
   (I10 n12 s13 m14) →
   bsel (decide (n12 < ((m9 : Nat) : Int))) (
    ixsK 2 a1 n12 fun m15 m16 =>
    ∃ (n17 : Int) (n18 : Int),
    ((ldN s13 (AV.ptr m15 m16) 2) = (some [(AV.int .i64 n17), (AV.int .u64 n18)])) ∧
    ∀ (m19 : Nat) (s20 : St),
    (NewO s13 (cellsO [(AV.int .i64 0), (AV.int .u64 0)]) m19 s20) →
    ∃ (s21 : St),
    ((wrN s20 (AV.ptr m19 0) [(AV.int .i64 n17), (AV.int .u64 n18)]) = (some s21)) ∧
    ∃ (n22 : Int),
    ((ld1 s21 (AV.ptr m19 0)) = (some (AV.int .i64 n22))) ∧
    ∃ (n23 : Int),
    ((ld1 s21 (AV.ptr m19 1)) = (some (AV.int .u64 n23))) ∧
    CallsD P F.p_sketch_row_put [x3, (AV.int .i64 n22), (AV.int .u64 n23)] s21 fun x24 s25 =>
    (x24 = (AV.tuple [])) ∧
    ∃ (m26 : Nat),
    (m26 < m14) ∧
    (I10 (IntKind.wrap .i64 (n12 + 1)) s25 m26)
   ) (
    CallsD P F.p_sketch_row_bars [x3] s13 fun x27 s28 =>
    ∃ (x29 : AV),
    (x27 = x29) ∧
    (Q (AV.tuple [x29, (AV.int .i64 0)]) s28)
   )
  )
 )
set_option maxRecDepth 100000 in
theorem vc.sketch_Merge_ok {a0 : AV} {a1 : AV} {s : St} {Q : AV → St → Prop} (h : vc.sketch_Merge a0 a1 s Q) : CallsD P F.sketch_Merge [a0, a1] s Q :=
 fnD_ok (C := C.sketch_Merge) hD hX rfl mixes (fi := fnI Try.f49) (by kernel_rfl) (by kernel_rfl) (cast (by kernel_rfl : vc.sketch_Merge a0 a1 s Q = wpC P C.sketch_Merge 1000000 (fnI Try.f49).body ⟨PT.setAll .nil 0 [a0, a1], max [a0, a1].length (fnI Try.f49).nt, s, []⟩ (endW C.sketch_Merge (fnI Try.f49).results Q)) h)
def C.sketch_laid : Cx := { D := D, rt := rt, its := [], lps := [(0, [10, 35, 27, 26, 25, 24, 23, 22, 21, 20, 19, 18, 17, 16, 15, 14, 2, 3, 28, 29, 30, 31, 32, 33, 34, 5, 12, 13, 7, 11], [5, 10])], det := true }
set_option maxRecDepth 100000 in
def vc.sketch_laid (a0 : AV) (s : St) (Q : (AV → (St → Prop))) : Prop :=
 ∀ (m1 : Nat) (s2 : St),
 (NewO s (cellsO (zcells D T.sketch_row)) m1 s2) →
 slenK a0 fun m3 =>
 ∃ (I4 : (Int → (Int → (St → (Nat → Prop))))),
 (
  ∃ (m5 : Nat),
  (I4 (-1) 0 s2 m5)
 ) ∧
 ∀ (n6 : Int) (n7 : Int) (s8 : St) (m9 : Nat),
 (I4 n6 n7 s8 m9) →
 bsel (decide (n7 < ((m3 : Nat) : Int))) (
  ixsK 2 a0 n7 fun m10 m11 =>
  ∃ (n12 : Int) (n13 : Int),
  ((ldN s8 (AV.ptr m10 m11) 2) = (some [(AV.int .i64 n12), (AV.int .u64 n13)])) ∧
  ∀ (m14 : Nat) (s15 : St),
  (NewO s8 (cellsO [(AV.int .i64 0), (AV.int .u64 0)]) m14 s15) →
  ∃ (s16 : St),
  ((wrN s15 (AV.ptr m14 0) [(AV.int .i64 n12), (AV.int .u64 n13)]) = (some s16)) ∧
  ∃ (n17 : Int),
  ((ld1 s16 (AV.ptr m14 0)) = (some (AV.int .i64 n17))) ∧
  bsel (decide (n17 ≤ n6)) (
   (Q (AV.tuple [AV.nilptr, (AV.bool false)]) s16)
  ) (
   ∃ (n18 : Int),
   ((ld1 s16 (AV.ptr m14 0)) = (some (AV.int .i64 n18))) ∧
   bsel (decide (n18 ≥ 1920)) (
    (Q (AV.tuple [AV.nilptr, (AV.bool false)]) s16)
   ) (
    ∃ (n19 : Int),
    ((ld1 s16 (AV.ptr m14 1)) = (some (AV.int .u64 n19))) ∧
    bsel (n19 == 0) (
     (Q (AV.tuple [AV.nilptr, (AV.bool false)]) s16)
    ) (
     ∀ (s20 : St),
     (Bump s16 9 s20) →
     ∃ (n21 : Int),
     ((ld1 s20 (AV.ptr m14 0)) = (some (AV.int .i64 n21))) ∧
     ∃ (n22 : Int),
     ((ld1 s20 (AV.ptr m14 1)) = (some (AV.int .u64 n22))) ∧
     ∃ (n23 : Int),
     ((ld1 s20 (AV.ptr m14 0)) = (some (AV.int .i64 n23))) ∧
     (0 ≤ n21) ∧
     (n21 < 1920) ∧
     ∃ (s24 : St),
     ((wrN s20 (AV.ptr m1 (0 + (Int.toNat n21))) [(AV.int .u64 n22)]) = (some s24)) ∧
     ((ld1 s24 (AV.ptr m14 0)) = (some (AV.int .i64 n23))) ∧
     ∃ (m25 : Nat),
     (m25 < m9) ∧
     (I4 n23 (IntKind.wrap .i64 (n7 + 1)) s24 m25)
    )
   )
  )
 ) (
  (Q (AV.tuple [(AV.ptr m1 0), (AV.bool true)]) s8)
 )
set_option maxRecDepth 100000 in
theorem vc.sketch_laid_ok {a0 : AV} {s : St} {Q : AV → St → Prop} (h : vc.sketch_laid a0 s Q) : CallsD P F.sketch_laid [a0] s Q :=
 fnD_ok (C := C.sketch_laid) hD hX rfl mixes (fi := fnI Try.f64) (by kernel_rfl) (by kernel_rfl) (cast (by kernel_rfl : vc.sketch_laid a0 s Q = wpC P C.sketch_laid 1000000 (fnI Try.f64).body ⟨PT.setAll .nil 0 [a0], max [a0].length (fnI Try.f64).nt, s, []⟩ (endW C.sketch_laid (fnI Try.f64).results Q)) h)
def C.p_sketch_row_put : Cx := { D := D, rt := rt, its := [], lps := [], det := true }
set_option maxRecDepth 100000 in
def vc.p_sketch_row_put (a0 : AV) (a1 : Int) (a2 : Int) (s : St) (Q : (AV → (St → Prop))) : Prop :=
 ptrK a0 0 fun m1 m2 =>
 (0 ≤ a1) ∧
 (a1 < 1920) ∧
 ∃ (n3 : Int),
 ((ld1 s (AV.ptr m1 (m2 + (Int.toNat a1)))) = (some (AV.int .u64 n3))) ∧
 ∃ (n4 : Int) (n5 : Int),
 ((add64 [(AV.int .u64 n3), (AV.int .u64 a2), (AV.int .u64 0)]) = (some (AV.tuple [(AV.int .u64 n4), (AV.int .u64 n5)]))) ∧
 bsel (decide (n5 > 0)) (
  ptrK a0 0 fun m6 m7 =>
  (0 ≤ a1) ∧
  (a1 < 1920) ∧
  ∃ (s8 : St),
  ((wrN s (AV.ptr m6 (m7 + (Int.toNat a1))) [(AV.int .u64 18446744073709551615)]) = (some s8)) ∧
  (Q (AV.tuple []) s8)
 ) (
  ptrK a0 0 fun m9 m10 =>
  (0 ≤ a1) ∧
  (a1 < 1920) ∧
  ∃ (s11 : St),
  ((wrN s (AV.ptr m9 (m10 + (Int.toNat a1))) [(AV.int .u64 n4)]) = (some s11)) ∧
  (Q (AV.tuple []) s11)
 )
set_option maxRecDepth 100000 in
theorem vc.p_sketch_row_put_ok {a0 : AV} {a1 : Int} {a2 : Int} {s : St} {Q : AV → St → Prop} (h : vc.p_sketch_row_put a0 a1 a2 s Q) : CallsD P F.p_sketch_row_put [a0, .int .i64 a1, .int .u64 a2] s Q :=
 fnD_ok (C := C.p_sketch_row_put) hD hX rfl mixes (fi := fnI Try.f65) (by kernel_rfl) (by kernel_rfl) (cast (by kernel_rfl : vc.p_sketch_row_put a0 a1 a2 s Q = wpC P C.p_sketch_row_put 1000000 (fnI Try.f65).body ⟨PT.setAll .nil 0 [a0, .int .i64 a1, .int .u64 a2], max [a0, .int .i64 a1, .int .u64 a2].length (fnI Try.f65).nt, s, []⟩ (endW C.p_sketch_row_put (fnI Try.f65).results Q)) h)
def C.p_sketch_row_bars : Cx := { D := D, rt := rt, its := [], lps := [(0, [7, 21, 14, 13, 15, 16, 17, 18, 19, 20, 3, 9, 10, 11, 12, 4, 5, 8], [3, 7])], det := true }
set_option maxRecDepth 100000 in
def vc.p_sketch_row_bars (a0 : AV) (s : St) (Q : (AV → (St → Prop))) : Prop :=
 ∃ (I1 : (AV → (Int → (St → (Nat → Prop))))),
 (
  ∃ (m2 : Nat),
  (I1 AV.nilslice 0 s m2)
 ) ∧
 ∀ (x3 : AV) (n4 : Int) (s5 : St) (m6 : Nat),
 (I1 x3 n4 s5 m6) →
 bsel (decide (n4 < 1920)) (
  ∀ (s7 : St),
  (Bump s5 6 s7) →
  ptrK a0 0 fun m8 m9 =>
  (0 ≤ n4) ∧
  (n4 < 1920) ∧
  ∃ (n10 : Int),
  ((ld1 s7 (AV.ptr m8 (m9 + (Int.toNat n4)))) = (some (AV.int .u64 n10))) ∧
  bsel (decide (n10 > 0)) (
   ∀ (m11 : Nat) (s12 : St),
   (NewO s7 (cellsO [(AV.int .i64 n4), (AV.int .u64 n10)]) m11 s12) →
   ∃ (x13 : AV) (s14 : St),
   ((appendX D s12 T.sl_api_Bar T.sl_api_Bar x3 (AV.slice m11 0 1 (ACap.exact 1))) = (some (x13, s14))) ∧
   ∃ (m15 : Nat),
   (m15 < m6) ∧
   (I1 x13 (IntKind.wrap .i64 (n4 + 1)) s14 m15)
  ) (
   ∃ (m16 : Nat),
   (m16 < m6) ∧
   (I1 x3 (IntKind.wrap .i64 (n4 + 1)) s7 m16)
  )
 ) (
  (Q x3 s5)
 )
set_option maxRecDepth 100000 in
theorem vc.p_sketch_row_bars_ok {a0 : AV} {s : St} {Q : AV → St → Prop} (h : vc.p_sketch_row_bars a0 s Q) : CallsD P F.p_sketch_row_bars [a0] s Q :=
 fnD_ok (C := C.p_sketch_row_bars) hD hX rfl mixes (fi := fnI Try.f66) (by kernel_rfl) (by kernel_rfl) (cast (by kernel_rfl : vc.p_sketch_row_bars a0 s Q = wpC P C.p_sketch_row_bars 1000000 (fnI Try.f66).body ⟨PT.setAll .nil 0 [a0], max [a0].length (fnI Try.f66).nt, s, []⟩ (endW C.p_sketch_row_bars (fnI Try.f66).results Q)) h)
end
end Go.Eng.S

namespace Go.Eng.S
open Go Go.Eng Go.Proofs
noncomputable section
def C.calls_plus : Cx := { D := D, rt := rt, its := [], lps := [], det := true }
set_option maxRecDepth 100000 in
def vc.calls_plus (a0_0 : Int) (a0_1 : Int) (a1_0 : Int) (a1_1 : Int) (s : St) (Q : (AV → (St → Prop))) : Prop :=
 ∀ (m1 : Nat) (s2 : St),
 (NewO s (cellsO [(AV.int .u64 a0_0), (AV.int .u64 a0_1)]) m1 s2) →
 ∀ (m3 : Nat) (s4 : St),
 (NewO s2 (cellsO [(AV.int .u64 a1_0), (AV.int .u64 a1_1)]) m3 s4) →
 ∀ (m5 : Nat) (s6 : St),
 (NewO s4 (cellsO [(AV.int .u64 0), (AV.int .u64 0)]) m5 s6) →
 ∃ (n7 : Int),
 ((ld1 s6 (AV.ptr m1 1)) = (some (AV.int .u64 n7))) ∧
 ∃ (n8 : Int),
 ((ld1 s6 (AV.ptr m3 1)) = (some (AV.int .u64 n8))) ∧
 ∃ (n9 : Int) (n10 : Int),
 ((add64 [(AV.int .u64 n7), (AV.int .u64 n8), (AV.int .u64 0)]) = (some (AV.tuple [(AV.int .u64 n9), (AV.int .u64 n10)]))) ∧
 ∃ (n11 : Int),
 ((ld1 s6 (AV.ptr m1 0)) = (some (AV.int .u64 n11))) ∧
 ∃ (n12 : Int),
 ((ld1 s6 (AV.ptr m3 0)) = (some (AV.int .u64 n12))) ∧
 ∃ (n13 : Int) (n14 : Int),
 ((add64 [(AV.int .u64 n11), (AV.int .u64 n12), (AV.int .u64 n10)]) = (some (AV.tuple [(AV.int .u64 n13), (AV.int .u64 n14)]))) ∧
 bsel (decide (n14 > 0)) (
  ∃ (s15 : St),
  ((wrN s6 (AV.ptr m5 0) [(AV.int .u64 18446744073709551615), (AV.int .u64 18446744073709551615)]) = (some s15)) ∧
  ∃ (n16 : Int) (n17 : Int),
  ((ldN s15 (AV.ptr m5 0) 2) = (some [(AV.int .u64 n16), (AV.int .u64 n17)])) ∧
  (Q (AV.agg [(AV.int .u64 n16), (AV.int .u64 n17)]) s15)
 ) (
  ∃ (s18 : St),
  ((wrN s6 (AV.ptr m5 0) [(AV.int .u64 n13), (AV.int .u64 n9)]) = (some s18)) ∧
  ∃ (n19 : Int) (n20 : Int),
  ((ldN s18 (AV.ptr m5 0) 2) = (some [(AV.int .u64 n19), (AV.int .u64 n20)])) ∧
  (Q (AV.agg [(AV.int .u64 n19), (AV.int .u64 n20)]) s18)
 )
set_option maxRecDepth 100000 in
theorem vc.calls_plus_ok {a0_0 : Int} {a0_1 : Int} {a1_0 : Int} {a1_1 : Int} {s : St} {Q : AV → St → Prop} (h : vc.calls_plus a0_0 a0_1 a1_0 a1_1 s Q) : CallsD P F.calls_plus [.agg [.int .u64 a0_0, .int .u64 a0_1], .agg [.int .u64 a1_0, .int .u64 a1_1]] s Q :=
 fnD_ok (C := C.calls_plus) hD hX rfl mixes (fi := fnI Try.f50) (by kernel_rfl) (by kernel_rfl) (cast (by kernel_rfl : vc.calls_plus a0_0 a0_1 a1_0 a1_1 s Q = wpC P C.calls_plus 1000000 (fnI Try.f50).body ⟨PT.setAll .nil 0 [.agg [.int .u64 a0_0, .int .u64 a0_1], .agg [.int .u64 a1_0, .int .u64 a1_1]], max [.agg [.int .u64 a0_0, .int .u64 a0_1], .agg [.int .u64 a1_0, .int .u64 a1_1]].length (fnI Try.f50).nt, s, []⟩ (endW C.calls_plus (fnI Try.f50).results Q)) h)
def C.calls_Plus : Cx := { D := D, rt := rt, its := [], lps := [], det := true }
set_option maxRecDepth 100000 in
def vc.calls_Plus (a0_0 : Int) (a0_1 : Int) (a0_2 : Int) (a0_3 : Int) (a0_4 : Int) (a0_5 : Int) (a0_6 : AV) (a1_0 : Int) (a1_1 : Int) (a1_2 : Int) (a1_3 : Int) (a1_4 : Int) (a1_5 : Int) (a1_6 : AV) (s : St) (Q : (AV → (St → Prop))) : Prop :=
 ∀ (m1 : Nat) (s2 : St),
 (NewO s (cellsO [(AV.int .u64 a0_0), (AV.int .u64 a0_1), (AV.int .u64 a0_2), (AV.int .u64 a0_3), (AV.int .u64 a0_4), (AV.int .u64 a0_5), a0_6]) m1 s2) →
 ∀ (m3 : Nat) (s4 : St),
 (NewO s2 (cellsO [(AV.int .u64 a1_0), (AV.int .u64 a1_1), (AV.int .u64 a1_2), (AV.int .u64 a1_3), (AV.int .u64 a1_4), (AV.int .u64 a1_5), a1_6]) m3 s4) →
 ∀ (m5 : Nat) (s6 : St),
 (NewO s4 (cellsO [(AV.int .u64 0), (AV.int .u64 0), (AV.int .u64 0), (AV.int .u64 0), (AV.int .u64 0), (AV.int .u64 0), AV.nilslice]) m5 s6) →
 ∃ (x7 : AV),
 ((ld1 s6 (AV.ptr m1 6)) = (some x7)) ∧
 ∃ (x8 : AV),
 ((ld1 s6 (AV.ptr m3 6)) = (some x8)) ∧
 CallsD P F.sketch_Merge [x7, x8] s6 fun x9 s10 =>
 ∃ (x11 : AV) (n12 : Int),
 (x9 = (AV.tuple [x11, (AV.int .i64 n12)])) ∧
 bsel (n12 != 0) (
  ∃ (s13 : St),
  ((wrN s10 (AV.ptr m5 0) [(AV.int .u64 0), (AV.int .u64 0), (AV.int .u64 0), (AV.int .u64 0), (AV.int .u64 0), (AV.int .u64 0), AV.nilslice]) = (some s13)) ∧
  ∃ (n14 : Int) (n15 : Int) (n16 : Int) (n17 : Int) (n18 : Int) (n19 : Int) (x20 : AV),
  ((ldN s13 (AV.ptr m5 0) 7) = (some [(AV.int .u64 n14), (AV.int .u64 n15), (AV.int .u64 n16), (AV.int .u64 n17), (AV.int .u64 n18), (AV.int .u64 n19), x20])) ∧
  (Q (AV.tuple [(AV.agg [(AV.int .u64 n14), (AV.int .u64 n15), (AV.int .u64 n16), (AV.int .u64 n17), (AV.int .u64 n18), (AV.int .u64 n19), x20]), (AV.int .i64 n12)]) s13)
 ) (
  ∀ (s21 : St),
  (Bump s10 19 s21) →
  ∃ (n22 : Int) (n23 : Int),
  ((ldN s21 (AV.ptr m1 0) 2) = (some [(AV.int .u64 n22), (AV.int .u64 n23)])) ∧
  ∃ (n24 : Int) (n25 : Int),
  ((ldN s21 (AV.ptr m3 0) 2) = (some [(AV.int .u64 n24), (AV.int .u64 n25)])) ∧
  CallsD P F.calls_plus [(AV.agg [(AV.int .u64 n22), (AV.int .u64 n23)]), (AV.agg [(AV.int .u64 n24), (AV.int .u64 n25)])] s21 fun x26 s27 =>
  ∃ (n28 : Int) (n29 : Int),
  (x26 = (AV.agg [(AV.int .u64 n28), (AV.int .u64 n29)])) ∧
  ∃ (n30 : Int) (n31 : Int),
  ((ldN s27 (AV.ptr m1 2) 2) = (some [(AV.int .u64 n30), (AV.int .u64 n31)])) ∧
  ((ldN s21 (AV.ptr m1 2) 2) = (some [(AV.int .u64 n30), (AV.int .u64 n31)])) ∧
  ∃ (n32 : Int) (n33 : Int),
  ((ldN s27 (AV.ptr m3 2) 2) = (some [(AV.int .u64 n32), (AV.int .u64 n33)])) ∧
  ((ldN s21 (AV.ptr m3 2) 2) = (some [(AV.int .u64 n32), (AV.int .u64 n33)])) ∧
  CallsD P F.calls_plus [(AV.agg [(AV.int .u64 n30), (AV.int .u64 n31)]), (AV.agg [(AV.int .u64 n32), (AV.int .u64 n33)])] s27 fun x34 s35 =>
  ∃ (n36 : Int) (n37 : Int),
  (x34 = (AV.agg [(AV.int .u64 n36), (AV.int .u64 n37)])) ∧
  ∃ (n38 : Int) (n39 : Int),
  ((ldN s35 (AV.ptr m1 4) 2) = (some [(AV.int .u64 n38), (AV.int .u64 n39)])) ∧
  ((ldN s27 (AV.ptr m1 4) 2) = (some [(AV.int .u64 n38), (AV.int .u64 n39)])) ∧
  ((ldN s21 (AV.ptr m1 4) 2) = (some [(AV.int .u64 n38), (AV.int .u64 n39)])) ∧
  ∃ (n40 : Int) (n41 : Int),
  ((ldN s35 (AV.ptr m3 4) 2) = (some [(AV.int .u64 n40), (AV.int .u64 n41)])) ∧
  ((ldN s27 (AV.ptr m3 4) 2) = (some [(AV.int .u64 n40), (AV.int .u64 n41)])) ∧
  ((ldN s21 (AV.ptr m3 4) 2) = (some [(AV.int .u64 n40), (AV.int .u64 n41)])) ∧
  CallsD P F.calls_plus [(AV.agg [(AV.int .u64 n38), (AV.int .u64 n39)]), (AV.agg [(AV.int .u64 n40), (AV.int .u64 n41)])] s35 fun x42 s43 =>
  ∃ (n44 : Int) (n45 : Int),
  (x42 = (AV.agg [(AV.int .u64 n44), (AV.int .u64 n45)])) ∧
  (oneK x11 (∃ s46 : St, (((wrN s43 (AV.ptr m5 0) [(AV.int .u64 n28), (AV.int .u64 n29), (AV.int .u64 n36), (AV.int .u64 n37), (AV.int .u64 n44), (AV.int .u64 n45), x11]) = (some s46)) ∧ (∃ n47 : Int, (∃ n48 : Int, (∃ n49 : Int, (∃ n50 : Int, (∃ n51 : Int, (∃ n52 : Int, (∃ x53 : AV, (((ldN s46 (AV.ptr m5 0) 7) = (some [(AV.int .u64 n47), (AV.int .u64 n48), (AV.int .u64 n49), (AV.int .u64 n50), (AV.int .u64 n51), (AV.int .u64 n52), x53])) ∧ (Q (AV.tuple [(AV.agg [(AV.int .u64 n47), (AV.int .u64 n48), (AV.int .u64 n49), (AV.int .u64 n50), (AV.int .u64 n51), (AV.int .u64 n52), x53]), (AV.int .i64 0)]) s46))))))))))))
 )
set_option maxRecDepth 100000 in
theorem vc.calls_Plus_ok {a0_0 : Int} {a0_1 : Int} {a0_2 : Int} {a0_3 : Int} {a0_4 : Int} {a0_5 : Int} {a0_6 : AV} {a1_0 : Int} {a1_1 : Int} {a1_2 : Int} {a1_3 : Int} {a1_4 : Int} {a1_5 : Int} {a1_6 : AV} {s : St} {Q : AV → St → Prop} (h : vc.calls_Plus a0_0 a0_1 a0_2 a0_3 a0_4 a0_5 a0_6 a1_0 a1_1 a1_2 a1_3 a1_4 a1_5 a1_6 s Q) : CallsD P F.calls_Plus [.agg [.int .u64 a0_0, .int .u64 a0_1, .int .u64 a0_2, .int .u64 a0_3, .int .u64 a0_4, .int .u64 a0_5, a0_6], .agg [.int .u64 a1_0, .int .u64 a1_1, .int .u64 a1_2, .int .u64 a1_3, .int .u64 a1_4, .int .u64 a1_5, a1_6]] s Q :=
 fnD_ok (C := C.calls_Plus) hD hX rfl mixes (fi := fnI Try.f33) (by kernel_rfl) (by kernel_rfl) (cast (by kernel_rfl : vc.calls_Plus a0_0 a0_1 a0_2 a0_3 a0_4 a0_5 a0_6 a1_0 a1_1 a1_2 a1_3 a1_4 a1_5 a1_6 s Q = wpC P C.calls_Plus 1000000 (fnI Try.f33).body ⟨PT.setAll .nil 0 [.agg [.int .u64 a0_0, .int .u64 a0_1, .int .u64 a0_2, .int .u64 a0_3, .int .u64 a0_4, .int .u64 a0_5, a0_6], .agg [.int .u64 a1_0, .int .u64 a1_1, .int .u64 a1_2, .int .u64 a1_3, .int .u64 a1_4, .int .u64 a1_5, a1_6]], max [.agg [.int .u64 a0_0, .int .u64 a0_1, .int .u64 a0_2, .int .u64 a0_3, .int .u64 a0_4, .int .u64 a0_5, a0_6], .agg [.int .u64 a1_0, .int .u64 a1_1, .int .u64 a1_2, .int .u64 a1_3, .int .u64 a1_4, .int .u64 a1_5, a1_6]].length (fnI Try.f33).nt, s, []⟩ (endW C.calls_Plus (fnI Try.f33).results Q)) h)
end
end Go.Eng.S

namespace Go.Eng.S
open Go Go.Eng Go.Proofs
noncomputable section
end
end Go.Eng.S

namespace Go.Eng.S
open Go Go.Eng Go.Proofs
noncomputable section
end
end Go.Eng.S

namespace Go.Eng.S
open Go Go.Eng Go.Proofs
noncomputable section
def C.rollup_New : Cx := { D := D, rt := rt, its := [], lps := [], det := true }
set_option maxRecDepth 100000 in
def vc.rollup_New (a0 : Int) (s : St) (Q : (AV → (St → Prop))) : Prop :=
 bsel (decide (a0 < 2)) (
  (Q (AV.tuple [AV.nilptr, (AV.int .i64 1)]) s)
 ) (
  bsel (decide (a0 > 16)) (
   (Q (AV.tuple [AV.nilptr, (AV.int .i64 1)]) s)
  ) (
   ∀ (m1 : Nat) (s2 : St),
   (NewO s mapO m1 s2) →
   ∀ (m3 : Nat) (s4 : St),
   (NewO s2 (cellsO [(AV.int .i64 a0), (AV.map m1)]) m3 s4) →
   (Q (AV.tuple [(AV.ptr m3 0), (AV.int .i64 0)]) s4)
  )
 )
set_option maxRecDepth 100000 in
theorem vc.rollup_New_ok {a0 : Int} {s : St} {Q : AV → St → Prop} (h : vc.rollup_New a0 s Q) : CallsD P F.rollup_New [.int .i64 a0] s Q :=
 fnD_ok (C := C.rollup_New) hD hX rfl mixes (fi := fnI Try.f20) (by kernel_rfl) (by kernel_rfl) (cast (by kernel_rfl : vc.rollup_New a0 s Q = wpC P C.rollup_New 1000000 (fnI Try.f20).body ⟨PT.setAll .nil 0 [.int .i64 a0], max [.int .i64 a0].length (fnI Try.f20).nt, s, []⟩ (endW C.rollup_New (fnI Try.f20).results Q)) h)
def C.rollup_nothing : Cx := { D := D, rt := rt, its := [], lps := [], det := true }
set_option maxRecDepth 100000 in
def vc.rollup_nothing (a0_0 : Int) (a0_1 : Int) (a0_2 : Int) (a0_3 : Int) (a0_4 : Int) (a0_5 : Int) (a0_6 : AV) (s : St) (Q : (AV → (St → Prop))) : Prop :=
 ∀ (m1 : Nat) (s2 : St),
 (NewO s (cellsO [(AV.int .u64 a0_0), (AV.int .u64 a0_1), (AV.int .u64 a0_2), (AV.int .u64 a0_3), (AV.int .u64 a0_4), (AV.int .u64 a0_5), a0_6]) m1 s2) →
 ∃ (n3 : Int) (n4 : Int),
 ((ldN s2 (AV.ptr m1 0) 2) = (some [(AV.int .u64 n3), (AV.int .u64 n4)])) ∧
 bsel (if (true = true) then ((n3 == 0) && ((n4 == 0) && true)) else (! ((n3 == 0) && ((n4 == 0) && true)))) (
  ∃ (n5 : Int) (n6 : Int),
  ((ldN s2 (AV.ptr m1 2) 2) = (some [(AV.int .u64 n5), (AV.int .u64 n6)])) ∧
  bsel (if (true = true) then ((n5 == 0) && ((n6 == 0) && true)) else (! ((n5 == 0) && ((n6 == 0) && true)))) (
   ∃ (n7 : Int) (n8 : Int),
   ((ldN s2 (AV.ptr m1 4) 2) = (some [(AV.int .u64 n7), (AV.int .u64 n8)])) ∧
   bsel (if (true = true) then ((n7 == 0) && ((n8 == 0) && true)) else (! ((n7 == 0) && ((n8 == 0) && true)))) (
    ∃ (x9 : AV),
    ((ld1 s2 (AV.ptr m1 6)) = (some x9)) ∧
    slenK x9 fun m10 =>
    (Q (AV.bool (((m10 : Nat) : Int) == 0)) s2)
   ) (
    (Q (AV.bool false) s2)
   )
  ) (
   (Q (AV.bool false) s2)
  )
 ) (
  (Q (AV.bool false) s2)
 )
set_option maxRecDepth 100000 in
theorem vc.rollup_nothing_ok {a0_0 : Int} {a0_1 : Int} {a0_2 : Int} {a0_3 : Int} {a0_4 : Int} {a0_5 : Int} {a0_6 : AV} {s : St} {Q : AV → St → Prop} (h : vc.rollup_nothing a0_0 a0_1 a0_2 a0_3 a0_4 a0_5 a0_6 s Q) : CallsD P F.rollup_nothing [.agg [.int .u64 a0_0, .int .u64 a0_1, .int .u64 a0_2, .int .u64 a0_3, .int .u64 a0_4, .int .u64 a0_5, a0_6]] s Q :=
 fnD_ok (C := C.rollup_nothing) hD hX rfl mixes (fi := fnI Try.f51) (by kernel_rfl) (by kernel_rfl) (cast (by kernel_rfl : vc.rollup_nothing a0_0 a0_1 a0_2 a0_3 a0_4 a0_5 a0_6 s Q = wpC P C.rollup_nothing 1000000 (fnI Try.f51).body ⟨PT.setAll .nil 0 [.agg [.int .u64 a0_0, .int .u64 a0_1, .int .u64 a0_2, .int .u64 a0_3, .int .u64 a0_4, .int .u64 a0_5, a0_6]], max [.agg [.int .u64 a0_0, .int .u64 a0_1, .int .u64 a0_2, .int .u64 a0_3, .int .u64 a0_4, .int .u64 a0_5, a0_6]].length (fnI Try.f51).nt, s, []⟩ (endW C.rollup_nothing (fnI Try.f51).results Q)) h)
def C.p_rollup_Rollup_set : Cx := { D := D, rt := rt, its := [], lps := [], det := true }
set_option maxRecDepth 100000 in
def vc.p_rollup_Rollup_set (a0 : AV) (a1 : Int) (a2_0 : ByteArray) (a2_1 : ByteArray) (a3_0 : Int) (a3_1 : Int) (a3_2 : Int) (a3_3 : Int) (a3_4 : Int) (a3_5 : Int) (a3_6 : AV) (s : St) (Q : (AV → (St → Prop))) : Prop :=
 ∀ (m1 : Nat) (s2 : St),
 (NewO s (cellsO [(AV.str a2_0), (AV.str a2_1)]) m1 s2) →
 ∀ (m3 : Nat) (s4 : St),
 (NewO s2 (cellsO [(AV.int .u64 a3_0), (AV.int .u64 a3_1), (AV.int .u64 a3_2), (AV.int .u64 a3_3), (AV.int .u64 a3_4), (AV.int .u64 a3_5), a3_6]) m3 s4) →
 ptrK a0 0 fun m5 m6 =>
 ∃ (x7 : AV),
 ((ld1 s4 (AV.ptr m5 (m6 + 1))) = (some x7)) ∧
 ∃ (x8 : AV),
 ((lookupA D s4 T.map_int64_rollup_edges x7 (AV.int .i64 a1) false) = (some x8)) ∧
 ∃ (n9 : Int) (n10 : Int) (n11 : Int) (n12 : Int) (n13 : Int) (n14 : Int) (x15 : AV),
 ((ldN s4 (AV.ptr m3 0) 7) = (some [(AV.int .u64 n9), (AV.int .u64 n10), (AV.int .u64 n11), (AV.int .u64 n12), (AV.int .u64 n13), (AV.int .u64 n14), x15])) ∧
 CallsD P F.rollup_nothing [(AV.agg [(AV.int .u64 n9), (AV.int .u64 n10), (AV.int .u64 n11), (AV.int .u64 n12), (AV.int .u64 n13), (AV.int .u64 n14), x15])] s4 fun x16 s17 =>
 ∃ (c18 : Bool),
 (x16 = (AV.bool c18)) ∧
 bsel c18 (
  ∃ (t19 : ByteArray) (t20 : ByteArray),
  ((ldN s17 (AV.ptr m1 0) 2) = (some [(AV.str t19), (AV.str t20)])) ∧
  ∃ (s21 : St),
  ((deleteA D s17 T.rollup_edges x8 (AV.agg [(AV.str t19), (AV.str t20)])) = (some ((AV.tuple []), s21))) ∧
  ∃ (l22 : (List (AV × (AV × Nat)))),
  ((entriesA s21 x8) = (some l22)) ∧
  bsel ((((List.length l22) : Nat) : Int) == 0) (
   ptrK a0 0 fun m23 m24 =>
   ∃ (x25 : AV),
   ((ld1 s21 (AV.ptr m23 (m24 + 1))) = (some x25)) ∧
   ∃ (s26 : St),
   ((deleteA D s21 T.map_int64_rollup_edges x25 (AV.int .i64 a1)) = (some ((AV.tuple []), s26))) ∧
   (Q (AV.tuple []) s26)
  ) (
   (Q (AV.tuple []) s21)
  )
 ) (
  nilK (TD.map 45 51) x8 true fun c27 =>
  bsel c27 (
   ∀ (m28 : Nat) (s29 : St),
   (NewO s17 mapO m28 s29) →
   ptrK a0 0 fun m30 m31 =>
   ∃ (x32 : AV),
   ((ld1 s29 (AV.ptr m30 (m31 + 1))) = (some x32)) ∧
   ∃ (s33 : St),
   ((mapUpdA D s29 T.map_int64_rollup_edges x32 (AV.int .i64 a1) (AV.map m28)) = (some s33)) ∧
   ∃ (t34 : ByteArray) (t35 : ByteArray),
   ((ldN s33 (AV.ptr m1 0) 2) = (some [(AV.str t34), (AV.str t35)])) ∧
   ∃ (n36 : Int) (n37 : Int) (n38 : Int) (n39 : Int) (n40 : Int) (n41 : Int) (x42 : AV),
   ((ldN s33 (AV.ptr m3 0) 7) = (some [(AV.int .u64 n36), (AV.int .u64 n37), (AV.int .u64 n38), (AV.int .u64 n39), (AV.int .u64 n40), (AV.int .u64 n41), x42])) ∧
   ∃ (s43 : St),
   ((mapUpdA D s33 T.rollup_edges (AV.map m28) (AV.agg [(AV.str t34), (AV.str t35)]) (AV.agg [(AV.int .u64 n36), (AV.int .u64 n37), (AV.int .u64 n38), (AV.int .u64 n39), (AV.int .u64 n40), (AV.int .u64 n41), x42])) = (some s43)) ∧
   (Q (AV.tuple []) s43)
  ) (
   ∃ (t44 : ByteArray) (t45 : ByteArray),
   ((ldN s17 (AV.ptr m1 0) 2) = (some [(AV.str t44), (AV.str t45)])) ∧
   ∃ (n46 : Int) (n47 : Int) (n48 : Int) (n49 : Int) (n50 : Int) (n51 : Int) (x52 : AV),
   ((ldN s17 (AV.ptr m3 0) 7) = (some [(AV.int .u64 n46), (AV.int .u64 n47), (AV.int .u64 n48), (AV.int .u64 n49), (AV.int .u64 n50), (AV.int .u64 n51), x52])) ∧
   ∃ (s53 : St),
   ((mapUpdA D s17 T.rollup_edges x8 (AV.agg [(AV.str t44), (AV.str t45)]) (AV.agg [(AV.int .u64 n46), (AV.int .u64 n47), (AV.int .u64 n48), (AV.int .u64 n49), (AV.int .u64 n50), (AV.int .u64 n51), x52])) = (some s53)) ∧
   (Q (AV.tuple []) s53)
  )
 )
set_option maxRecDepth 100000 in
theorem vc.p_rollup_Rollup_set_ok {a0 : AV} {a1 : Int} {a2_0 : ByteArray} {a2_1 : ByteArray} {a3_0 : Int} {a3_1 : Int} {a3_2 : Int} {a3_3 : Int} {a3_4 : Int} {a3_5 : Int} {a3_6 : AV} {s : St} {Q : AV → St → Prop} (h : vc.p_rollup_Rollup_set a0 a1 a2_0 a2_1 a3_0 a3_1 a3_2 a3_3 a3_4 a3_5 a3_6 s Q) : CallsD P F.p_rollup_Rollup_set [a0, .int .i64 a1, .agg [.str a2_0, .str a2_1], .agg [.int .u64 a3_0, .int .u64 a3_1, .int .u64 a3_2, .int .u64 a3_3, .int .u64 a3_4, .int .u64 a3_5, a3_6]] s Q :=
 fnD_ok (C := C.p_rollup_Rollup_set) hD hX rfl mixes (fi := fnI Try.f34) (by kernel_rfl) (by kernel_rfl) (cast (by kernel_rfl : vc.p_rollup_Rollup_set a0 a1 a2_0 a2_1 a3_0 a3_1 a3_2 a3_3 a3_4 a3_5 a3_6 s Q = wpC P C.p_rollup_Rollup_set 1000000 (fnI Try.f34).body ⟨PT.setAll .nil 0 [a0, .int .i64 a1, .agg [.str a2_0, .str a2_1], .agg [.int .u64 a3_0, .int .u64 a3_1, .int .u64 a3_2, .int .u64 a3_3, .int .u64 a3_4, .int .u64 a3_5, a3_6]], max [a0, .int .i64 a1, .agg [.str a2_0, .str a2_1], .agg [.int .u64 a3_0, .int .u64 a3_1, .int .u64 a3_2, .int .u64 a3_3, .int .u64 a3_4, .int .u64 a3_5, a3_6]].length (fnI Try.f34).nt, s, []⟩ (endW C.p_rollup_Rollup_set (fnI Try.f34).results Q)) h)
def C.p_rollup_Rollup_Put : Cx := { D := D, rt := rt, its := [], lps := [], det := true }
set_option maxRecDepth 100000 in
def vc.p_rollup_Rollup_Put (a0 : AV) (a1 : Int) (a2_0 : ByteArray) (a2_1 : ByteArray) (a3_0 : Int) (a3_1 : Int) (a3_2 : Int) (a3_3 : Int) (a3_4 : Int) (a3_5 : Int) (a3_6 : AV) (s : St) (Q : (AV → (St → Prop))) : Prop :=
 ∀ (m1 : Nat) (s2 : St),
 (NewO s (cellsO [(AV.str a2_0), (AV.str a2_1)]) m1 s2) →
 ∀ (m3 : Nat) (s4 : St),
 (NewO s2 (cellsO [(AV.int .u64 a3_0), (AV.int .u64 a3_1), (AV.int .u64 a3_2), (AV.int .u64 a3_3), (AV.int .u64 a3_4), (AV.int .u64 a3_5), a3_6]) m3 s4) →
 bsel (decide (a1 < 0)) (
  (Q (AV.int .i64 151) s4)
 ) (
  bsel (decide (a1 ≥ 2097152)) (
   (Q (AV.int .i64 151) s4)
  ) (
   ∀ (s5 : St),
   (Bump s4 16 s5) →
   ptrK a0 0 fun m6 m7 =>
   ∃ (x8 : AV),
   ((ld1 s5 (AV.ptr m6 (m7 + 1))) = (some x8)) ∧
   ∃ (x9 : AV),
   ((lookupA D s5 T.map_int64_rollup_edges x8 (AV.int .i64 a1) false) = (some x9)) ∧
   ∃ (t10 : ByteArray) (t11 : ByteArray),
   ((ldN s5 (AV.ptr m1 0) 2) = (some [(AV.str t10), (AV.str t11)])) ∧
   ∃ (n12 : Int) (n13 : Int) (n14 : Int) (n15 : Int) (n16 : Int) (n17 : Int) (x18 : AV),
   ((lookupA D s5 T.rollup_edges x9 (AV.agg [(AV.str t10), (AV.str t11)]) false) = (some (AV.agg [(AV.int .u64 n12), (AV.int .u64 n13), (AV.int .u64 n14), (AV.int .u64 n15), (AV.int .u64 n16), (AV.int .u64 n17), x18]))) ∧
   ∃ (n19 : Int) (n20 : Int) (n21 : Int) (n22 : Int) (n23 : Int) (n24 : Int) (x25 : AV),
   ((ldN s5 (AV.ptr m3 0) 7) = (some [(AV.int .u64 n19), (AV.int .u64 n20), (AV.int .u64 n21), (AV.int .u64 n22), (AV.int .u64 n23), (AV.int .u64 n24), x25])) ∧
   CallsD P F.calls_Plus [(AV.agg [(AV.int .u64 n12), (AV.int .u64 n13), (AV.int .u64 n14), (AV.int .u64 n15), (AV.int .u64 n16), (AV.int .u64 n17), x18]), (AV.agg [(AV.int .u64 n19), (AV.int .u64 n20), (AV.int .u64 n21), (AV.int .u64 n22), (AV.int .u64 n23), (AV.int .u64 n24), x25])] s5 fun x26 s27 =>
   ∃ (n28 : Int) (n29 : Int) (n30 : Int) (n31 : Int) (n32 : Int) (n33 : Int) (x34 : AV) (n35 : Int),
   (x26 = (AV.tuple [(AV.agg [(AV.int .u64 n28), (AV.int .u64 n29), (AV.int .u64 n30), (AV.int .u64 n31), (AV.int .u64 n32), (AV.int .u64 n33), x34]), (AV.int .i64 n35)])) ∧
   ∃ (s36 : St),
   (
    ((wrN (hsetS s27 ((St.nx s4) + 13) (cellsO [(AV.int .u64 0), (AV.int .u64 0), (AV.int .u64 0), (AV.int .u64 0), (AV.int .u64 0), (AV.int .u64 0), AV.nilslice])) (AV.ptr ((St.nx s4) + 13) 0) [(AV.int .u64 n28), (AV.int .u64 n29), (AV.int .u64 n30), (AV.int .u64 n31), (AV.int .u64 n32), (AV.int .u64 n33), x34]) = (some s36))
   ) ∧
   bsel (n35 != 0) (
    (Q (AV.int .i64 n35) s36)
   ) (
    ∃ (t37 : ByteArray) (t38 : ByteArray),
    ((ldN s36 (AV.ptr m1 0) 2) = (some [(AV.str t37), (AV.str t38)])) ∧
    ∃ (n39 : Int) (n40 : Int) (n41 : Int) (n42 : Int) (n43 : Int) (n44 : Int) (x45 : AV),
    ((ldN s36 (AV.ptr ((St.nx s4) + 13) 0) 7) = (some [(AV.int .u64 n39), (AV.int .u64 n40), (AV.int .u64 n41), (AV.int .u64 n42), (AV.int .u64 n43), (AV.int .u64 n44), x45])) ∧
    CallsD P F.p_rollup_Rollup_set [a0, (AV.int .i64 a1), (AV.agg [(AV.str t37), (AV.str t38)]), (AV.agg [(AV.int .u64 n39), (AV.int .u64 n40), (AV.int .u64 n41), (AV.int .u64 n42), (AV.int .u64 n43), (AV.int .u64 n44), x45])] s36 fun x46 s47 =>
    (x46 = (AV.tuple [])) ∧
    (Q (AV.int .i64 0) s47)
   )
  )
 )
set_option maxRecDepth 100000 in
theorem vc.p_rollup_Rollup_Put_ok {a0 : AV} {a1 : Int} {a2_0 : ByteArray} {a2_1 : ByteArray} {a3_0 : Int} {a3_1 : Int} {a3_2 : Int} {a3_3 : Int} {a3_4 : Int} {a3_5 : Int} {a3_6 : AV} {s : St} {Q : AV → St → Prop} (h : vc.p_rollup_Rollup_Put a0 a1 a2_0 a2_1 a3_0 a3_1 a3_2 a3_3 a3_4 a3_5 a3_6 s Q) : CallsD P F.p_rollup_Rollup_Put [a0, .int .i64 a1, .agg [.str a2_0, .str a2_1], .agg [.int .u64 a3_0, .int .u64 a3_1, .int .u64 a3_2, .int .u64 a3_3, .int .u64 a3_4, .int .u64 a3_5, a3_6]] s Q :=
 fnD_ok (C := C.p_rollup_Rollup_Put) hD hX rfl mixes (fi := fnI Try.f18) (by kernel_rfl) (by kernel_rfl) (cast (by kernel_rfl : vc.p_rollup_Rollup_Put a0 a1 a2_0 a2_1 a3_0 a3_1 a3_2 a3_3 a3_4 a3_5 a3_6 s Q = wpC P C.p_rollup_Rollup_Put 1000000 (fnI Try.f18).body ⟨PT.setAll .nil 0 [a0, .int .i64 a1, .agg [.str a2_0, .str a2_1], .agg [.int .u64 a3_0, .int .u64 a3_1, .int .u64 a3_2, .int .u64 a3_3, .int .u64 a3_4, .int .u64 a3_5, a3_6]], max [a0, .int .i64 a1, .agg [.str a2_0, .str a2_1], .agg [.int .u64 a3_0, .int .u64 a3_1, .int .u64 a3_2, .int .u64 a3_3, .int .u64 a3_4, .int .u64 a3_5, a3_6]].length (fnI Try.f18).nt, s, []⟩ (endW C.p_rollup_Rollup_Put (fnI Try.f18).results Q)) h)
end
end Go.Eng.S

namespace Go.Eng.S
open Go Go.Eng Go.Proofs
noncomputable section
def C.rollup_order : Cx := { D := D, rt := rt, its := [], lps := [], det := true }
set_option maxRecDepth 100000 in
def vc.rollup_order (a0_0 : ByteArray) (a0_1 : ByteArray) (a0_2 : Int) (a0_3 : Int) (a0_4 : Int) (a0_5 : Int) (a0_6 : Int) (a0_7 : Int) (a0_8 : AV) (a1_0 : ByteArray) (a1_1 : ByteArray) (a1_2 : Int) (a1_3 : Int) (a1_4 : Int) (a1_5 : Int) (a1_6 : Int) (a1_7 : Int) (a1_8 : AV) (s : St) (Q : (AV → (St → Prop))) : Prop :=
 ∀ (m1 : Nat) (s2 : St),
 (NewO s (cellsO [(AV.str a0_0), (AV.str a0_1), (AV.int .u64 a0_2), (AV.int .u64 a0_3), (AV.int .u64 a0_4), (AV.int .u64 a0_5), (AV.int .u64 a0_6), (AV.int .u64 a0_7), a0_8]) m1 s2) →
 ∀ (m3 : Nat) (s4 : St),
 (NewO s2 (cellsO [(AV.str a1_0), (AV.str a1_1), (AV.int .u64 a1_2), (AV.int .u64 a1_3), (AV.int .u64 a1_4), (AV.int .u64 a1_5), (AV.int .u64 a1_6), (AV.int .u64 a1_7), a1_8]) m3 s4) →
 ∀ (s5 : St),
 (Bump s4 17 s5) →
 ∃ (t6 : ByteArray),
 ((ld1 s5 (AV.ptr m1 0)) = (some (AV.str t6))) ∧
 ∃ (t7 : ByteArray),
 ((ld1 s5 (AV.ptr m3 0)) = (some (AV.str t7))) ∧
 CallsD P F.cmp_Compare_string [(AV.str t6), (AV.str t7)] s5 fun x8 s9 =>
 ∃ (n10 : Int),
 (x8 = (AV.int .i64 n10)) ∧
 ∃ (t11 : ByteArray),
 ((ld1 s9 (AV.ptr m1 1)) = (some (AV.str t11))) ∧
 ((ld1 s5 (AV.ptr m1 1)) = (some (AV.str t11))) ∧
 ∃ (t12 : ByteArray),
 ((ld1 s9 (AV.ptr m3 1)) = (some (AV.str t12))) ∧
 ((ld1 s5 (AV.ptr m3 1)) = (some (AV.str t12))) ∧
 CallsD P F.cmp_Compare_string [(AV.str t11), (AV.str t12)] s9 fun x13 s14 =>
 ∃ (n15 : Int),
 (x13 = (AV.int .i64 n15)) ∧
 CallsD P F.cmp_Or_int [(AV.slice ((St.nx s4) + 14) 0 2 (ACap.exact 2))] (hsetS s14 ((St.nx s4) + 14) (cellsO [(AV.int .i64 n10), (AV.int .i64 n15)])) fun x16 s17 =>
 ∃ (n18 : Int),
 (x16 = (AV.int .i64 n18)) ∧
 (Q (AV.int .i64 n18) s17)
set_option maxRecDepth 100000 in
theorem vc.rollup_order_ok {a0_0 : ByteArray} {a0_1 : ByteArray} {a0_2 : Int} {a0_3 : Int} {a0_4 : Int} {a0_5 : Int} {a0_6 : Int} {a0_7 : Int} {a0_8 : AV} {a1_0 : ByteArray} {a1_1 : ByteArray} {a1_2 : Int} {a1_3 : Int} {a1_4 : Int} {a1_5 : Int} {a1_6 : Int} {a1_7 : Int} {a1_8 : AV} {s : St} {Q : AV → St → Prop} (h : vc.rollup_order a0_0 a0_1 a0_2 a0_3 a0_4 a0_5 a0_6 a0_7 a0_8 a1_0 a1_1 a1_2 a1_3 a1_4 a1_5 a1_6 a1_7 a1_8 s Q) : CallsD P F.rollup_order [.agg [.str a0_0, .str a0_1, .int .u64 a0_2, .int .u64 a0_3, .int .u64 a0_4, .int .u64 a0_5, .int .u64 a0_6, .int .u64 a0_7, a0_8], .agg [.str a1_0, .str a1_1, .int .u64 a1_2, .int .u64 a1_3, .int .u64 a1_4, .int .u64 a1_5, .int .u64 a1_6, .int .u64 a1_7, a1_8]] s Q :=
 fnD_ok (C := C.rollup_order) hD hX rfl mixes (fi := fnI Try.f46) (by kernel_rfl) (by kernel_rfl) (cast (by kernel_rfl : vc.rollup_order a0_0 a0_1 a0_2 a0_3 a0_4 a0_5 a0_6 a0_7 a0_8 a1_0 a1_1 a1_2 a1_3 a1_4 a1_5 a1_6 a1_7 a1_8 s Q = wpC P C.rollup_order 1000000 (fnI Try.f46).body ⟨PT.setAll .nil 0 [.agg [.str a0_0, .str a0_1, .int .u64 a0_2, .int .u64 a0_3, .int .u64 a0_4, .int .u64 a0_5, .int .u64 a0_6, .int .u64 a0_7, a0_8], .agg [.str a1_0, .str a1_1, .int .u64 a1_2, .int .u64 a1_3, .int .u64 a1_4, .int .u64 a1_5, .int .u64 a1_6, .int .u64 a1_7, a1_8]], max [.agg [.str a0_0, .str a0_1, .int .u64 a0_2, .int .u64 a0_3, .int .u64 a0_4, .int .u64 a0_5, .int .u64 a0_6, .int .u64 a0_7, a0_8], .agg [.str a1_0, .str a1_1, .int .u64 a1_2, .int .u64 a1_3, .int .u64 a1_4, .int .u64 a1_5, .int .u64 a1_6, .int .u64 a1_7, a1_8]].length (fnI Try.f46).nt, s, []⟩ (endW C.rollup_order (fnI Try.f46).results Q)) h)
def C.cmp_Or_int : Cx := { D := D, rt := rt, its := [], lps := [(0, [8, 16, 14, 13, 12, 15, 2, 10, 11, 5, 9], [8])], det := true }
set_option maxRecDepth 100000 in
def vc.cmp_Or_int (a0 : AV) (s : St) (Q : (AV → (St → Prop))) : Prop :=
 slenK a0 fun m1 =>
 ∃ (I2 : (Int → (St → (Nat → Prop)))),
 (
  ∃ (m3 : Nat),
  (I2 0 s m3)
 ) ∧
 ∀ (n4 : Int) (s5 : St) (m6 : Nat),
 (I2 n4 s5 m6) →
 bsel (decide (n4 < ((m1 : Nat) : Int))) (
  ixsK 1 a0 n4 fun m7 m8 =>
  ∃ (n9 : Int),
  ((ld1 s5 (AV.ptr m7 m8)) = (some (AV.int .i64 n9))) ∧
  bsel (n9 != 0) (
   (Q (AV.int .i64 n9) s5)
  ) (
   ∃ (m10 : Nat),
   (m10 < m6) ∧
   (I2 (IntKind.wrap .i64 (n4 + 1)) s5 m10)
  )
 ) (
  (Q (AV.int .i64 0) s5)
 )
set_option maxRecDepth 100000 in
theorem vc.cmp_Or_int_ok {a0 : AV} {s : St} {Q : AV → St → Prop} (h : vc.cmp_Or_int a0 s Q) : CallsD P F.cmp_Or_int [a0] s Q :=
 fnD_ok (C := C.cmp_Or_int) hD hX rfl mixes (fi := fnI Try.f56) (by kernel_rfl) (by kernel_rfl) (cast (by kernel_rfl : vc.cmp_Or_int a0 s Q = wpC P C.cmp_Or_int 1000000 (fnI Try.f56).body ⟨PT.setAll .nil 0 [a0], max [a0].length (fnI Try.f56).nt, s, []⟩ (endW C.cmp_Or_int (fnI Try.f56).results Q)) h)
def C.cmp_Compare_string : Cx := { D := D, rt := rt, its := [], lps := [], det := true }
set_option maxRecDepth 100000 in
def vc.cmp_Compare_string (a0 : ByteArray) (a1 : ByteArray) (s : St) (Q : (AV → (St → Prop))) : Prop :=
 CallsD P F.cmp_isNaN_string [(AV.str a0)] s fun x1 s2 =>
 ∃ (c3 : Bool),
 (x1 = (AV.bool c3)) ∧
 CallsD P F.cmp_isNaN_string [(AV.str a1)] s2 fun x4 s5 =>
 ∃ (c6 : Bool),
 (x4 = (AV.bool c6)) ∧
 bsel c3 (
  bsel c6 (
   (Q (AV.int .i64 0) s5)
  ) (
   (Q (AV.int .i64 (-1)) s5)
  )
 ) (
  bsel c6 (
   (Q (AV.int .i64 1) s5)
  ) (
   bsel (bytesLt (Array.toList (ByteArray.data a0)) (Array.toList (ByteArray.data a1))) (
    (Q (AV.int .i64 (-1)) s5)
   ) (
    bsel (! ((bytesLt (Array.toList (ByteArray.data a0)) (Array.toList (ByteArray.data a1))) || (bytesEq (Array.toList (ByteArray.data a0)) (Array.toList (ByteArray.data a1))))) (
     (Q (AV.int .i64 1) s5)
    ) (
     (Q (AV.int .i64 0) s5)
    )
   )
  )
 )
set_option maxRecDepth 100000 in
theorem vc.cmp_Compare_string_ok {a0 : ByteArray} {a1 : ByteArray} {s : St} {Q : AV → St → Prop} (h : vc.cmp_Compare_string a0 a1 s Q) : CallsD P F.cmp_Compare_string [.str a0, .str a1] s Q :=
 fnD_ok (C := C.cmp_Compare_string) hD hX rfl mixes (fi := fnI Try.f61) (by kernel_rfl) (by kernel_rfl) (cast (by kernel_rfl : vc.cmp_Compare_string a0 a1 s Q = wpC P C.cmp_Compare_string 1000000 (fnI Try.f61).body ⟨PT.setAll .nil 0 [.str a0, .str a1], max [.str a0, .str a1].length (fnI Try.f61).nt, s, []⟩ (endW C.cmp_Compare_string (fnI Try.f61).results Q)) h)
def C.cmp_isNaN_string : Cx := { D := D, rt := rt, its := [], lps := [], det := true }
set_option maxRecDepth 100000 in
def vc.cmp_isNaN_string (a0 : ByteArray) (s : St) (Q : (AV → (St → Prop))) : Prop :=
 (Q (AV.bool (! (bytesEq (Array.toList (ByteArray.data a0)) (Array.toList (ByteArray.data a0))))) s)
set_option maxRecDepth 100000 in
theorem vc.cmp_isNaN_string_ok {a0 : ByteArray} {s : St} {Q : AV → St → Prop} (h : vc.cmp_isNaN_string a0 s Q) : CallsD P F.cmp_isNaN_string [.str a0] s Q :=
 fnD_ok (C := C.cmp_isNaN_string) hD hX rfl mixes (fi := fnI Try.f90) (by kernel_rfl) (by kernel_rfl) (cast (by kernel_rfl : vc.cmp_isNaN_string a0 s Q = wpC P C.cmp_isNaN_string 1000000 (fnI Try.f90).body ⟨PT.setAll .nil 0 [.str a0], max [.str a0].length (fnI Try.f90).nt, s, []⟩ (endW C.cmp_isNaN_string (fnI Try.f90).results Q)) h)
def C.p_rollup_Rollup_sum : Cx := { D := D, rt := rt, its := [(20, 81), (35, 87), (52, 87)], lps := [(0, [33, 32, 31, 30, 29, 28, 27, 26, 37, 36, 11, 10, 40, 39, 38, 42, 43, 44, 45, 46, 47, 48, 41, 49, 50, 34, 35, 23, 24, 25, 8, 9, 21, 22], []), (2, [50, 49, 41, 48, 47, 46, 45, 44, 43, 42, 38, 39, 40, 10, 11, 36, 37], []), (4, [12, 63, 62, 61, 60, 59, 58, 55, 56, 57, 13, 14, 53, 54], [12])] }
set_option maxRecDepth 100000 in
def vc.p_rollup_Rollup_sum (a0 : AV) (a1 : Int) (a2 : Int) (s : St) (Q : (AV → (St → Prop))) : Prop :=
 ∀ (m1 : Nat) (s2 : St),
 (NewO s mapO m1 s2) →
 ptrK a0 0 fun m3 m4 =>
 ∃ (x5 : AV),
 ((ld1 s2 (AV.ptr m3 (m4 + 1))) = (some x5)) ∧
 ∃ (m6 : Nat) (s7 : St),
 ((rangeA D s2 T.map_int64_rollup_edges x5) = (some ((AV.ptr m6 0), s7))) ∧
 ∃ (I8 : (St → (Nat → Prop))),
 (
  ∃ (m9 : Nat),
  (I8 s7 m9)
 ) ∧
 ∀ (s10 : St) (m11 : Nat),
 (I8 s10 m11) →
 ∃ (l12 : (List (AV × St))),
 ((nextA s10 (AV.ptr m6 0) false) = (some l12)) ∧
 ∀ (x13 : AV) (s14 : St),
 ((x13, s14) ∈ l12) →
 (((x13 = (AV.tuple [(AV.bool false)])) ∧ (∃ m15 : Nat, (∃ s16 : St, (((rangeA D s14 T.rollup_edges (AV.map m1)) = (some ((AV.ptr m15 0), s16))) ∧ (∃ I17 : (AV → (St → (Nat → Prop))), ((∃ m18 : Nat, (I17 AV.nilslice s16 m18)) ∧ (∀ x19 : AV, (∀ s20 : St, (∀ m21 : Nat, ((I17 x19 s20 m21) → (∃ l22 : (List (AV × St)), (((nextA s20 (AV.ptr m15 0) false) = (some l22)) ∧ (∀ x23 : AV, (∀ s24 : St, (((x23, s24) ∈ l22) → (((x23 = (AV.tuple [(AV.bool false)])) ∧ (CallsA P F.slices_SortFunc_sl_api_EdgeTally_api_EdgeTally [x19, (AV.func F.rollup_order [] [])] s24 (fun x25 => (fun s26 => ((x25 = (AV.tuple [])) ∧ (Q x19 s26)))))) ∨ (∃ t27 : ByteArray, (∃ t28 : ByteArray, (∃ n29 : Int, (∃ n30 : Int, (∃ n31 : Int, (∃ n32 : Int, (∃ n33 : Int, (∃ n34 : Int, (∃ x35 : AV, ((x23 = (AV.tuple [(AV.bool true), (AV.agg [(AV.str t27), (AV.str t28)]), (AV.agg [(AV.int .u64 n29), (AV.int .u64 n30), (AV.int .u64 n31), (AV.int .u64 n32), (AV.int .u64 n33), (AV.int .u64 n34), x35])])) ∧ (∃ t36 : ByteArray, (∃ t37 : ByteArray, (∃ n38 : Int, (∃ n39 : Int, (∃ n40 : Int, (∃ n41 : Int, (∃ n42 : Int, (∃ n43 : Int, (∃ x44 : AV, (((entryA s24 (AV.ptr m15 0)) = (some (AV.tuple [(AV.agg [(AV.str t36), (AV.str t37)]), (AV.agg [(AV.int .u64 n38), (AV.int .u64 n39), (AV.int .u64 n40), (AV.int .u64 n41), (AV.int .u64 n42), (AV.int .u64 n43), x44])]))) ∧ (∀ m45 : Nat, (∀ s46 : St, ((NewO s24 (cellsO [(AV.str ByteArray.empty), (AV.str ByteArray.empty)]) m45 s46) → (∀ m47 : Nat, (∀ s48 : St, ((NewO s46 (cellsO [(AV.int .u64 0), (AV.int .u64 0), (AV.int .u64 0), (AV.int .u64 0), (AV.int .u64 0), (AV.int .u64 0), AV.nilslice]) m47 s48) → (∃ s49 : St, (((wrN s48 (AV.ptr m45 0) [(AV.str t36), (AV.str t37)]) = (some s49)) ∧ (∃ s50 : St, (((wrN s49 (AV.ptr m47 0) [(AV.int .u64 n38), (AV.int .u64 n39), (AV.int .u64 n40), (AV.int .u64 n41), (AV.int .u64 n42), (AV.int .u64 n43), x44]) = (some s50)) ∧ (∃ t51 : ByteArray, (∃ t52 : ByteArray, (((ldN s50 (AV.ptr m45 0) 2) = (some [(AV.str t51), (AV.str t52)])) ∧ (∃ n53 : Int, (∃ n54 : Int, (∃ n55 : Int, (∃ n56 : Int, (∃ n57 : Int, (∃ n58 : Int, (∃ x59 : AV, (((ldN s50 (AV.ptr m47 0) 7) = (some [(AV.int .u64 n53), (AV.int .u64 n54), (AV.int .u64 n55), (AV.int .u64 n56), (AV.int .u64 n57), (AV.int .u64 n58), x59])) ∧ (∀ m60 : Nat, (∀ s61 : St, ((NewO s50 (cellsO [(AV.str t51), (AV.str t52), (AV.int .u64 n53), (AV.int .u64 n54), (AV.int .u64 n55), (AV.int .u64 n56), (AV.int .u64 n57), (AV.int .u64 n58), x59]) m60 s61) → (∃ x62 : AV, (∃ s63 : St, (((appendX D s61 T.sl_api_EdgeTally T.sl_api_EdgeTally x19 (AV.slice m60 0 1 (ACap.exact 1))) = (some (x62, s63))) ∧ (∃ m64 : Nat, ((m64 < m21) ∧ (I17 x62 s63 m64)))))))))))))))))))))))))))))))))))))))))))))))))))))))))))))))))) ∨ (∃ n65 : Int, (∃ x66 : AV, ((x13 = (AV.tuple [(AV.bool true), (AV.int .i64 n65), x66])) ∧ (∃ n67 : Int, (∃ x68 : AV, (((entryA s14 (AV.ptr m6 0)) = (some (AV.tuple [(AV.int .i64 n67), x68]))) ∧ (bsel (decide (n67 < a1)) (∃ m69 : Nat, ((m69 < m11) ∧ (I8 s14 m69))) (bsel (decide (n67 ≥ a2)) (∃ m70 : Nat, ((m70 < m11) ∧ (I8 s14 m70))) (∃ m71 : Nat, (∃ s72 : St, (((rangeA D s14 T.rollup_edges x68) = (some ((AV.ptr m71 0), s72))) ∧ (∃ I73 : (St → (Nat → Prop)), ((∃ m74 : Nat, (I73 s72 m74)) ∧ (∀ s75 : St, (∀ m76 : Nat, ((I73 s75 m76) → (∃ l77 : (List (AV × St)), (((nextA s75 (AV.ptr m71 0) false) = (some l77)) ∧ (∀ x78 : AV, (∀ s79 : St, (((x78, s79) ∈ l77) → (((x78 = (AV.tuple [(AV.bool false)])) ∧ (∃ m80 : Nat, ((m80 < m11) ∧ (I8 s79 m80)))) ∨ (∃ t81 : ByteArray, (∃ t82 : ByteArray, (∃ n83 : Int, (∃ n84 : Int, (∃ n85 : Int, (∃ n86 : Int, (∃ n87 : Int, (∃ n88 : Int, (∃ x89 : AV, ((x78 = (AV.tuple [(AV.bool true), (AV.agg [(AV.str t81), (AV.str t82)]), (AV.agg [(AV.int .u64 n83), (AV.int .u64 n84), (AV.int .u64 n85), (AV.int .u64 n86), (AV.int .u64 n87), (AV.int .u64 n88), x89])])) ∧ (∃ t90 : ByteArray, (∃ t91 : ByteArray, (∃ n92 : Int, (∃ n93 : Int, (∃ n94 : Int, (∃ n95 : Int, (∃ n96 : Int, (∃ n97 : Int, (∃ x98 : AV, (((entryA s79 (AV.ptr m71 0)) = (some (AV.tuple [(AV.agg [(AV.str t90), (AV.str t91)]), (AV.agg [(AV.int .u64 n92), (AV.int .u64 n93), (AV.int .u64 n94), (AV.int .u64 n95), (AV.int .u64 n96), (AV.int .u64 n97), x98])]))) ∧ (∀ m99 : Nat, (∀ s100 : St, ((NewO s79 (cellsO [(AV.str ByteArray.empty), (AV.str ByteArray.empty)]) m99 s100) → (∀ m101 : Nat, (∀ s102 : St, ((NewO s100 (cellsO [(AV.int .u64 0), (AV.int .u64 0), (AV.int .u64 0), (AV.int .u64 0), (AV.int .u64 0), (AV.int .u64 0), AV.nilslice]) m101 s102) → (∃ s103 : St, (((wrN s102 (AV.ptr m99 0) [(AV.str t90), (AV.str t91)]) = (some s103)) ∧ (∃ s104 : St, (((wrN s103 (AV.ptr m101 0) [(AV.int .u64 n92), (AV.int .u64 n93), (AV.int .u64 n94), (AV.int .u64 n95), (AV.int .u64 n96), (AV.int .u64 n97), x98]) = (some s104)) ∧ (∀ s105 : St, ((Bump s104 11 s105) → (∃ t106 : ByteArray, (∃ t107 : ByteArray, (((ldN s105 (AV.ptr m99 0) 2) = (some [(AV.str t106), (AV.str t107)])) ∧ (∃ t108 : ByteArray, (∃ t109 : ByteArray, (((ldN s105 (AV.ptr m99 0) 2) = (some [(AV.str t108), (AV.str t109)])) ∧ (∃ n110 : Int, (∃ n111 : Int, (∃ n112 : Int, (∃ n113 : Int, (∃ n114 : Int, (∃ n115 : Int, (∃ x116 : AV, (((lookupA D s105 T.rollup_edges (AV.map m1) (AV.agg [(AV.str t108), (AV.str t109)]) false) = (some (AV.agg [(AV.int .u64 n110), (AV.int .u64 n111), (AV.int .u64 n112), (AV.int .u64 n113), (AV.int .u64 n114), (AV.int .u64 n115), x116]))) ∧ (∃ n117 : Int, (∃ n118 : Int, (∃ n119 : Int, (∃ n120 : Int, (∃ n121 : Int, (∃ n122 : Int, (∃ x123 : AV, (((ldN s105 (AV.ptr m101 0) 7) = (some [(AV.int .u64 n117), (AV.int .u64 n118), (AV.int .u64 n119), (AV.int .u64 n120), (AV.int .u64 n121), (AV.int .u64 n122), x123])) ∧ (CallsD P F.calls_Plus [(AV.agg [(AV.int .u64 n110), (AV.int .u64 n111), (AV.int .u64 n112), (AV.int .u64 n113), (AV.int .u64 n114), (AV.int .u64 n115), x116]), (AV.agg [(AV.int .u64 n117), (AV.int .u64 n118), (AV.int .u64 n119), (AV.int .u64 n120), (AV.int .u64 n121), (AV.int .u64 n122), x123])] s105 (fun x124 => (fun s125 => (∃ n126 : Int, (∃ n127 : Int, (∃ n128 : Int, (∃ n129 : Int, (∃ n130 : Int, (∃ n131 : Int, (∃ x132 : AV, (∃ n133 : Int, ((x124 = (AV.tuple [(AV.agg [(AV.int .u64 n126), (AV.int .u64 n127), (AV.int .u64 n128), (AV.int .u64 n129), (AV.int .u64 n130), (AV.int .u64 n131), x132]), (AV.int .i64 n133)])) ∧ (((ldN s125 (AV.ptr m99 0) 2) = (some [(AV.str t106), (AV.str t107)])) ∧ (∃ s134 : St, (((mapUpdA D s125 T.rollup_edges (AV.map m1) (AV.agg [(AV.str t106), (AV.str t107)]) (AV.agg [(AV.int .u64 n126), (AV.int .u64 n127), (AV.int .u64 n128), (AV.int .u64 n129), (AV.int .u64 n130), (AV.int .u64 n131), x132])) = (some s134)) ∧ (∃ m135 : Nat, ((m135 < m76) ∧ (I73 s134 m135)))))))))))))))))))))))))))))))))))))))))))))))))))))))))))))))))))))))))))))))))))))))))))))))
set_option maxRecDepth 100000 in
theorem vc.p_rollup_Rollup_sum_ok {a0 : AV} {a1 : Int} {a2 : Int} {s : St} {Q : AV → St → Prop} (h : vc.p_rollup_Rollup_sum a0 a1 a2 s Q) : CallsA P F.p_rollup_Rollup_sum [a0, .int .i64 a1, .int .i64 a2] s Q :=
 fnB_ok (C := C.p_rollup_Rollup_sum) hD hX mixes (fi := fnI Try.f29) (by kernel_rfl) (by kernel_rfl) (cast (by kernel_rfl : vc.p_rollup_Rollup_sum a0 a1 a2 s Q = wpC P C.p_rollup_Rollup_sum 1000000 (fnI Try.f29).body ⟨PT.setAll .nil 0 [a0, .int .i64 a1, .int .i64 a2], max [a0, .int .i64 a1, .int .i64 a2].length (fnI Try.f29).nt, s, []⟩ (endW C.p_rollup_Rollup_sum (fnI Try.f29).results Q)) h)
def C.p_rollup_Rollup_Range : Cx := { D := D, rt := rt, its := [], lps := [] }
set_option maxRecDepth 100000 in
def vc.p_rollup_Rollup_Range (a0 : AV) (a1 : Int) (a2 : Int) (s : St) (Q : (AV → (St → Prop))) : Prop :=
 bsel (decide (a1 < 0)) (
  (Q (AV.tuple [AV.nilslice, (AV.int .i64 151)]) s)
 ) (
  bsel (decide (a1 > a2)) (
   (Q (AV.tuple [AV.nilslice, (AV.int .i64 151)]) s)
  ) (
   bsel (decide (a2 > 2097152)) (
    (Q (AV.tuple [AV.nilslice, (AV.int .i64 151)]) s)
   ) (
    CallsA P F.p_rollup_Rollup_sum [a0, (AV.int .i64 a1), (AV.int .i64 a2)] s fun x1 s2 =>
    ∃ (x3 : AV),
    (x1 = x3) ∧
    (Q (AV.tuple [x3, (AV.int .i64 0)]) s2)
   )
  )
 )
set_option maxRecDepth 100000 in
theorem vc.p_rollup_Rollup_Range_ok {a0 : AV} {a1 : Int} {a2 : Int} {s : St} {Q : AV → St → Prop} (h : vc.p_rollup_Rollup_Range a0 a1 a2 s Q) : CallsA P F.p_rollup_Rollup_Range [a0, .int .i64 a1, .int .i64 a2] s Q :=
 fnB_ok (C := C.p_rollup_Rollup_Range) hD hX mixes (fi := fnI Try.f11) (by kernel_rfl) (by kernel_rfl) (cast (by kernel_rfl : vc.p_rollup_Rollup_Range a0 a1 a2 s Q = wpC P C.p_rollup_Rollup_Range 1000000 (fnI Try.f11).body ⟨PT.setAll .nil 0 [a0, .int .i64 a1, .int .i64 a2], max [a0, .int .i64 a1, .int .i64 a2].length (fnI Try.f11).nt, s, []⟩ (endW C.p_rollup_Rollup_Range (fnI Try.f11).results Q)) h)
end
end Go.Eng.S

namespace Go.Eng.S
open Go Go.Eng Go.Proofs
noncomputable section
def C.spoorref15_EdgeLess : Cx := { D := D, rt := rt, its := [], lps := [], det := true }
set_option maxRecDepth 100000 in
def vc.spoorref15_EdgeLess (a0_0 : ByteArray) (a0_1 : ByteArray) (a1_0 : ByteArray) (a1_1 : ByteArray) (s : St) (Q : (AV → (St → Prop))) : Prop :=
 ∀ (m1 : Nat) (s2 : St),
 (NewO s (cellsO [(AV.str a0_0), (AV.str a0_1)]) m1 s2) →
 ∀ (m3 : Nat) (s4 : St),
 (NewO s2 (cellsO [(AV.str a1_0), (AV.str a1_1)]) m3 s4) →
 ∃ (t5 : ByteArray),
 ((ld1 s4 (AV.ptr m1 0)) = (some (AV.str t5))) ∧
 ∃ (t6 : ByteArray),
 ((ld1 s4 (AV.ptr m3 0)) = (some (AV.str t6))) ∧
 bsel (! (bytesEq (Array.toList (ByteArray.data t5)) (Array.toList (ByteArray.data t6)))) (
  ∃ (t7 : ByteArray),
  ((ld1 s4 (AV.ptr m1 0)) = (some (AV.str t7))) ∧
  ∃ (t8 : ByteArray),
  ((ld1 s4 (AV.ptr m3 0)) = (some (AV.str t8))) ∧
  (Q (AV.bool (bytesLt (Array.toList (ByteArray.data t7)) (Array.toList (ByteArray.data t8)))) s4)
 ) (
  ∃ (t9 : ByteArray),
  ((ld1 s4 (AV.ptr m1 1)) = (some (AV.str t9))) ∧
  ∃ (t10 : ByteArray),
  ((ld1 s4 (AV.ptr m3 1)) = (some (AV.str t10))) ∧
  (Q (AV.bool (bytesLt (Array.toList (ByteArray.data t9)) (Array.toList (ByteArray.data t10)))) s4)
 )
set_option maxRecDepth 100000 in
theorem vc.spoorref15_EdgeLess_ok {a0_0 : ByteArray} {a0_1 : ByteArray} {a1_0 : ByteArray} {a1_1 : ByteArray} {s : St} {Q : AV → St → Prop} (h : vc.spoorref15_EdgeLess a0_0 a0_1 a1_0 a1_1 s Q) : CallsD P F.spoorref15_EdgeLess [.agg [.str a0_0, .str a0_1], .agg [.str a1_0, .str a1_1]] s Q :=
 fnD_ok (C := C.spoorref15_EdgeLess) hD hX rfl mixes (fi := fnI Try.f42) (by kernel_rfl) (by kernel_rfl) (cast (by kernel_rfl : vc.spoorref15_EdgeLess a0_0 a0_1 a1_0 a1_1 s Q = wpC P C.spoorref15_EdgeLess 1000000 (fnI Try.f42).body ⟨PT.setAll .nil 0 [.agg [.str a0_0, .str a0_1], .agg [.str a1_0, .str a1_1]], max [.agg [.str a0_0, .str a0_1], .agg [.str a1_0, .str a1_1]].length (fnI Try.f42).nt, s, []⟩ (endW C.spoorref15_EdgeLess (fnI Try.f42).results Q)) h)
def C.spoorref15_SameTally : Cx := { D := D, rt := rt, its := [], lps := [(0, [51, 50, 49, 48, 47, 46, 45, 44, 43, 42, 41, 4, 39, 40, 5, 34, 35, 36, 37, 38], [5])], det := true }
set_option maxRecDepth 100000 in
def vc.spoorref15_SameTally (a0_0 : Int) (a0_1 : Int) (a0_2 : Int) (a0_3 : Int) (a0_4 : Int) (a0_5 : Int) (a0_6 : AV) (a1_0 : Int) (a1_1 : Int) (a1_2 : Int) (a1_3 : Int) (a1_4 : Int) (a1_5 : Int) (a1_6 : AV) (s : St) (Q : (AV → (St → Prop))) : Prop :=
 ∀ (m1 : Nat) (s2 : St),
 (NewO s (cellsO [(AV.int .u64 a0_0), (AV.int .u64 a0_1), (AV.int .u64 a0_2), (AV.int .u64 a0_3), (AV.int .u64 a0_4), (AV.int .u64 a0_5), a0_6]) m1 s2) →
 ∀ (m3 : Nat) (s4 : St),
 (NewO s2 (cellsO [(AV.int .u64 a1_0), (AV.int .u64 a1_1), (AV.int .u64 a1_2), (AV.int .u64 a1_3), (AV.int .u64 a1_4), (AV.int .u64 a1_5), a1_6]) m3 s4) →
 ∃ (n5 : Int) (n6 : Int),
 ((ldN s4 (AV.ptr m1 0) 2) = (some [(AV.int .u64 n5), (AV.int .u64 n6)])) ∧
 ∃ (n7 : Int) (n8 : Int),
 ((ldN s4 (AV.ptr m3 0) 2) = (some [(AV.int .u64 n7), (AV.int .u64 n8)])) ∧
 bsel (if (false = true) then ((n5 == n7) && ((n6 == n8) && true)) else (! ((n5 == n7) && ((n6 == n8) && true)))) (
  (Q (AV.bool false) s4)
 ) (
  ∃ (n9 : Int) (n10 : Int),
  ((ldN s4 (AV.ptr m1 2) 2) = (some [(AV.int .u64 n9), (AV.int .u64 n10)])) ∧
  ∃ (n11 : Int) (n12 : Int),
  ((ldN s4 (AV.ptr m3 2) 2) = (some [(AV.int .u64 n11), (AV.int .u64 n12)])) ∧
  bsel (if (false = true) then ((n9 == n11) && ((n10 == n12) && true)) else (! ((n9 == n11) && ((n10 == n12) && true)))) (
   (Q (AV.bool false) s4)
  ) (
   ∃ (n13 : Int) (n14 : Int),
   ((ldN s4 (AV.ptr m1 4) 2) = (some [(AV.int .u64 n13), (AV.int .u64 n14)])) ∧
   ∃ (n15 : Int) (n16 : Int),
   ((ldN s4 (AV.ptr m3 4) 2) = (some [(AV.int .u64 n15), (AV.int .u64 n16)])) ∧
   bsel (if (false = true) then ((n13 == n15) && ((n14 == n16) && true)) else (! ((n13 == n15) && ((n14 == n16) && true)))) (
    (Q (AV.bool false) s4)
   ) (
    ∃ (x17 : AV),
    ((ld1 s4 (AV.ptr m1 6)) = (some x17)) ∧
    slenK x17 fun m18 =>
    ∃ (x19 : AV),
    ((ld1 s4 (AV.ptr m3 6)) = (some x19)) ∧
    slenK x19 fun m20 =>
    bsel (((m18 : Nat) : Int) != ((m20 : Nat) : Int)) (
     (Q (AV.bool false) s4)
    ) (
     ∃ (I21 : (Int → (St → (Nat → Prop)))),
     (
      ∃ (m22 : Nat),
      (I21 0 s4 m22)
     ) ∧
     ∀ (n23 : Int) (s24 : St) (m25 : Nat),
     (I21 n23 s24 m25) →
     ∃ (x26 : AV),
     ((ld1 s24 (AV.ptr m1 6)) = (some x26)) ∧
     slenK x26 fun m27 =>
     bsel (decide (n23 < ((m27 : Nat) : Int))) (
      ∀ (s28 : St),
      (Bump s24 11 s28) →
      ∃ (x29 : AV),
      ((ld1 s28 (AV.ptr m1 6)) = (some x29)) ∧
      ixsK 2 x29 n23 fun m30 m31 =>
      ∃ (n32 : Int) (n33 : Int),
      ((ldN s28 (AV.ptr m30 m31) 2) = (some [(AV.int .i64 n32), (AV.int .u64 n33)])) ∧
      ∃ (x34 : AV),
      ((ld1 s28 (AV.ptr m3 6)) = (some x34)) ∧
      ixsK 2 x34 n23 fun m35 m36 =>
      ∃ (n37 : Int) (n38 : Int),
      ((ldN s28 (AV.ptr m35 m36) 2) = (some [(AV.int .i64 n37), (AV.int .u64 n38)])) ∧
      bsel (if (false = true) then ((n32 == n37) && ((n33 == n38) && true)) else (! ((n32 == n37) && ((n33 == n38) && true)))) (
       (Q (AV.bool false) s28)
      ) (
       ∃ (m39 : Nat),
       (m39 < m25) ∧
       (I21 (IntKind.wrap .i64 (n23 + 1)) s28 m39)
      )
     ) (
      (Q (AV.bool true) s24)
     )
    )
   )
  )
 )
set_option maxRecDepth 100000 in
theorem vc.spoorref15_SameTally_ok {a0_0 : Int} {a0_1 : Int} {a0_2 : Int} {a0_3 : Int} {a0_4 : Int} {a0_5 : Int} {a0_6 : AV} {a1_0 : Int} {a1_1 : Int} {a1_2 : Int} {a1_3 : Int} {a1_4 : Int} {a1_5 : Int} {a1_6 : AV} {s : St} {Q : AV → St → Prop} (h : vc.spoorref15_SameTally a0_0 a0_1 a0_2 a0_3 a0_4 a0_5 a0_6 a1_0 a1_1 a1_2 a1_3 a1_4 a1_5 a1_6 s Q) : CallsD P F.spoorref15_SameTally [.agg [.int .u64 a0_0, .int .u64 a0_1, .int .u64 a0_2, .int .u64 a0_3, .int .u64 a0_4, .int .u64 a0_5, a0_6], .agg [.int .u64 a1_0, .int .u64 a1_1, .int .u64 a1_2, .int .u64 a1_3, .int .u64 a1_4, .int .u64 a1_5, a1_6]] s Q :=
 fnD_ok (C := C.spoorref15_SameTally) hD hX rfl mixes (fi := fnI Try.f23) (by kernel_rfl) (by kernel_rfl) (cast (by kernel_rfl : vc.spoorref15_SameTally a0_0 a0_1 a0_2 a0_3 a0_4 a0_5 a0_6 a1_0 a1_1 a1_2 a1_3 a1_4 a1_5 a1_6 s Q = wpC P C.spoorref15_SameTally 1000000 (fnI Try.f23).body ⟨PT.setAll .nil 0 [.agg [.int .u64 a0_0, .int .u64 a0_1, .int .u64 a0_2, .int .u64 a0_3, .int .u64 a0_4, .int .u64 a0_5, a0_6], .agg [.int .u64 a1_0, .int .u64 a1_1, .int .u64 a1_2, .int .u64 a1_3, .int .u64 a1_4, .int .u64 a1_5, a1_6]], max [.agg [.int .u64 a0_0, .int .u64 a0_1, .int .u64 a0_2, .int .u64 a0_3, .int .u64 a0_4, .int .u64 a0_5, a0_6], .agg [.int .u64 a1_0, .int .u64 a1_1, .int .u64 a1_2, .int .u64 a1_3, .int .u64 a1_4, .int .u64 a1_5, a1_6]].length (fnI Try.f23).nt, s, []⟩ (endW C.spoorref15_SameTally (fnI Try.f23).results Q)) h)
end
end Go.Eng.S

