/-
  What is to be shown of functions of the program, and that it suffices.
  What is to be shown of functions of the program, and that it suffices.
  What is to be shown of functions of the program, and that it suffices.
  What is to be shown of functions of the program, and that it suffices.
-/
import Derived.Test.YteidlkjofcbcmaaSDefs
namespace Go.Eng.S
open Go Go.Eng Go.Proofs
noncomputable section
def C.sketch_Merge : Cx := { D := D, rt := rt, its := [], lps := [(0, [30, 40, 39, 38, 37, 36, 35, 34, 32, 33, 11, 31], [30])], det := true }
set_option maxRecDepth 100000 in
def vc.sketch_Merge (a0 : AV) (a1 : AV) (s : St) (Q : (AV → (St → Prop))) : Prop :=
 CallsD P F.sketch_laid [a0] s fun x1 s2 =>
 ∃ (x3 : AV) (c4 : Bool),
 (x1 = (AV.tuple [x3, (AV.bool c4)])) ∧
 CallsD P F.sketch_laid [a1] s2 fun x5 s6 =>
 ∃ (x7 : AV) (c8 : Bool),
 (x5 = (AV.tuple [x7, (AV.bool c8)])) ∧
 bsel (!c4) (
  (Q (AV.tuple [AV.nilslice, (AV.int .i64 131)]) s6)
 ) (
  bsel (!c8) (
   (Q (AV.tuple [AV.nilslice, (AV.int .i64 131)]) s6)
  ) (
   slenK a1 fun m9 =>
   ∃ (I10 : (Int → (St → (Nat → Prop)))),
   (
    ∃ (m11 : Nat),
    (I10 0 s6 m11)
   ) ∧
   ∀ (n12 : Int) (s13 : St) (m14 : Nat),
   (I10 n12 s13 m14) →
   bsel (decide (n12 < ((m9 : Nat) : Int))) (
    ixsK 2 a1 n12 fun m15 m16 =>
    ∃ (n17 : Int) (n18 : Int),
    ((ldN s13 (AV.ptr m15 m16) 2) = (some [(AV.int .i64 n17), (AV.int .u64 n18)])) ∧
    ∀ (m19 : Nat) (s20 : St),
    (NewO s13 (cellsO [(AV.int .i64 0), (AV.int .u64 0)]) m19 s20) →
    ∃ (s21 : St),
    ((wrN s20 (AV.ptr m19 0) [(AV.int .i64 n17), (AV.int .u64 n18)]) = (some s21)) ∧
    ∃ (n22 : Int),
    ((ld1 s21 (AV.ptr m19 0)) = (some (AV.int .i64 n22))) ∧
    ∃ (n23 : Int),
    ((ld1 s21 (AV.ptr m19 1)) = (some (AV.int .u64 n23))) ∧
    CallsD P F.p_sketch_row_put [x3, (AV.int .i64 n22), (AV.int .u64 n23)] s21 fun x24 s25 =>
    (x24 = (AV.tuple [])) ∧
    ∃ (m26 : Nat),
    (m26 < m14) ∧
    (I10 (IntKind.wrap .i64 (n12 + 1)) s25 m26)
   ) (
    CallsD P F.p_sketch_row_bars [x3] s13 fun x27 s28 =>
    ∃ (x29 : AV),
    (x27 = x29) ∧
    (Q (AV.tuple [x29, (AV.int .i64 0)]) s28)
   )
  )
 )
set_option maxRecDepth 100000 in
theorem vc.sketch_Merge_ok {a0 : AV} {a1 : AV} {s : St} {Q : AV → St → Prop} (h : vc.sketch_Merge a0 a1 s Q) : CallsD P F.sketch_Merge [a0, a1] s Q :=
 fnD_ok (C := C.sketch_Merge) hD hX rfl mixes (fi := fnI Try.f49) (by kernel_rfl) (by kernel_rfl) (cast (by kernel_rfl : vc.sketch_Merge a0 a1 s Q = wpC P C.sketch_Merge 1000000 (fnI Try.f49).body ⟨PT.setAll .nil 0 [a0, a1], max [a0, a1].length (fnI Try.f49).nt, s, []⟩ (endW C.sketch_Merge (fnI Try.f49).results Q)) h)
def C.sketch_laid : Cx := { D := D, rt := rt, its := [], lps := [(0, [10, 35, 27, 26, 25, 24, 23, 22, 21, 20, 19, 18, 17, 16, 15, 14, 2, 3, 28, 29, 30, 31, 32, 33, 34, 5, 12, 13, 7, 11], [5, 10])], det := true }
set_option maxRecDepth 100000 in
def vc.sketch_laid (a0 : AV) (s : St) (Q : (AV → (St → Prop))) : Prop :=
 ∀ (m1 : Nat) (s2 : St),
 (NewO s (cellsO (zcells D T.sketch_row)) m1 s2) →
 slenK a0 fun m3 =>
 ∃ (I4 : (Int → (Int → (St → (Nat → Prop))))),
 (
  ∃ (m5 : Nat),
  (I4 (-1) 0 s2 m5)
 ) ∧
 ∀ (n6 : Int) (n7 : Int) (s8 : St) (m9 : Nat),
 (I4 n6 n7 s8 m9) →
 bsel (decide (n7 < ((m3 : Nat) : Int))) (
  ixsK 2 a0 n7 fun m10 m11 =>
  ∃ (n12 : Int) (n13 : Int),
  ((ldN s8 (AV.ptr m10 m11) 2) = (some [(AV.int .i64 n12), (AV.int .u64 n13)])) ∧
  ∀ (m14 : Nat) (s15 : St),
  (NewO s8 (cellsO [(AV.int .i64 0), (AV.int .u64 0)]) m14 s15) →
  ∃ (s16 : St),
  ((wrN s15 (AV.ptr m14 0) [(AV.int .i64 n12), (AV.int .u64 n13)]) = (some s16)) ∧
  ∃ (n17 : Int),
  ((ld1 s16 (AV.ptr m14 0)) = (some (AV.int .i64 n17))) ∧
  bsel (decide (n17 ≤ n6)) (
   (Q (AV.tuple [AV.nilptr, (AV.bool false)]) s16)
  ) (
   ∃ (n18 : Int),
   ((ld1 s16 (AV.ptr m14 0)) = (some (AV.int .i64 n18))) ∧
   bsel (decide (n18 ≥ 1920)) (
    (Q (AV.tuple [AV.nilptr, (AV.bool false)]) s16)
   ) (
    ∃ (n19 : Int),
    ((ld1 s16 (AV.ptr m14 1)) = (some (AV.int .u64 n19))) ∧
    bsel (n19 == 0) (
     (Q (AV.tuple [AV.nilptr, (AV.bool false)]) s16)
    ) (
     ∀ (s20 : St),
     (Bump s16 9 s20) →
     ∃ (n21 : Int),
     ((ld1 s20 (AV.ptr m14 0)) = (some (AV.int .i64 n21))) ∧
     ∃ (n22 : Int),
     ((ld1 s20 (AV.ptr m14 1)) = (some (AV.int .u64 n22))) ∧
     ∃ (n23 : Int),
     ((ld1 s20 (AV.ptr m14 0)) = (some (AV.int .i64 n23))) ∧
     (0 ≤ n21) ∧
     (n21 < 1920) ∧
     ∃ (s24 : St),
     ((wrN s20 (AV.ptr m1 (0 + (Int.toNat n21))) [(AV.int .u64 n22)]) = (some s24)) ∧
     ((ld1 s24 (AV.ptr m14 0)) = (some (AV.int .i64 n23))) ∧
     ∃ (m25 : Nat),
     (m25 < m9) ∧
     (I4 n23 (IntKind.wrap .i64 (n7 + 1)) s24 m25)
    )
   )
  )
 ) (
  (Q (AV.tuple [(AV.ptr m1 0), (AV.bool true)]) s8)
 )
set_option maxRecDepth 100000 in
theorem vc.sketch_laid_ok {a0 : AV} {s : St} {Q : AV → St → Prop} (h : vc.sketch_laid a0 s Q) : CallsD P F.sketch_laid [a0] s Q :=
 fnD_ok (C := C.sketch_laid) hD hX rfl mixes (fi := fnI Try.f64) (by kernel_rfl) (by kernel_rfl) (cast (by kernel_rfl : vc.sketch_laid a0 s Q = wpC P C.sketch_laid 1000000 (fnI Try.f64).body ⟨PT.setAll .nil 0 [a0], max [a0].length (fnI Try.f64).nt, s, []⟩ (endW C.sketch_laid (fnI Try.f64).results Q)) h)
def C.p_sketch_row_put : Cx := { D := D, rt := rt, its := [], lps := [], det := true }
set_option maxRecDepth 100000 in
def vc.p_sketch_row_put (a0 : AV) (a1 : Int) (a2 : Int) (s : St) (Q : (AV → (St → Prop))) : Prop :=
 ptrK a0 0 fun m1 m2 =>
 (0 ≤ a1) ∧
 (a1 < 1920) ∧
 ∃ (n3 : Int),
 ((ld1 s (AV.ptr m1 (m2 + (Int.toNat a1)))) = (some (AV.int .u64 n3))) ∧
 ∃ (n4 : Int) (n5 : Int),
 ((add64 [(AV.int .u64 n3), (AV.int .u64 a2), (AV.int .u64 0)]) = (some (AV.tuple [(AV.int .u64 n4), (AV.int .u64 n5)]))) ∧
 bsel (decide (n5 > 0)) (
  ptrK a0 0 fun m6 m7 =>
  (0 ≤ a1) ∧
  (a1 < 1920) ∧
  ∃ (s8 : St),
  ((wrN s (AV.ptr m6 (m7 + (Int.toNat a1))) [(AV.int .u64 18446744073709551615)]) = (some s8)) ∧
  (Q (AV.tuple []) s8)
 ) (
  ptrK a0 0 fun m9 m10 =>
  (0 ≤ a1) ∧
  (a1 < 1920) ∧
  ∃ (s11 : St),
  ((wrN s (AV.ptr m9 (m10 + (Int.toNat a1))) [(AV.int .u64 n4)]) = (some s11)) ∧
  (Q (AV.tuple []) s11)
 )
set_option maxRecDepth 100000 in
theorem vc.p_sketch_row_put_ok {a0 : AV} {a1 : Int} {a2 : Int} {s : St} {Q : AV → St → Prop} (h : vc.p_sketch_row_put a0 a1 a2 s Q) : CallsD P F.p_sketch_row_put [a0, .int .i64 a1, .int .u64 a2] s Q :=
 fnD_ok (C := C.p_sketch_row_put) hD hX rfl mixes (fi := fnI Try.f65) (by kernel_rfl) (by kernel_rfl) (cast (by kernel_rfl : vc.p_sketch_row_put a0 a1 a2 s Q = wpC P C.p_sketch_row_put 1000000 (fnI Try.f65).body ⟨PT.setAll .nil 0 [a0, .int .i64 a1, .int .u64 a2], max [a0, .int .i64 a1, .int .u64 a2].length (fnI Try.f65).nt, s, []⟩ (endW C.p_sketch_row_put (fnI Try.f65).results Q)) h)
def C.p_sketch_row_bars : Cx := { D := D, rt := rt, its := [], lps := [(0, [7, 21, 14, 13, 15, 16, 17, 18, 19, 20, 3, 9, 10, 11, 12, 4, 5, 8], [3, 7])], det := true }
set_option maxRecDepth 100000 in
def vc.p_sketch_row_bars (a0 : AV) (s : St) (Q : (AV → (St → Prop))) : Prop :=
 ∃ (I1 : (AV → (Int → (St → (Nat → Prop))))),
 (
  ∃ (m2 : Nat),
  (I1 AV.nilslice 0 s m2)
 ) ∧
 ∀ (x3 : AV) (n4 : Int) (s5 : St) (m6 : Nat),
 (I1 x3 n4 s5 m6) →
 bsel (decide (n4 < 1920)) (
  ∀ (s7 : St),
  (Bump s5 6 s7) →
  ptrK a0 0 fun m8 m9 =>
  (0 ≤ n4) ∧
  (n4 < 1920) ∧
  ∃ (n10 : Int),
  ((ld1 s7 (AV.ptr m8 (m9 + (Int.toNat n4)))) = (some (AV.int .u64 n10))) ∧
  bsel (decide (n10 > 0)) (
   ∀ (m11 : Nat) (s12 : St),
   (NewO s7 (cellsO [(AV.int .i64 n4), (AV.int .u64 n10)]) m11 s12) →
   ∃ (x13 : AV) (s14 : St),
   ((appendX D s12 T.sl_api_Bar T.sl_api_Bar x3 (AV.slice m11 0 1 (ACap.exact 1))) = (some (x13, s14))) ∧
   ∃ (m15 : Nat),
   (m15 < m6) ∧
   (I1 x13 (IntKind.wrap .i64 (n4 + 1)) s14 m15)
  ) (
   ∃ (m16 : Nat),
   (m16 < m6) ∧
   (I1 x3 (IntKind.wrap .i64 (n4 + 1)) s7 m16)
  )
 ) (
  (Q x3 s5)
 )
set_option maxRecDepth 100000 in
theorem vc.p_sketch_row_bars_ok {a0 : AV} {s : St} {Q : AV → St → Prop} (h : vc.p_sketch_row_bars a0 s Q) : CallsD P F.p_sketch_row_bars [a0] s Q :=
 fnD_ok (C := C.p_sketch_row_bars) hD hX rfl mixes (fi := fnI Try.f66) (by kernel_rfl) (by kernel_rfl) (cast (by kernel_rfl : vc.p_sketch_row_bars a0 s Q = wpC P C.p_sketch_row_bars 1000000 (fnI Try.f66).body ⟨PT.setAll .nil 0 [a0], max [a0].length (fnI Try.f66).nt, s, []⟩ (endW C.p_sketch_row_bars (fnI Try.f66).results Q)) h)
end
end Go.Eng.S

namespace Go.Eng.S
open Go Go.Eng Go.Proofs
noncomputable section
def C.calls_plus : Cx := { D := D, rt := rt, its := [], lps := [], det := true }
set_option maxRecDepth 100000 in
def vc.calls_plus (a0_0 : Int) (a0_1 : Int) (a1_0 : Int) (a1_1 : Int) (s : St) (Q : (AV → (St → Prop))) : Prop :=
 ∀ (m1 : Nat) (s2 : St),
 (NewO s (cellsO [(AV.int .u64 a0_0), (AV.int .u64 a0_1)]) m1 s2) →
 ∀ (m3 : Nat) (s4 : St),
 (NewO s2 (cellsO [(AV.int .u64 a1_0), (AV.int .u64 a1_1)]) m3 s4) →
 ∀ (m5 : Nat) (s6 : St),
 (NewO s4 (cellsO [(AV.int .u64 0), (AV.int .u64 0)]) m5 s6) →
 ∃ (n7 : Int),
 ((ld1 s6 (AV.ptr m1 1)) = (some (AV.int .u64 n7))) ∧
 ∃ (n8 : Int),
 ((ld1 s6 (AV.ptr m3 1)) = (some (AV.int .u64 n8))) ∧
 ∃ (n9 : Int) (n10 : Int),
 ((add64 [(AV.int .u64 n7), (AV.int .u64 n8), (AV.int .u64 0)]) = (some (AV.tuple [(AV.int .u64 n9), (AV.int .u64 n10)]))) ∧
 ∃ (n11 : Int),
 ((ld1 s6 (AV.ptr m1 0)) = (some (AV.int .u64 n11))) ∧
 ∃ (n12 : Int),
 ((ld1 s6 (AV.ptr m3 0)) = (some (AV.int .u64 n12))) ∧
 ∃ (n13 : Int) (n14 : Int),
 ((add64 [(AV.int .u64 n11), (AV.int .u64 n12), (AV.int .u64 n10)]) = (some (AV.tuple [(AV.int .u64 n13), (AV.int .u64 n14)]))) ∧
 bsel (decide (n14 > 0)) (
  ∃ (s15 : St),
  ((wrN s6 (AV.ptr m5 0) [(AV.int .u64 18446744073709551615), (AV.int .u64 18446744073709551615)]) = (some s15)) ∧
  ∃ (n16 : Int) (n17 : Int),
  ((ldN s15 (AV.ptr m5 0) 2) = (some [(AV.int .u64 n16), (AV.int .u64 n17)])) ∧
  (Q (AV.agg [(AV.int .u64 n16), (AV.int .u64 n17)]) s15)
 ) (
  ∃ (s18 : St),
  ((wrN s6 (AV.ptr m5 0) [(AV.int .u64 n13), (AV.int .u64 n9)]) = (some s18)) ∧
  ∃ (n19 : Int) (n20 : Int),
  ((ldN s18 (AV.ptr m5 0) 2) = (some [(AV.int .u64 n19), (AV.int .u64 n20)])) ∧
  (Q (AV.agg [(AV.int .u64 n19), (AV.int .u64 n20)]) s18)
 )
set_option maxRecDepth 100000 in
theorem vc.calls_plus_ok {a0_0 : Int} {a0_1 : Int} {a1_0 : Int} {a1_1 : Int} {s : St} {Q : AV → St → Prop} (h : vc.calls_plus a0_0 a0_1 a1_0 a1_1 s Q) : CallsD P F.calls_plus [.agg [.int .u64 a0_0, .int .u64 a0_1], .agg [.int .u64 a1_0, .int .u64 a1_1]] s Q :=
 fnD_ok (C := C.calls_plus) hD hX rfl mixes (fi := fnI Try.f50) (by kernel_rfl) (by kernel_rfl) (cast (by kernel_rfl : vc.calls_plus a0_0 a0_1 a1_0 a1_1 s Q = wpC P C.calls_plus 1000000 (fnI Try.f50).body ⟨PT.setAll .nil 0 [.agg [.int .u64 a0_0, .int .u64 a0_1], .agg [.int .u64 a1_0, .int .u64 a1_1]], max [.agg [.int .u64 a0_0, .int .u64 a0_1], .agg [.int .u64 a1_0, .int .u64 a1_1]].length (fnI Try.f50).nt, s, []⟩ (endW C.calls_plus (fnI Try.f50).results Q)) h)
def C.calls_Plus : Cx := { D := D, rt := rt, its := [], lps := [], det := true }
set_option maxRecDepth 100000 in
def vc.calls_Plus (a0_0 : Int) (a0_1 : Int) (a0_2 : Int) (a0_3 : Int) (a0_4 : Int) (a0_5 : Int) (a0_6 : AV) (a1_0 : Int) (a1_1 : Int) (a1_2 : Int) (a1_3 : Int) (a1_4 : Int) (a1_5 : Int) (a1_6 : AV) (s : St) (Q : (AV → (St → Prop))) : Prop :=
 ∀ (m1 : Nat) (s2 : St),
 (NewO s (cellsO [(AV.int .u64 a0_0), (AV.int .u64 a0_1), (AV.int .u64 a0_2), (AV.int .u64 a0_3), (AV.int .u64 a0_4), (AV.int .u64 a0_5), a0_6]) m1 s2) →
 ∀ (m3 : Nat) (s4 : St),
 (NewO s2 (cellsO [(AV.int .u64 a1_0), (AV.int .u64 a1_1), (AV.int .u64 a1_2), (AV.int .u64 a1_3), (AV.int .u64 a1_4), (AV.int .u64 a1_5), a1_6]) m3 s4) →
 ∀ (m5 : Nat) (s6 : St),
 (NewO s4 (cellsO [(AV.int .u64 0), (AV.int .u64 0), (AV.int .u64 0), (AV.int .u64 0), (AV.int .u64 0), (AV.int .u64 0), AV.nilslice]) m5 s6) →
 ∃ (x7 : AV),
 ((ld1 s6 (AV.ptr m1 6)) = (some x7)) ∧
 ∃ (x8 : AV),
 ((ld1 s6 (AV.ptr m3 6)) = (some x8)) ∧
 CallsD P F.sketch_Merge [x7, x8] s6 fun x9 s10 =>
 ∃ (x11 : AV) (n12 : Int),
 (x9 = (AV.tuple [x11, (AV.int .i64 n12)])) ∧
 bsel (n12 != 0) (
  ∃ (s13 : St),
  ((wrN s10 (AV.ptr m5 0) [(AV.int .u64 0), (AV.int .u64 0), (AV.int .u64 0), (AV.int .u64 0), (AV.int .u64 0), (AV.int .u64 0), AV.nilslice]) = (some s13)) ∧
  ∃ (n14 : Int) (n15 : Int) (n16 : Int) (n17 : Int) (n18 : Int) (n19 : Int) (x20 : AV),
  ((ldN s13 (AV.ptr m5 0) 7) = (some [(AV.int .u64 n14), (AV.int .u64 n15), (AV.int .u64 n16), (AV.int .u64 n17), (AV.int .u64 n18), (AV.int .u64 n19), x20])) ∧
  (Q (AV.tuple [(AV.agg [(AV.int .u64 n14), (AV.int .u64 n15), (AV.int .u64 n16), (AV.int .u64 n17), (AV.int .u64 n18), (AV.int .u64 n19), x20]), (AV.int .i64 n12)]) s13)
 ) (
  ∀ (s21 : St),
  (Bump s10 19 s21) →
  ∃ (n22 : Int) (n23 : Int),
  ((ldN s21 (AV.ptr m1 0) 2) = (some [(AV.int .u64 n22), (AV.int .u64 n23)])) ∧
  ∃ (n24 : Int) (n25 : Int),
  ((ldN s21 (AV.ptr m3 0) 2) = (some [(AV.int .u64 n24), (AV.int .u64 n25)])) ∧
  CallsD P F.calls_plus [(AV.agg [(AV.int .u64 n22), (AV.int .u64 n23)]), (AV.agg [(AV.int .u64 n24), (AV.int .u64 n25)])] s21 fun x26 s27 =>
  ∃ (n28 : Int) (n29 : Int),
  (x26 = (AV.agg [(AV.int .u64 n28), (AV.int .u64 n29)])) ∧
  ∃ (n30 : Int) (n31 : Int),
  ((ldN s27 (AV.ptr m1 2) 2) = (some [(AV.int .u64 n30), (AV.int .u64 n31)])) ∧
  ((ldN s21 (AV.ptr m1 2) 2) = (some [(AV.int .u64 n30), (AV.int .u64 n31)])) ∧
  ∃ (n32 : Int) (n33 : Int),
  ((ldN s27 (AV.ptr m3 2) 2) = (some [(AV.int .u64 n32), (AV.int .u64 n33)])) ∧
  ((ldN s21 (AV.ptr m3 2) 2) = (some [(AV.int .u64 n32), (AV.int .u64 n33)])) ∧
  CallsD P F.calls_plus [(AV.agg [(AV.int .u64 n30), (AV.int .u64 n31)]), (AV.agg [(AV.int .u64 n32), (AV.int .u64 n33)])] s27 fun x34 s35 =>
  ∃ (n36 : Int) (n37 : Int),
  (x34 = (AV.agg [(AV.int .u64 n36), (AV.int .u64 n37)])) ∧
  ∃ (n38 : Int) (n39 : Int),
  ((ldN s35 (AV.ptr m1 4) 2) = (some [(AV.int .u64 n38), (AV.int .u64 n39)])) ∧
  ((ldN s27 (AV.ptr m1 4) 2) = (some [(AV.int .u64 n38), (AV.int .u64 n39)])) ∧
  ((ldN s21 (AV.ptr m1 4) 2) = (some [(AV.int .u64 n38), (AV.int .u64 n39)])) ∧
  ∃ (n40 : Int) (n41 : Int),
  ((ldN s35 (AV.ptr m3 4) 2) = (some [(AV.int .u64 n40), (AV.int .u64 n41)])) ∧
  ((ldN s27 (AV.ptr m3 4) 2) = (some [(AV.int .u64 n40), (AV.int .u64 n41)])) ∧
  ((ldN s21 (AV.ptr m3 4) 2) = (some [(AV.int .u64 n40), (AV.int .u64 n41)])) ∧
  CallsD P F.calls_plus [(AV.agg [(AV.int .u64 n38), (AV.int .u64 n39)]), (AV.agg [(AV.int .u64 n40), (AV.int .u64 n41)])] s35 fun x42 s43 =>
  ∃ (n44 : Int) (n45 : Int),
  (x42 = (AV.agg [(AV.int .u64 n44), (AV.int .u64 n45)])) ∧
  (oneK x11 (∃ s46 : St, (((wrN s43 (AV.ptr m5 0) [(AV.int .u64 n28), (AV.int .u64 n29), (AV.int .u64 n36), (AV.int .u64 n37), (AV.int .u64 n44), (AV.int .u64 n45), x11]) = (some s46)) ∧ (∃ n47 : Int, (∃ n48 : Int, (∃ n49 : Int, (∃ n50 : Int, (∃ n51 : Int, (∃ n52 : Int, (∃ x53 : AV, (((ldN s46 (AV.ptr m5 0) 7) = (some [(AV.int .u64 n47), (AV.int .u64 n48), (AV.int .u64 n49), (AV.int .u64 n50), (AV.int .u64 n51), (AV.int .u64 n52), x53])) ∧ (Q (AV.tuple [(AV.agg [(AV.int .u64 n47), (AV.int .u64 n48), (AV.int .u64 n49), (AV.int .u64 n50), (AV.int .u64 n51), (AV.int .u64 n52), x53]), (AV.int .i64 0)]) s46))))))))))))
 )
set_option maxRecDepth 100000 in
theorem vc.calls_Plus_ok {a0_0 : Int} {a0_1 : Int} {a0_2 : Int} {a0_3 : Int} {a0_4 : Int} {a0_5 : Int} {a0_6 : AV} {a1_0 : Int} {a1_1 : Int} {a1_2 : Int} {a1_3 : Int} {a1_4 : Int} {a1_5 : Int} {a1_6 : AV} {s : St} {Q : AV → St → Prop} (h : vc.calls_Plus a0_0 a0_1 a0_2 a0_3 a0_4 a0_5 a0_6 a1_0 a1_1 a1_2 a1_3 a1_4 a1_5 a1_6 s Q) : CallsD P F.calls_Plus [.agg [.int .u64 a0_0, .int .u64 a0_1, .int .u64 a0_2, .int .u64 a0_3, .int .u64 a0_4, .int .u64 a0_5, a0_6], .agg [.int .u64 a1_0, .int .u64 a1_1, .int .u64 a1_2, .int .u64 a1_3, .int .u64 a1_4, .int .u64 a1_5, a1_6]] s Q :=
 fnD_ok (C := C.calls_Plus) hD hX rfl mixes (fi := fnI Try.f33) (by kernel_rfl) (by kernel_rfl) (cast (by kernel_rfl : vc.calls_Plus a0_0 a0_1 a0_2 a0_3 a0_4 a0_5 a0_6 a1_0 a1_1 a1_2 a1_3 a1_4 a1_5 a1_6 s Q = wpC P C.calls_Plus 1000000 (fnI Try.f33).body ⟨PT.setAll .nil 0 [.agg [.int .u64 a0_0, .int .u64 a0_1, .int .u64 a0_2, .int .u64 a0_3, .int .u64 a0_4, .int .u64 a0_5, a0_6], .agg [.int .u64 a1_0, .int .u64 a1_1, .int .u64 a1_2, .int .u64 a1_3, .int .u64 a1_4, .int .u64 a1_5, a1_6]], max [.agg [.int .u64 a0_0, .int .u64 a0_1, .int .u64 a0_2, .int .u64 a0_3, .int .u64 a0_4, .int .u64 a0_5, a0_6], .agg [.int .u64 a1_0, .int .u64 a1_1, .int .u64 a1_2, .int .u64 a1_3, .int .u64 a1_4, .int .u64 a1_5, a1_6]].length (fnI Try.f33).nt, s, []⟩ (endW C.calls_Plus (fnI Try.f33).results Q)) h)
end
end Go.Eng.S

namespace Go.Eng.S
open Go Go.Eng Go.Proofs
noncomputable section
def C.spoorref13_Check : Cx := { D := D, rt := rt, its := [], lps := [(0, [49, 48, 47, 46, 45, 44, 43, 42, 41, 40, 39, 38, 37, 36, 35, 34, 33, 32, 31, 30, 29, 28, 27, 26, 25, 24, 23, 22, 21, 20, 19, 18, 17, 16, 15, 14, 13, 12, 11, 10, 2, 8, 9, 3, 4, 5, 6, 7], [3])], det := true }
set_option maxRecDepth 100000 in
def vc.spoorref13_Check (a0 : AV) (s : St) (Q : (AV → (St → Prop))) : Prop :=
 ∃ (I1 : (Int → (St → (Nat → Prop)))),
 (
  ∃ (m2 : Nat),
  (I1 0 s m2)
 ) ∧
 ∀ (n3 : Int) (s4 : St) (m5 : Nat),
 (I1 n3 s4 m5) →
 slenK a0 fun m6 =>
 bsel (decide (n3 < ((m6 : Nat) : Int))) (
  ∀ (s7 : St),
  (Bump s4 40 s7) →
  ixsK 2 a0 n3 fun m8 m9 =>
  ∃ (n10 : Int),
  ((ld1 s7 (AV.ptr m8 m9)) = (some (AV.int .i64 n10))) ∧
  bsel (decide (n10 < 0)) (
   (Q (AV.int .i64 131) s7)
  ) (
   ixsK 2 a0 n3 fun m11 m12 =>
   ∃ (n13 : Int),
   ((ld1 s7 (AV.ptr m11 m12)) = (some (AV.int .i64 n13))) ∧
   bsel (decide (n13 ≥ 1920)) (
    (Q (AV.int .i64 131) s7)
   ) (
    ixsK 2 a0 n3 fun m14 m15 =>
    ∃ (n16 : Int),
    ((ld1 s7 (AV.ptr m14 (m15 + 1))) = (some (AV.int .u64 n16))) ∧
    bsel (n16 == 0) (
     (Q (AV.int .i64 131) s7)
    ) (
     bsel (decide (n3 > 0)) (
      ixsK 2 a0 n3 fun m17 m18 =>
      ∃ (n19 : Int),
      ((ld1 s7 (AV.ptr m17 m18)) = (some (AV.int .i64 n19))) ∧
      ixsK 2 a0 (IntKind.wrap .i64 (n3 - 1)) fun m20 m21 =>
      ∃ (n22 : Int),
      ((ld1 s7 (AV.ptr m20 m21)) = (some (AV.int .i64 n22))) ∧
      bsel (decide (n19 ≤ n22)) (
       (Q (AV.int .i64 131) s7)
      ) (
       ∃ (m23 : Nat),
       (m23 < m5) ∧
       (I1 (IntKind.wrap .i64 (n3 + 1)) s7 m23)
      )
     ) (
      ∃ (m24 : Nat),
      (m24 < m5) ∧
      (I1 (IntKind.wrap .i64 (n3 + 1)) s7 m24)
     )
    )
   )
  )
 ) (
  (Q (AV.int .i64 0) s4)
 )
set_option maxRecDepth 100000 in
theorem vc.spoorref13_Check_ok {a0 : AV} {s : St} {Q : AV → St → Prop} (h : vc.spoorref13_Check a0 s Q) : CallsD P F.spoorref13_Check [a0] s Q :=
 fnD_ok (C := C.spoorref13_Check) hD hX rfl mixes (fi := fnI Try.f91) (by kernel_rfl) (by kernel_rfl) (cast (by kernel_rfl : vc.spoorref13_Check a0 s Q = wpC P C.spoorref13_Check 1000000 (fnI Try.f91).body ⟨PT.setAll .nil 0 [a0], max [a0].length (fnI Try.f91).nt, s, []⟩ (endW C.spoorref13_Check (fnI Try.f91).results Q)) h)
end
end Go.Eng.S

namespace Go.Eng.S
open Go Go.Eng Go.Proofs
noncomputable section
def C.spoorref13_plus : Cx := { D := D, rt := rt, its := [], lps := [], det := true }
set_option maxRecDepth 100000 in
def vc.spoorref13_plus (a0 : Int) (a1 : Int) (s : St) (Q : (AV → (St → Prop))) : Prop :=
 bsel (decide (a0 > (IntKind.wrap .u64 (18446744073709551615 - a1)))) (
  (Q (AV.int .u64 18446744073709551615) s)
 ) (
  (Q (AV.int .u64 (IntKind.wrap .u64 (a0 + a1))) s)
 )
set_option maxRecDepth 100000 in
theorem vc.spoorref13_plus_ok {a0 : Int} {a1 : Int} {s : St} {Q : AV → St → Prop} (h : vc.spoorref13_plus a0 a1 s Q) : CallsD P F.spoorref13_plus [.int .u64 a0, .int .u64 a1] s Q :=
 fnD_ok (C := C.spoorref13_plus) hD hX rfl mixes (fi := fnI Try.f92) (by kernel_rfl) (by kernel_rfl) (cast (by kernel_rfl : vc.spoorref13_plus a0 a1 s Q = wpC P C.spoorref13_plus 1000000 (fnI Try.f92).body ⟨PT.setAll .nil 0 [.int .u64 a0, .int .u64 a1], max [.int .u64 a0, .int .u64 a1].length (fnI Try.f92).nt, s, []⟩ (endW C.spoorref13_plus (fnI Try.f92).results Q)) h)
def C.spoorref14_Add : Cx := { D := D, rt := rt, its := [], lps := [], det := true }
set_option maxRecDepth 100000 in
def vc.spoorref14_Add (a0_0 : Int) (a0_1 : Int) (a1_0 : Int) (a1_1 : Int) (s : St) (Q : (AV → (St → Prop))) : Prop :=
 ∀ (m1 : Nat) (s2 : St),
 (NewO s (cellsO [(AV.int .u64 a0_0), (AV.int .u64 a0_1)]) m1 s2) →
 ∀ (m3 : Nat) (s4 : St),
 (NewO s2 (cellsO [(AV.int .u64 a1_0), (AV.int .u64 a1_1)]) m3 s4) →
 ∀ (m5 : Nat) (s6 : St),
 (NewO s4 (cellsO [(AV.int .u64 0), (AV.int .u64 0)]) m5 s6) →
 ∃ (n7 : Int),
 ((ld1 s6 (AV.ptr m1 1)) = (some (AV.int .u64 n7))) ∧
 ∃ (n8 : Int),
 ((ld1 s6 (AV.ptr m3 1)) = (some (AV.int .u64 n8))) ∧
 ∃ (n9 : Int),
 ((ld1 s6 (AV.ptr m1 1)) = (some (AV.int .u64 n9))) ∧
 bsel (decide ((IntKind.wrap .u64 (n7 + n8)) < n9)) (
  ∃ (n10 : Int),
  ((ld1 s6 (AV.ptr m1 0)) = (some (AV.int .u64 n10))) ∧
  ∃ (n11 : Int),
  ((ld1 s6 (AV.ptr m3 0)) = (some (AV.int .u64 n11))) ∧
  ∃ (n12 : Int),
  ((ld1 s6 (AV.ptr m1 0)) = (some (AV.int .u64 n12))) ∧
  bsel (decide ((IntKind.wrap .u64 (n10 + n11)) < n12)) (
   ∃ (s13 : St),
   ((wrN s6 (AV.ptr m5 0) [(AV.int .u64 18446744073709551615), (AV.int .u64 18446744073709551615)]) = (some s13)) ∧
   ∃ (n14 : Int) (n15 : Int),
   ((ldN s13 (AV.ptr m5 0) 2) = (some [(AV.int .u64 n14), (AV.int .u64 n15)])) ∧
   (Q (AV.agg [(AV.int .u64 n14), (AV.int .u64 n15)]) s13)
  ) (
   bsel (decide ((IntKind.wrap .u64 ((IntKind.wrap .u64 (n10 + n11)) + 1)) < 1)) (
    ∃ (s16 : St),
    ((wrN s6 (AV.ptr m5 0) [(AV.int .u64 18446744073709551615), (AV.int .u64 18446744073709551615)]) = (some s16)) ∧
    ∃ (n17 : Int) (n18 : Int),
    ((ldN s16 (AV.ptr m5 0) 2) = (some [(AV.int .u64 n17), (AV.int .u64 n18)])) ∧
    (Q (AV.agg [(AV.int .u64 n17), (AV.int .u64 n18)]) s16)
   ) (
    ∃ (s19 : St),
    ((wrN s6 (AV.ptr m5 0) [(AV.int .u64 (IntKind.wrap .u64 ((IntKind.wrap .u64 (n10 + n11)) + 1))), (AV.int .u64 (IntKind.wrap .u64 (n7 + n8)))]) = (some s19)) ∧
    ∃ (n20 : Int) (n21 : Int),
    ((ldN s19 (AV.ptr m5 0) 2) = (some [(AV.int .u64 n20), (AV.int .u64 n21)])) ∧
    (Q (AV.agg [(AV.int .u64 n20), (AV.int .u64 n21)]) s19)
   )
  )
 ) (
  ∃ (n22 : Int),
  ((ld1 s6 (AV.ptr m1 0)) = (some (AV.int .u64 n22))) ∧
  ∃ (n23 : Int),
  ((ld1 s6 (AV.ptr m3 0)) = (some (AV.int .u64 n23))) ∧
  ∃ (n24 : Int),
  ((ld1 s6 (AV.ptr m1 0)) = (some (AV.int .u64 n24))) ∧
  bsel (decide ((IntKind.wrap .u64 (n22 + n23)) < n24)) (
   ∃ (s25 : St),
   ((wrN s6 (AV.ptr m5 0) [(AV.int .u64 18446744073709551615), (AV.int .u64 18446744073709551615)]) = (some s25)) ∧
   ∃ (n26 : Int) (n27 : Int),
   ((ldN s25 (AV.ptr m5 0) 2) = (some [(AV.int .u64 n26), (AV.int .u64 n27)])) ∧
   (Q (AV.agg [(AV.int .u64 n26), (AV.int .u64 n27)]) s25)
  ) (
   bsel (decide ((IntKind.wrap .u64 ((IntKind.wrap .u64 (n22 + n23)) + 0)) < 0)) (
    ∃ (s28 : St),
    ((wrN s6 (AV.ptr m5 0) [(AV.int .u64 18446744073709551615), (AV.int .u64 18446744073709551615)]) = (some s28)) ∧
    ∃ (n29 : Int) (n30 : Int),
    ((ldN s28 (AV.ptr m5 0) 2) = (some [(AV.int .u64 n29), (AV.int .u64 n30)])) ∧
    (Q (AV.agg [(AV.int .u64 n29), (AV.int .u64 n30)]) s28)
   ) (
    ∃ (s31 : St),
    ((wrN s6 (AV.ptr m5 0) [(AV.int .u64 (IntKind.wrap .u64 ((IntKind.wrap .u64 (n22 + n23)) + 0))), (AV.int .u64 (IntKind.wrap .u64 (n7 + n8)))]) = (some s31)) ∧
    ∃ (n32 : Int) (n33 : Int),
    ((ldN s31 (AV.ptr m5 0) 2) = (some [(AV.int .u64 n32), (AV.int .u64 n33)])) ∧
    (Q (AV.agg [(AV.int .u64 n32), (AV.int .u64 n33)]) s31)
   )
  )
 )
set_option maxRecDepth 100000 in
theorem vc.spoorref14_Add_ok {a0_0 : Int} {a0_1 : Int} {a1_0 : Int} {a1_1 : Int} {s : St} {Q : AV → St → Prop} (h : vc.spoorref14_Add a0_0 a0_1 a1_0 a1_1 s Q) : CallsD P F.spoorref14_Add [.agg [.int .u64 a0_0, .int .u64 a0_1], .agg [.int .u64 a1_0, .int .u64 a1_1]] s Q :=
 fnD_ok (C := C.spoorref14_Add) hD hX rfl mixes (fi := fnI Try.f63) (by kernel_rfl) (by kernel_rfl) (cast (by kernel_rfl : vc.spoorref14_Add a0_0 a0_1 a1_0 a1_1 s Q = wpC P C.spoorref14_Add 1000000 (fnI Try.f63).body ⟨PT.setAll .nil 0 [.agg [.int .u64 a0_0, .int .u64 a0_1], .agg [.int .u64 a1_0, .int .u64 a1_1]], max [.agg [.int .u64 a0_0, .int .u64 a0_1], .agg [.int .u64 a1_0, .int .u64 a1_1]].length (fnI Try.f63).nt, s, []⟩ (endW C.spoorref14_Add (fnI Try.f63).results Q)) h)
def C.spoorref13_Merge : Cx := { D := D, rt := rt, its := [], lps := [(0, [51, 74, 73, 72, 71, 70, 69, 68, 67, 66, 65, 64, 63, 62, 61, 60, 59, 58, 57, 56, 55, 54, 53, 52, 84, 101, 100, 99, 98, 97, 96, 95, 94, 93, 92, 91, 90, 89, 88, 87, 86, 85, 46, 45, 44, 43, 42, 41, 40, 39, 38, 37, 36, 35, 34, 33, 32, 31, 30, 29, 28, 27, 50, 49, 47, 48, 8, 110, 109, 102, 103, 104, 105, 106, 107, 108, 7, 83, 82, 75, 76, 77, 78, 79, 80, 81, 6, 17, 18, 19, 20, 21, 22, 23, 24, 25, 26], [6, 7, 8])], det := true }
set_option maxRecDepth 100000 in
def vc.spoorref13_Merge (a0 : AV) (a1 : AV) (s : St) (Q : (AV → (St → Prop))) : Prop :=
 CallsD P F.spoorref13_Check [a0] s fun x1 s2 =>
 ∃ (n3 : Int),
 (x1 = (AV.int .i64 n3)) ∧
 bsel (n3 != 0) (
  (Q (AV.tuple [AV.nilslice, (AV.int .i64 131)]) s2)
 ) (
  CallsD P F.spoorref13_Check [a1] s2 fun x4 s5 =>
  ∃ (n6 : Int),
  (x4 = (AV.int .i64 n6)) ∧
  bsel (n6 != 0) (
   (Q (AV.tuple [AV.nilslice, (AV.int .i64 131)]) s5)
  ) (
   ∃ (I7 : (AV → (Int → (Int → (St → (Nat → Prop)))))),
   (
    ∃ (m8 : Nat),
    (I7 AV.nilslice 0 0 s5 m8)
   ) ∧
   ∀ (x9 : AV) (n10 : Int) (n11 : Int) (s12 : St) (m13 : Nat),
   (I7 x9 n10 n11 s12 m13) →
   slenK a0 fun m14 =>
   bsel (decide (n10 < ((m14 : Nat) : Int))) (
    ∀ (s15 : St),
    (Bump s12 24 s15) →
    slenK a1 fun m16 =>
    bsel (n11 == ((m16 : Nat) : Int)) (
     ixsK 2 a0 n10 fun m17 m18 =>
     ∃ (n19 : Int) (n20 : Int),
     ((ldN s15 (AV.ptr m17 m18) 2) = (some [(AV.int .i64 n19), (AV.int .u64 n20)])) ∧
     ∀ (m21 : Nat) (s22 : St),
     (NewO s15 (cellsO [(AV.int .i64 n19), (AV.int .u64 n20)]) m21 s22) →
     ∃ (x23 : AV) (s24 : St),
     ((appendX D s22 T.sl_api_Bar T.sl_api_Bar x9 (AV.slice m21 0 1 (ACap.exact 1))) = (some (x23, s24))) ∧
     ∃ (m25 : Nat),
     (m25 < m13) ∧
     (I7 x23 (IntKind.wrap .i64 (n10 + 1)) n11 s24 m25)
    ) (
     slenK a0 fun m26 =>
     bsel (decide (n10 < ((m26 : Nat) : Int))) (
      ixsK 2 a0 n10 fun m27 m28 =>
      ∃ (n29 : Int),
      ((ld1 s15 (AV.ptr m27 m28)) = (some (AV.int .i64 n29))) ∧
      ixsK 2 a1 n11 fun m30 m31 =>
      ∃ (n32 : Int),
      ((ld1 s15 (AV.ptr m30 m31)) = (some (AV.int .i64 n32))) ∧
      bsel (decide (n29 < n32)) (
       ixsK 2 a0 n10 fun m33 m34 =>
       ∃ (n35 : Int) (n36 : Int),
       ((ldN s15 (AV.ptr m33 m34) 2) = (some [(AV.int .i64 n35), (AV.int .u64 n36)])) ∧
       ∀ (m37 : Nat) (s38 : St),
       (NewO s15 (cellsO [(AV.int .i64 n35), (AV.int .u64 n36)]) m37 s38) →
       ∃ (x39 : AV) (s40 : St),
       ((appendX D s38 T.sl_api_Bar T.sl_api_Bar x9 (AV.slice m37 0 1 (ACap.exact 1))) = (some (x39, s40))) ∧
       ∃ (m41 : Nat),
       (m41 < m13) ∧
       (I7 x39 (IntKind.wrap .i64 (n10 + 1)) n11 s40 m41)
      ) (
       ∀ (s42 : St),
       (Bump s15 18 s42) →
       slenK a0 fun m43 =>
       bsel (n10 == ((m43 : Nat) : Int)) (
        ixsK 2 a1 n11 fun m44 m45 =>
        ∃ (n46 : Int) (n47 : Int),
        ((ldN s42 (AV.ptr m44 m45) 2) = (some [(AV.int .i64 n46), (AV.int .u64 n47)])) ∧
        ∀ (m48 : Nat) (s49 : St),
        (NewO s42 (cellsO [(AV.int .i64 n46), (AV.int .u64 n47)]) m48 s49) →
        ∃ (x50 : AV) (s51 : St),
        ((appendX D s49 T.sl_api_Bar T.sl_api_Bar x9 (AV.slice m48 0 1 (ACap.exact 1))) = (some (x50, s51))) ∧
        ∃ (m52 : Nat),
        (m52 < m13) ∧
        (I7 x50 n10 (IntKind.wrap .i64 (n11 + 1)) s51 m52)
       ) (
        ixsK 2 a1 n11 fun m53 m54 =>
        ∃ (n55 : Int),
        ((ld1 s42 (AV.ptr m53 m54)) = (some (AV.int .i64 n55))) ∧
        ixsK 2 a0 n10 fun m56 m57 =>
        ∃ (n58 : Int),
        ((ld1 s42 (AV.ptr m56 m57)) = (some (AV.int .i64 n58))) ∧
        bsel (decide (n55 < n58)) (
         ixsK 2 a1 n11 fun m59 m60 =>
         ∃ (n61 : Int) (n62 : Int),
         ((ldN s42 (AV.ptr m59 m60) 2) = (some [(AV.int .i64 n61), (AV.int .u64 n62)])) ∧
         ∀ (m63 : Nat) (s64 : St),
         (NewO s42 (cellsO [(AV.int .i64 n61), (AV.int .u64 n62)]) m63 s64) →
         ∃ (x65 : AV) (s66 : St),
         ((appendX D s64 T.sl_api_Bar T.sl_api_Bar x9 (AV.slice m63 0 1 (ACap.exact 1))) = (some (x65, s66))) ∧
         ∃ (m67 : Nat),
         (m67 < m13) ∧
         (I7 x65 n10 (IntKind.wrap .i64 (n11 + 1)) s66 m67)
        ) (
         ∀ (s68 : St),
         (Bump s42 21 s68) →
         ixsK 2 a0 n10 fun m69 m70 =>
         ∃ (n71 : Int),
         ((ld1 s68 (AV.ptr m69 m70)) = (some (AV.int .i64 n71))) ∧
         ixsK 2 a0 n10 fun m72 m73 =>
         ∃ (n74 : Int),
         ((ld1 s68 (AV.ptr m72 (m73 + 1))) = (some (AV.int .u64 n74))) ∧
         ixsK 2 a1 n11 fun m75 m76 =>
         ∃ (n77 : Int),
         ((ld1 s68 (AV.ptr m75 (m76 + 1))) = (some (AV.int .u64 n77))) ∧
         CallsD P F.spoorref13_plus [(AV.int .u64 n74), (AV.int .u64 n77)] s68 fun x78 s79 =>
         ∃ (n80 : Int),
         (x78 = (AV.int .u64 n80)) ∧
         ((ld1 s79 (AV.ptr m69 m70)) = (some (AV.int .i64 n71))) ∧
         (noSym a0 (∃ x81 : AV, (∃ s82 : St, (((appendX D (hsetS s79 ((St.nx s42) + 18) (cellsO [(AV.int .i64 n71), (AV.int .u64 n80)])) T.sl_api_Bar T.sl_api_Bar x9 (AV.slice ((St.nx s42) + 18) 0 1 (ACap.exact 1))) = (some (x81, s82))) ∧ (∃ m83 : Nat, ((m83 < m13) ∧ (I7 x81 (IntKind.wrap .i64 (n10 + 1)) (IntKind.wrap .i64 (n11 + 1)) s82 m83)))))))
        )
       )
      )
     ) (
      ∀ (s84 : St),
      (Bump s15 18 s84) →
      slenK a0 fun m85 =>
      bsel (n10 == ((m85 : Nat) : Int)) (
       ixsK 2 a1 n11 fun m86 m87 =>
       ∃ (n88 : Int) (n89 : Int),
       ((ldN s84 (AV.ptr m86 m87) 2) = (some [(AV.int .i64 n88), (AV.int .u64 n89)])) ∧
       ∀ (m90 : Nat) (s91 : St),
       (NewO s84 (cellsO [(AV.int .i64 n88), (AV.int .u64 n89)]) m90 s91) →
       ∃ (x92 : AV) (s93 : St),
       ((appendX D s91 T.sl_api_Bar T.sl_api_Bar x9 (AV.slice m90 0 1 (ACap.exact 1))) = (some (x92, s93))) ∧
       ∃ (m94 : Nat),
       (m94 < m13) ∧
       (I7 x92 n10 (IntKind.wrap .i64 (n11 + 1)) s93 m94)
      ) (
       ixsK 2 a1 n11 fun m95 m96 =>
       ∃ (n97 : Int),
       ((ld1 s84 (AV.ptr m95 m96)) = (some (AV.int .i64 n97))) ∧
       ixsK 2 a0 n10 fun m98 m99 =>
       ∃ (n100 : Int),
       ((ld1 s84 (AV.ptr m98 m99)) = (some (AV.int .i64 n100))) ∧
       bsel (decide (n97 < n100)) (
        ixsK 2 a1 n11 fun m101 m102 =>
        ∃ (n103 : Int) (n104 : Int),
        ((ldN s84 (AV.ptr m101 m102) 2) = (some [(AV.int .i64 n103), (AV.int .u64 n104)])) ∧
        ∀ (m105 : Nat) (s106 : St),
        (NewO s84 (cellsO [(AV.int .i64 n103), (AV.int .u64 n104)]) m105 s106) →
        ∃ (x107 : AV) (s108 : St),
        ((appendX D s106 T.sl_api_Bar T.sl_api_Bar x9 (AV.slice m105 0 1 (ACap.exact 1))) = (some (x107, s108))) ∧
        ∃ (m109 : Nat),
        (m109 < m13) ∧
        (I7 x107 n10 (IntKind.wrap .i64 (n11 + 1)) s108 m109)
       ) (
        ∀ (s110 : St),
        (Bump s84 21 s110) →
        ixsK 2 a0 n10 fun m111 m112 =>
        ∃ (n113 : Int),
        ((ld1 s110 (AV.ptr m111 m112)) = (some (AV.int .i64 n113))) ∧
        ixsK 2 a0 n10 fun m114 m115 =>
        ∃ (n116 : Int),
        ((ld1 s110 (AV.ptr m114 (m115 + 1))) = (some (AV.int .u64 n116))) ∧
        ixsK 2 a1 n11 fun m117 m118 =>
        ∃ (n119 : Int),
        ((ld1 s110 (AV.ptr m117 (m118 + 1))) = (some (AV.int .u64 n119))) ∧
        CallsD P F.spoorref13_plus [(AV.int .u64 n116), (AV.int .u64 n119)] s110 fun x120 s121 =>
        ∃ (n122 : Int),
        (x120 = (AV.int .u64 n122)) ∧
        ((ld1 s121 (AV.ptr m111 m112)) = (some (AV.int .i64 n113))) ∧
        (noSym a0 (∃ x123 : AV, (∃ s124 : St, (((appendX D (hsetS s121 ((St.nx s84) + 18) (cellsO [(AV.int .i64 n113), (AV.int .u64 n122)])) T.sl_api_Bar T.sl_api_Bar x9 (AV.slice ((St.nx s84) + 18) 0 1 (ACap.exact 1))) = (some (x123, s124))) ∧ (∃ m125 : Nat, ((m125 < m13) ∧ (I7 x123 (IntKind.wrap .i64 (n10 + 1)) (IntKind.wrap .i64 (n11 + 1)) s124 m125)))))))
       )
      )
     )
    )
   ) (
    slenK a1 fun m126 =>
    bsel (decide (n11 < ((m126 : Nat) : Int))) (
     ∀ (s127 : St),
     (Bump s12 24 s127) →
     slenK a1 fun m128 =>
     bsel (n11 == ((m128 : Nat) : Int)) (
      ixsK 2 a0 n10 fun m129 m130 =>
      ∃ (n131 : Int) (n132 : Int),
      ((ldN s127 (AV.ptr m129 m130) 2) = (some [(AV.int .i64 n131), (AV.int .u64 n132)])) ∧
      ∀ (m133 : Nat) (s134 : St),
      (NewO s127 (cellsO [(AV.int .i64 n131), (AV.int .u64 n132)]) m133 s134) →
      ∃ (x135 : AV) (s136 : St),
      ((appendX D s134 T.sl_api_Bar T.sl_api_Bar x9 (AV.slice m133 0 1 (ACap.exact 1))) = (some (x135, s136))) ∧
      ∃ (m137 : Nat),
      (m137 < m13) ∧
      (I7 x135 (IntKind.wrap .i64 (n10 + 1)) n11 s136 m137)
     ) (
      slenK a0 fun m138 =>
      bsel (decide (n10 < ((m138 : Nat) : Int))) (
       ixsK 2 a0 n10 fun m139 m140 =>
       ∃ (n141 : Int),
       ((ld1 s127 (AV.ptr m139 m140)) = (some (AV.int .i64 n141))) ∧
       ixsK 2 a1 n11 fun m142 m143 =>
       ∃ (n144 : Int),
       ((ld1 s127 (AV.ptr m142 m143)) = (some (AV.int .i64 n144))) ∧
       bsel (decide (n141 < n144)) (
        ixsK 2 a0 n10 fun m145 m146 =>
        ∃ (n147 : Int) (n148 : Int),
        ((ldN s127 (AV.ptr m145 m146) 2) = (some [(AV.int .i64 n147), (AV.int .u64 n148)])) ∧
        ∀ (m149 : Nat) (s150 : St),
        (NewO s127 (cellsO [(AV.int .i64 n147), (AV.int .u64 n148)]) m149 s150) →
        ∃ (x151 : AV) (s152 : St),
        ((appendX D s150 T.sl_api_Bar T.sl_api_Bar x9 (AV.slice m149 0 1 (ACap.exact 1))) = (some (x151, s152))) ∧
        ∃ (m153 : Nat),
        (m153 < m13) ∧
        (I7 x151 (IntKind.wrap .i64 (n10 + 1)) n11 s152 m153)
       ) (
        ∀ (s154 : St),
        (Bump s127 18 s154) →
        slenK a0 fun m155 =>
        bsel (n10 == ((m155 : Nat) : Int)) (
         ixsK 2 a1 n11 fun m156 m157 =>
         ∃ (n158 : Int) (n159 : Int),
         ((ldN s154 (AV.ptr m156 m157) 2) = (some [(AV.int .i64 n158), (AV.int .u64 n159)])) ∧
         ∀ (m160 : Nat) (s161 : St),
         (NewO s154 (cellsO [(AV.int .i64 n158), (AV.int .u64 n159)]) m160 s161) →
         ∃ (x162 : AV) (s163 : St),
         ((appendX D s161 T.sl_api_Bar T.sl_api_Bar x9 (AV.slice m160 0 1 (ACap.exact 1))) = (some (x162, s163))) ∧
         ∃ (m164 : Nat),
         (m164 < m13) ∧
         (I7 x162 n10 (IntKind.wrap .i64 (n11 + 1)) s163 m164)
        ) (
         ixsK 2 a1 n11 fun m165 m166 =>
         ∃ (n167 : Int),
         ((ld1 s154 (AV.ptr m165 m166)) = (some (AV.int .i64 n167))) ∧
         ixsK 2 a0 n10 fun m168 m169 =>
         ∃ (n170 : Int),
         ((ld1 s154 (AV.ptr m168 m169)) = (some (AV.int .i64 n170))) ∧
         bsel (decide (n167 < n170)) (
          ixsK 2 a1 n11 fun m171 m172 =>
          ∃ (n173 : Int) (n174 : Int),
          ((ldN s154 (AV.ptr m171 m172) 2) = (some [(AV.int .i64 n173), (AV.int .u64 n174)])) ∧
          ∀ (m175 : Nat) (s176 : St),
          (NewO s154 (cellsO [(AV.int .i64 n173), (AV.int .u64 n174)]) m175 s176) →
          ∃ (x177 : AV) (s178 : St),
          ((appendX D s176 T.sl_api_Bar T.sl_api_Bar x9 (AV.slice m175 0 1 (ACap.exact 1))) = (some (x177, s178))) ∧
          ∃ (m179 : Nat),
          (m179 < m13) ∧
          (I7 x177 n10 (IntKind.wrap .i64 (n11 + 1)) s178 m179)
         ) (
          ∀ (s180 : St),
          (Bump s154 21 s180) →
          ixsK 2 a0 n10 fun m181 m182 =>
          ∃ (n183 : Int),
          ((ld1 s180 (AV.ptr m181 m182)) = (some (AV.int .i64 n183))) ∧
          ixsK 2 a0 n10 fun m184 m185 =>
          ∃ (n186 : Int),
          ((ld1 s180 (AV.ptr m184 (m185 + 1))) = (some (AV.int .u64 n186))) ∧
          ixsK 2 a1 n11 fun m187 m188 =>
          ∃ (n189 : Int),
          ((ld1 s180 (AV.ptr m187 (m188 + 1))) = (some (AV.int .u64 n189))) ∧
          CallsD P F.spoorref13_plus [(AV.int .u64 n186), (AV.int .u64 n189)] s180 fun x190 s191 =>
          ∃ (n192 : Int),
          (x190 = (AV.int .u64 n192)) ∧
          ((ld1 s191 (AV.ptr m181 m182)) = (some (AV.int .i64 n183))) ∧
          (noSym a0 (∃ x193 : AV, (∃ s194 : St, (((appendX D (hsetS s191 ((St.nx s154) + 18) (cellsO [(AV.int .i64 n183), (AV.int .u64 n192)])) T.sl_api_Bar T.sl_api_Bar x9 (AV.slice ((St.nx s154) + 18) 0 1 (ACap.exact 1))) = (some (x193, s194))) ∧ (∃ m195 : Nat, ((m195 < m13) ∧ (I7 x193 (IntKind.wrap .i64 (n10 + 1)) (IntKind.wrap .i64 (n11 + 1)) s194 m195)))))))
         )
        )
       )
      ) (
       ∀ (s196 : St),
       (Bump s127 18 s196) →
       slenK a0 fun m197 =>
       bsel (n10 == ((m197 : Nat) : Int)) (
        ixsK 2 a1 n11 fun m198 m199 =>
        ∃ (n200 : Int) (n201 : Int),
        ((ldN s196 (AV.ptr m198 m199) 2) = (some [(AV.int .i64 n200), (AV.int .u64 n201)])) ∧
        ∀ (m202 : Nat) (s203 : St),
        (NewO s196 (cellsO [(AV.int .i64 n200), (AV.int .u64 n201)]) m202 s203) →
        ∃ (x204 : AV) (s205 : St),
        ((appendX D s203 T.sl_api_Bar T.sl_api_Bar x9 (AV.slice m202 0 1 (ACap.exact 1))) = (some (x204, s205))) ∧
        ∃ (m206 : Nat),
        (m206 < m13) ∧
        (I7 x204 n10 (IntKind.wrap .i64 (n11 + 1)) s205 m206)
       ) (
        ixsK 2 a1 n11 fun m207 m208 =>
        ∃ (n209 : Int),
        ((ld1 s196 (AV.ptr m207 m208)) = (some (AV.int .i64 n209))) ∧
        ixsK 2 a0 n10 fun m210 m211 =>
        ∃ (n212 : Int),
        ((ld1 s196 (AV.ptr m210 m211)) = (some (AV.int .i64 n212))) ∧
        bsel (decide (n209 < n212)) (
         ixsK 2 a1 n11 fun m213 m214 =>
         ∃ (n215 : Int) (n216 : Int),
         ((ldN s196 (AV.ptr m213 m214) 2) = (some [(AV.int .i64 n215), (AV.int .u64 n216)])) ∧
         ∀ (m217 : Nat) (s218 : St),
         (NewO s196 (cellsO [(AV.int .i64 n215), (AV.int .u64 n216)]) m217 s218) →
         ∃ (x219 : AV) (s220 : St),
         ((appendX D s218 T.sl_api_Bar T.sl_api_Bar x9 (AV.slice m217 0 1 (ACap.exact 1))) = (some (x219, s220))) ∧
         ∃ (m221 : Nat),
         (m221 < m13) ∧
         (I7 x219 n10 (IntKind.wrap .i64 (n11 + 1)) s220 m221)
        ) (
         ∀ (s222 : St),
         (Bump s196 21 s222) →
         ixsK 2 a0 n10 fun m223 m224 =>
         ∃ (n225 : Int),
         ((ld1 s222 (AV.ptr m223 m224)) = (some (AV.int .i64 n225))) ∧
         ixsK 2 a0 n10 fun m226 m227 =>
         ∃ (n228 : Int),
         ((ld1 s222 (AV.ptr m226 (m227 + 1))) = (some (AV.int .u64 n228))) ∧
         ixsK 2 a1 n11 fun m229 m230 =>
         ∃ (n231 : Int),
         ((ld1 s222 (AV.ptr m229 (m230 + 1))) = (some (AV.int .u64 n231))) ∧
         CallsD P F.spoorref13_plus [(AV.int .u64 n228), (AV.int .u64 n231)] s222 fun x232 s233 =>
         ∃ (n234 : Int),
         (x232 = (AV.int .u64 n234)) ∧
         ((ld1 s233 (AV.ptr m223 m224)) = (some (AV.int .i64 n225))) ∧
         (noSym a0 (∃ x235 : AV, (∃ s236 : St, (((appendX D (hsetS s233 ((St.nx s196) + 18) (cellsO [(AV.int .i64 n225), (AV.int .u64 n234)])) T.sl_api_Bar T.sl_api_Bar x9 (AV.slice ((St.nx s196) + 18) 0 1 (ACap.exact 1))) = (some (x235, s236))) ∧ (∃ m237 : Nat, ((m237 < m13) ∧ (I7 x235 (IntKind.wrap .i64 (n10 + 1)) (IntKind.wrap .i64 (n11 + 1)) s236 m237)))))))
        )
       )
      )
     )
    ) (
     (Q (AV.tuple [x9, (AV.int .i64 0)]) s12)
    )
   )
  )
 )
set_option maxRecDepth 100000 in
theorem vc.spoorref13_Merge_ok {a0 : AV} {a1 : AV} {s : St} {Q : AV → St → Prop} (h : vc.spoorref13_Merge a0 a1 s Q) : CallsD P F.spoorref13_Merge [a0, a1] s Q :=
 fnD_ok (C := C.spoorref13_Merge) hD hX rfl mixes (fi := fnI Try.f62) (by kernel_rfl) (by kernel_rfl) (cast (by kernel_rfl : vc.spoorref13_Merge a0 a1 s Q = wpC P C.spoorref13_Merge 1000000 (fnI Try.f62).body ⟨PT.setAll .nil 0 [a0, a1], max [a0, a1].length (fnI Try.f62).nt, s, []⟩ (endW C.spoorref13_Merge (fnI Try.f62).results Q)) h)
def C.spoorref14_Plus : Cx := { D := D, rt := rt, its := [], lps := [], det := true }
set_option maxRecDepth 100000 in
def vc.spoorref14_Plus (a0_0 : Int) (a0_1 : Int) (a0_2 : Int) (a0_3 : Int) (a0_4 : Int) (a0_5 : Int) (a0_6 : AV) (a1_0 : Int) (a1_1 : Int) (a1_2 : Int) (a1_3 : Int) (a1_4 : Int) (a1_5 : Int) (a1_6 : AV) (s : St) (Q : (AV → (St → Prop))) : Prop :=
 ∀ (m1 : Nat) (s2 : St),
 (NewO s (cellsO [(AV.int .u64 a0_0), (AV.int .u64 a0_1), (AV.int .u64 a0_2), (AV.int .u64 a0_3), (AV.int .u64 a0_4), (AV.int .u64 a0_5), a0_6]) m1 s2) →
 ∀ (m3 : Nat) (s4 : St),
 (NewO s2 (cellsO [(AV.int .u64 a1_0), (AV.int .u64 a1_1), (AV.int .u64 a1_2), (AV.int .u64 a1_3), (AV.int .u64 a1_4), (AV.int .u64 a1_5), a1_6]) m3 s4) →
 ∀ (m5 : Nat) (s6 : St),
 (NewO s4 (cellsO [(AV.int .u64 0), (AV.int .u64 0), (AV.int .u64 0), (AV.int .u64 0), (AV.int .u64 0), (AV.int .u64 0), AV.nilslice]) m5 s6) →
 ∃ (x7 : AV),
 ((ld1 s6 (AV.ptr m1 6)) = (some x7)) ∧
 ∃ (x8 : AV),
 ((ld1 s6 (AV.ptr m3 6)) = (some x8)) ∧
 CallsD P F.spoorref13_Merge [x7, x8] s6 fun x9 s10 =>
 ∃ (x11 : AV) (n12 : Int),
 (x9 = (AV.tuple [x11, (AV.int .i64 n12)])) ∧
 bsel (n12 != 0) (
  ∃ (s13 : St),
  ((wrN s10 (AV.ptr m5 0) [(AV.int .u64 0), (AV.int .u64 0), (AV.int .u64 0), (AV.int .u64 0), (AV.int .u64 0), (AV.int .u64 0), AV.nilslice]) = (some s13)) ∧
  ∃ (n14 : Int) (n15 : Int) (n16 : Int) (n17 : Int) (n18 : Int) (n19 : Int) (x20 : AV),
  ((ldN s13 (AV.ptr m5 0) 7) = (some [(AV.int .u64 n14), (AV.int .u64 n15), (AV.int .u64 n16), (AV.int .u64 n17), (AV.int .u64 n18), (AV.int .u64 n19), x20])) ∧
  (Q (AV.tuple [(AV.agg [(AV.int .u64 n14), (AV.int .u64 n15), (AV.int .u64 n16), (AV.int .u64 n17), (AV.int .u64 n18), (AV.int .u64 n19), x20]), (AV.int .i64 n12)]) s13)
 ) (
  ∀ (s21 : St),
  (Bump s10 19 s21) →
  ∃ (n22 : Int) (n23 : Int),
  ((ldN s21 (AV.ptr m1 0) 2) = (some [(AV.int .u64 n22), (AV.int .u64 n23)])) ∧
  ∃ (n24 : Int) (n25 : Int),
  ((ldN s21 (AV.ptr m3 0) 2) = (some [(AV.int .u64 n24), (AV.int .u64 n25)])) ∧
  CallsD P F.spoorref14_Add [(AV.agg [(AV.int .u64 n22), (AV.int .u64 n23)]), (AV.agg [(AV.int .u64 n24), (AV.int .u64 n25)])] s21 fun x26 s27 =>
  ∃ (n28 : Int) (n29 : Int),
  (x26 = (AV.agg [(AV.int .u64 n28), (AV.int .u64 n29)])) ∧
  ∃ (n30 : Int) (n31 : Int),
  ((ldN s27 (AV.ptr m1 2) 2) = (some [(AV.int .u64 n30), (AV.int .u64 n31)])) ∧
  ((ldN s21 (AV.ptr m1 2) 2) = (some [(AV.int .u64 n30), (AV.int .u64 n31)])) ∧
  ∃ (n32 : Int) (n33 : Int),
  ((ldN s27 (AV.ptr m3 2) 2) = (some [(AV.int .u64 n32), (AV.int .u64 n33)])) ∧
  ((ldN s21 (AV.ptr m3 2) 2) = (some [(AV.int .u64 n32), (AV.int .u64 n33)])) ∧
  CallsD P F.spoorref14_Add [(AV.agg [(AV.int .u64 n30), (AV.int .u64 n31)]), (AV.agg [(AV.int .u64 n32), (AV.int .u64 n33)])] s27 fun x34 s35 =>
  ∃ (n36 : Int) (n37 : Int),
  (x34 = (AV.agg [(AV.int .u64 n36), (AV.int .u64 n37)])) ∧
  ∃ (n38 : Int) (n39 : Int),
  ((ldN s35 (AV.ptr m1 4) 2) = (some [(AV.int .u64 n38), (AV.int .u64 n39)])) ∧
  ((ldN s27 (AV.ptr m1 4) 2) = (some [(AV.int .u64 n38), (AV.int .u64 n39)])) ∧
  ((ldN s21 (AV.ptr m1 4) 2) = (some [(AV.int .u64 n38), (AV.int .u64 n39)])) ∧
  ∃ (n40 : Int) (n41 : Int),
  ((ldN s35 (AV.ptr m3 4) 2) = (some [(AV.int .u64 n40), (AV.int .u64 n41)])) ∧
  ((ldN s27 (AV.ptr m3 4) 2) = (some [(AV.int .u64 n40), (AV.int .u64 n41)])) ∧
  ((ldN s21 (AV.ptr m3 4) 2) = (some [(AV.int .u64 n40), (AV.int .u64 n41)])) ∧
  CallsD P F.spoorref14_Add [(AV.agg [(AV.int .u64 n38), (AV.int .u64 n39)]), (AV.agg [(AV.int .u64 n40), (AV.int .u64 n41)])] s35 fun x42 s43 =>
  ∃ (n44 : Int) (n45 : Int),
  (x42 = (AV.agg [(AV.int .u64 n44), (AV.int .u64 n45)])) ∧
  (oneK x11 (∃ s46 : St, (((wrN s43 (AV.ptr m5 0) [(AV.int .u64 n28), (AV.int .u64 n29), (AV.int .u64 n36), (AV.int .u64 n37), (AV.int .u64 n44), (AV.int .u64 n45), x11]) = (some s46)) ∧ (∃ n47 : Int, (∃ n48 : Int, (∃ n49 : Int, (∃ n50 : Int, (∃ n51 : Int, (∃ n52 : Int, (∃ x53 : AV, (((ldN s46 (AV.ptr m5 0) 7) = (some [(AV.int .u64 n47), (AV.int .u64 n48), (AV.int .u64 n49), (AV.int .u64 n50), (AV.int .u64 n51), (AV.int .u64 n52), x53])) ∧ (Q (AV.tuple [(AV.agg [(AV.int .u64 n47), (AV.int .u64 n48), (AV.int .u64 n49), (AV.int .u64 n50), (AV.int .u64 n51), (AV.int .u64 n52), x53]), (AV.int .i64 0)]) s46))))))))))))
 )
set_option maxRecDepth 100000 in
theorem vc.spoorref14_Plus_ok {a0_0 : Int} {a0_1 : Int} {a0_2 : Int} {a0_3 : Int} {a0_4 : Int} {a0_5 : Int} {a0_6 : AV} {a1_0 : Int} {a1_1 : Int} {a1_2 : Int} {a1_3 : Int} {a1_4 : Int} {a1_5 : Int} {a1_6 : AV} {s : St} {Q : AV → St → Prop} (h : vc.spoorref14_Plus a0_0 a0_1 a0_2 a0_3 a0_4 a0_5 a0_6 a1_0 a1_1 a1_2 a1_3 a1_4 a1_5 a1_6 s Q) : CallsD P F.spoorref14_Plus [.agg [.int .u64 a0_0, .int .u64 a0_1, .int .u64 a0_2, .int .u64 a0_3, .int .u64 a0_4, .int .u64 a0_5, a0_6], .agg [.int .u64 a1_0, .int .u64 a1_1, .int .u64 a1_2, .int .u64 a1_3, .int .u64 a1_4, .int .u64 a1_5, a1_6]] s Q :=
 fnD_ok (C := C.spoorref14_Plus) hD hX rfl mixes (fi := fnI Try.f47) (by kernel_rfl) (by kernel_rfl) (cast (by kernel_rfl : vc.spoorref14_Plus a0_0 a0_1 a0_2 a0_3 a0_4 a0_5 a0_6 a1_0 a1_1 a1_2 a1_3 a1_4 a1_5 a1_6 s Q = wpC P C.spoorref14_Plus 1000000 (fnI Try.f47).body ⟨PT.setAll .nil 0 [.agg [.int .u64 a0_0, .int .u64 a0_1, .int .u64 a0_2, .int .u64 a0_3, .int .u64 a0_4, .int .u64 a0_5, a0_6], .agg [.int .u64 a1_0, .int .u64 a1_1, .int .u64 a1_2, .int .u64 a1_3, .int .u64 a1_4, .int .u64 a1_5, a1_6]], max [.agg [.int .u64 a0_0, .int .u64 a0_1, .int .u64 a0_2, .int .u64 a0_3, .int .u64 a0_4, .int .u64 a0_5, a0_6], .agg [.int .u64 a1_0, .int .u64 a1_1, .int .u64 a1_2, .int .u64 a1_3, .int .u64 a1_4, .int .u64 a1_5, a1_6]].length (fnI Try.f47).nt, s, []⟩ (endW C.spoorref14_Plus (fnI Try.f47).results Q)) h)
end
end Go.Eng.S

