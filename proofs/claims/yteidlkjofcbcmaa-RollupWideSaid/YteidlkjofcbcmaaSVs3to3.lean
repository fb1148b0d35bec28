/-
  What is to be shown of functions of the program, and that it suffices.
  What is to be shown of functions of the program, and that it suffices.
  What is to be shown of functions of the program, and that it suffices.
  What is to be shown of functions of the program, and that it suffices.
-/
import Derived.Test.YteidlkjofcbcmaaSDefs
namespace Go.Eng.S
open Go Go.Eng Go.Proofs
noncomputable section
def C.slices_order2Ordered_int64 : Cx := { D := D, rt := rt, its := [], lps := [], det := true }
set_option maxRecDepth 100000 in
def vc.slices_order2Ordered_int64 (a0 : AV) (a1 : Int) (a2 : Int) (a3 : AV) (s : St) (Q : (AV → (St → Prop))) : Prop :=
 ∀ (s1 : St),
 (Bump s 9 s1) →
 ixsK 1 a0 a2 fun m2 m3 =>
 ∃ (n4 : Int),
 ((ld1 s1 (AV.ptr m2 m3)) = (some (AV.int .i64 n4))) ∧
 ixsK 1 a0 a1 fun m5 m6 =>
 ∃ (n7 : Int),
 ((ld1 s1 (AV.ptr m5 m6)) = (some (AV.int .i64 n7))) ∧
 CallsD P F.cmp_Less_int64 [(AV.int .i64 n4), (AV.int .i64 n7)] s1 fun x8 s9 =>
 ∃ (c10 : Bool),
 (x8 = (AV.bool c10)) ∧
 bsel c10 (
  ptrK a3 0 fun m11 m12 =>
  ∃ (n13 : Int),
  ((ld1 s9 (AV.ptr m11 m12)) = (some (AV.int .i64 n13))) ∧
  ptrK a3 0 fun m14 m15 =>
  ∃ (s16 : St),
  ((wrN s9 (AV.ptr m14 m15) [(AV.int .i64 (IntKind.wrap .i64 (n13 + 1)))]) = (some s16)) ∧
  (Q (AV.tuple [(AV.int .i64 a2), (AV.int .i64 a1)]) s16)
 ) (
  (Q (AV.tuple [(AV.int .i64 a1), (AV.int .i64 a2)]) s9)
 )
set_option maxRecDepth 100000 in
theorem vc.slices_order2Ordered_int64_ok {a0 : AV} {a1 : Int} {a2 : Int} {a3 : AV} {s : St} {Q : AV → St → Prop} (h : vc.slices_order2Ordered_int64 a0 a1 a2 a3 s Q) : CallsD P F.slices_order2Ordered_int64 [a0, .int .i64 a1, .int .i64 a2, a3] s Q :=
 fnD_ok (C := C.slices_order2Ordered_int64) hD hX rfl mixes (fi := fnI Try.f104) (by kernel_rfl) (by kernel_rfl) (cast (by kernel_rfl : vc.slices_order2Ordered_int64 a0 a1 a2 a3 s Q = wpC P C.slices_order2Ordered_int64 1000000 (fnI Try.f104).body ⟨PT.setAll .nil 0 [a0, .int .i64 a1, .int .i64 a2, a3], max [a0, .int .i64 a1, .int .i64 a2, a3].length (fnI Try.f104).nt, s, []⟩ (endW C.slices_order2Ordered_int64 (fnI Try.f104).results Q)) h)
def C.slices_medianOrdered_int64 : Cx := { D := D, rt := rt, its := [], lps := [], det := true }
set_option maxRecDepth 100000 in
def vc.slices_medianOrdered_int64 (a0 : AV) (a1 : Int) (a2 : Int) (a3 : Int) (a4 : AV) (s : St) (Q : (AV → (St → Prop))) : Prop :=
 CallsD P F.slices_order2Ordered_int64 [a0, (AV.int .i64 a1), (AV.int .i64 a2), a4] s fun x1 s2 =>
 ∃ (n3 : Int) (n4 : Int),
 (x1 = (AV.tuple [(AV.int .i64 n3), (AV.int .i64 n4)])) ∧
 CallsD P F.slices_order2Ordered_int64 [a0, (AV.int .i64 n4), (AV.int .i64 a3), a4] s2 fun x5 s6 =>
 ∃ (n7 : Int) (n8 : Int),
 (x5 = (AV.tuple [(AV.int .i64 n7), (AV.int .i64 n8)])) ∧
 CallsD P F.slices_order2Ordered_int64 [a0, (AV.int .i64 n3), (AV.int .i64 n7), a4] s6 fun x9 s10 =>
 ∃ (n11 : Int) (n12 : Int),
 (x9 = (AV.tuple [(AV.int .i64 n11), (AV.int .i64 n12)])) ∧
 (Q (AV.int .i64 n12) s10)
set_option maxRecDepth 100000 in
theorem vc.slices_medianOrdered_int64_ok {a0 : AV} {a1 : Int} {a2 : Int} {a3 : Int} {a4 : AV} {s : St} {Q : AV → St → Prop} (h : vc.slices_medianOrdered_int64 a0 a1 a2 a3 a4 s Q) : CallsD P F.slices_medianOrdered_int64 [a0, .int .i64 a1, .int .i64 a2, .int .i64 a3, a4] s Q :=
 fnD_ok (C := C.slices_medianOrdered_int64) hD hX rfl mixes (fi := fnI Try.f98) (by kernel_rfl) (by kernel_rfl) (cast (by kernel_rfl : vc.slices_medianOrdered_int64 a0 a1 a2 a3 a4 s Q = wpC P C.slices_medianOrdered_int64 1000000 (fnI Try.f98).body ⟨PT.setAll .nil 0 [a0, .int .i64 a1, .int .i64 a2, .int .i64 a3, a4], max [a0, .int .i64 a1, .int .i64 a2, .int .i64 a3, a4].length (fnI Try.f98).nt, s, []⟩ (endW C.slices_medianOrdered_int64 (fnI Try.f98).results Q)) h)
def C.slices_medianAdjacentOrdered_int64 : Cx := { D := D, rt := rt, its := [], lps := [], det := true }
set_option maxRecDepth 100000 in
def vc.slices_medianAdjacentOrdered_int64 (a0 : AV) (a1 : Int) (a2 : AV) (s : St) (Q : (AV → (St → Prop))) : Prop :=
 CallsD P F.slices_medianOrdered_int64 [a0, (AV.int .i64 (IntKind.wrap .i64 (a1 - 1))), (AV.int .i64 a1), (AV.int .i64 (IntKind.wrap .i64 (a1 + 1))), a2] s fun x1 s2 =>
 ∃ (n3 : Int),
 (x1 = (AV.int .i64 n3)) ∧
 (Q (AV.int .i64 n3) s2)
set_option maxRecDepth 100000 in
theorem vc.slices_medianAdjacentOrdered_int64_ok {a0 : AV} {a1 : Int} {a2 : AV} {s : St} {Q : AV → St → Prop} (h : vc.slices_medianAdjacentOrdered_int64 a0 a1 a2 s Q) : CallsD P F.slices_medianAdjacentOrdered_int64 [a0, .int .i64 a1, a2] s Q :=
 fnD_ok (C := C.slices_medianAdjacentOrdered_int64) hD hX rfl mixes (fi := fnI Try.f97) (by kernel_rfl) (by kernel_rfl) (cast (by kernel_rfl : vc.slices_medianAdjacentOrdered_int64 a0 a1 a2 s Q = wpC P C.slices_medianAdjacentOrdered_int64 1000000 (fnI Try.f97).body ⟨PT.setAll .nil 0 [a0, .int .i64 a1, a2], max [a0, .int .i64 a1, a2].length (fnI Try.f97).nt, s, []⟩ (endW C.slices_medianAdjacentOrdered_int64 (fnI Try.f97).results Q)) h)
def C.slices_choosePivotOrdered_int64 : Cx := { D := D, rt := rt, its := [], lps := [], det := true, jns := [(105, [10, 37, 36, 35, 12, 43, 42, 41, 38, 39, 40, 11, 33, 34], [10, 11, 12], [.int .i64 0, .int .i64 0, .int .i64 0]), (99, [34, 33, 11, 40, 39, 38, 41, 42, 43, 12, 35, 36, 37, 10, 44, 45, 46, 47, 48, 31, 32], [11], [.int .i64 0])] }
set_option maxRecDepth 100000 in
def vc.slices_choosePivotOrdered_int64 (a0 : AV) (a1 : Int) (a2 : Int) (s : St) (Q : (AV → (St → Prop))) : Prop :=
 ∀ (m1 : Nat) (s2 : St),
 (NewO s (cellsO [(AV.int .i64 0)]) m1 s2) →
 ((4 : Int) ≠ 0) ∧
 ((4 : Int) ≠ 0) ∧
 ((4 : Int) ≠ 0) ∧
 ∃ (I3 : (Int → (St → (Nat → Prop)))),
 (
  bsel (decide ((IntKind.wrap .i64 (a2 - a1)) ≥ 8)) (
   ∃ (I4 : (Int → (Int → (Int → (St → (Nat → Prop)))))),
   (
    bsel (decide ((IntKind.wrap .i64 (a2 - a1)) ≥ 50)) (
     CallsD P F.slices_medianAdjacentOrdered_int64 [a0, (AV.int .i64 (IntKind.wrap .i64 (a1 + (IntKind.wrap .i64 ((IntKind.wrap .i64 (Int.tdiv (IntKind.wrap .i64 (a2 - a1)) 4)) * 1))))), (AV.ptr m1 0)] s2 fun x5 s6 =>
     ∃ (n7 : Int),
     (x5 = (AV.int .i64 n7)) ∧
     CallsD P F.slices_medianAdjacentOrdered_int64 [a0, (AV.int .i64 (IntKind.wrap .i64 (a1 + (IntKind.wrap .i64 ((IntKind.wrap .i64 (Int.tdiv (IntKind.wrap .i64 (a2 - a1)) 4)) * 2))))), (AV.ptr m1 0)] s6 fun x8 s9 =>
     ∃ (n10 : Int),
     (x8 = (AV.int .i64 n10)) ∧
     CallsD P F.slices_medianAdjacentOrdered_int64 [a0, (AV.int .i64 (IntKind.wrap .i64 (a1 + (IntKind.wrap .i64 ((IntKind.wrap .i64 (Int.tdiv (IntKind.wrap .i64 (a2 - a1)) 4)) * 3))))), (AV.ptr m1 0)] s9 fun x11 s12 =>
     ∃ (n13 : Int),
     (x11 = (AV.int .i64 n13)) ∧
     ∃ (m14 : Nat),
     (I4 n7 n10 n13 s12 m14)
    ) (
     ∃ (m15 : Nat),
     (I4 (IntKind.wrap .i64 (a1 + (IntKind.wrap .i64 ((IntKind.wrap .i64 (Int.tdiv (IntKind.wrap .i64 (a2 - a1)) 4)) * 1)))) (IntKind.wrap .i64 (a1 + (IntKind.wrap .i64 ((IntKind.wrap .i64 (Int.tdiv (IntKind.wrap .i64 (a2 - a1)) 4)) * 2)))) (IntKind.wrap .i64 (a1 + (IntKind.wrap .i64 ((IntKind.wrap .i64 (Int.tdiv (IntKind.wrap .i64 (a2 - a1)) 4)) * 3)))) s2 m15)
    )
   ) ∧
   ∀ (n16 : Int) (n17 : Int) (n18 : Int) (s19 : St) (m20 : Nat),
   (I4 n16 n17 n18 s19 m20) →
   CallsD P F.slices_medianOrdered_int64 [a0, (AV.int .i64 n16), (AV.int .i64 n17), (AV.int .i64 n18), (AV.ptr m1 0)] s19 fun x21 s22 =>
   ∃ (n23 : Int),
   (x21 = (AV.int .i64 n23)) ∧
   ∃ (m24 : Nat),
   (I3 n23 s22 m24)
  ) (
   ∃ (m25 : Nat),
   (I3 (IntKind.wrap .i64 (a1 + (IntKind.wrap .i64 ((IntKind.wrap .i64 (Int.tdiv (IntKind.wrap .i64 (a2 - a1)) 4)) * 2)))) s2 m25)
  )
 ) ∧
 ∀ (n26 : Int) (s27 : St) (m28 : Nat),
 (I3 n26 s27 m28) →
 ∃ (n29 : Int),
 ((ld1 s27 (AV.ptr m1 0)) = (some (AV.int .i64 n29))) ∧
 bsel (n29 == 0) (
  (Q (AV.tuple [(AV.int .i64 n26), (AV.int .i64 1)]) s27)
 ) (
  bsel (n29 == 12) (
   (Q (AV.tuple [(AV.int .i64 n26), (AV.int .i64 2)]) s27)
  ) (
   (Q (AV.tuple [(AV.int .i64 n26), (AV.int .i64 0)]) s27)
  )
 )
set_option maxRecDepth 100000 in
theorem vc.slices_choosePivotOrdered_int64_ok {a0 : AV} {a1 : Int} {a2 : Int} {s : St} {Q : AV → St → Prop} (h : vc.slices_choosePivotOrdered_int64 a0 a1 a2 s Q) : CallsD P F.slices_choosePivotOrdered_int64 [a0, .int .i64 a1, .int .i64 a2] s Q :=
 fnD_ok (C := C.slices_choosePivotOrdered_int64) hD hX rfl mixes (fi := fnI Try.f75) (by kernel_rfl) (by kernel_rfl) (cast (by kernel_rfl : vc.slices_choosePivotOrdered_int64 a0 a1 a2 s Q = wpC P C.slices_choosePivotOrdered_int64 1000000 (fnI Try.f75).body ⟨PT.setAll .nil 0 [a0, .int .i64 a1, .int .i64 a2], max [a0, .int .i64 a1, .int .i64 a2].length (fnI Try.f75).nt, s, []⟩ (endW C.slices_choosePivotOrdered_int64 (fnI Try.f75).results Q)) h)
def C.slices_nextPowerOfTwo : Cx := { D := D, rt := rt, its := [], lps := [], det := true }
set_option maxRecDepth 100000 in
def vc.slices_nextPowerOfTwo (a0 : Int) (s : St) (Q : (AV → (St → Prop))) : Prop :=
 CallsD P F.math_bits_Len [(AV.int .u64 (IntKind.wrap .u64 a0))] s fun x1 s2 =>
 ∃ (n3 : Int),
 (x1 = (AV.int .i64 n3)) ∧
 ((0 : Int) ≤ n3) ∧
 (Q (AV.int .u64 (IntKind.wrap .u64 (1 * (2 ^ (min (Int.toNat n3) 64))))) s2)
set_option maxRecDepth 100000 in
theorem vc.slices_nextPowerOfTwo_ok {a0 : Int} {s : St} {Q : AV → St → Prop} (h : vc.slices_nextPowerOfTwo a0 s Q) : CallsD P F.slices_nextPowerOfTwo [.int .i64 a0] s Q :=
 fnD_ok (C := C.slices_nextPowerOfTwo) hD hX rfl mixes (fi := fnI Try.f95) (by kernel_rfl) (by kernel_rfl) (cast (by kernel_rfl : vc.slices_nextPowerOfTwo a0 s Q = wpC P C.slices_nextPowerOfTwo 1000000 (fnI Try.f95).body ⟨PT.setAll .nil 0 [.int .i64 a0], max [.int .i64 a0].length (fnI Try.f95).nt, s, []⟩ (endW C.slices_nextPowerOfTwo (fnI Try.f95).results Q)) h)
def C.p_slices_xorshift_Next : Cx := { D := D, rt := rt, its := [], lps := [], det := true }
set_option maxRecDepth 100000 in
def vc.p_slices_xorshift_Next (a0 : AV) (s : St) (Q : (AV → (St → Prop))) : Prop :=
 ∀ (s1 : St),
 (Bump s 10 s1) →
 ptrK a0 0 fun m2 m3 =>
 ∃ (n4 : Int),
 ((ld1 s1 (AV.ptr m2 m3)) = (some (AV.int .u64 n4))) ∧
 ptrK a0 0 fun m5 m6 =>
 ∃ (n7 : Int),
 ((ld1 s1 (AV.ptr m5 m6)) = (some (AV.int .u64 n7))) ∧
 ((0 : Int) ≤ 13) ∧
 ptrK a0 0 fun m8 m9 =>
 ∃ (s10 : St),
 ((wrN s1 (AV.ptr m8 m9) [(AV.int .u64 (IntKind.wrap .u64 (((BitVec.toNat ((BitVec.ofInt 64 n4) ^^^ (BitVec.ofInt 64 (IntKind.wrap .u64 (n7 * (2 ^ 13)))))) : Nat) : Int)))]) = (some s10)) ∧
 ∀ (s11 : St),
 (Bump s10 10 s11) →
 ptrK a0 0 fun m12 m13 =>
 ∃ (n14 : Int),
 ((ld1 s11 (AV.ptr m12 m13)) = (some (AV.int .u64 n14))) ∧
 ptrK a0 0 fun m15 m16 =>
 ∃ (n17 : Int),
 ((ld1 s11 (AV.ptr m15 m16)) = (some (AV.int .u64 n17))) ∧
 ((0 : Int) ≤ 7) ∧
 ptrK a0 0 fun m18 m19 =>
 ∃ (s20 : St),
 ((wrN s11 (AV.ptr m18 m19) [(AV.int .u64 (IntKind.wrap .u64 (((BitVec.toNat ((BitVec.ofInt 64 n14) ^^^ (BitVec.ofInt 64 (Int.fdiv n17 (2 ^ 7))))) : Nat) : Int)))]) = (some s20)) ∧
 ∀ (s21 : St),
 (Bump s20 10 s21) →
 ptrK a0 0 fun m22 m23 =>
 ∃ (n24 : Int),
 ((ld1 s21 (AV.ptr m22 m23)) = (some (AV.int .u64 n24))) ∧
 ptrK a0 0 fun m25 m26 =>
 ∃ (n27 : Int),
 ((ld1 s21 (AV.ptr m25 m26)) = (some (AV.int .u64 n27))) ∧
 ((0 : Int) ≤ 17) ∧
 ptrK a0 0 fun m28 m29 =>
 ∃ (s30 : St),
 ((wrN s21 (AV.ptr m28 m29) [(AV.int .u64 (IntKind.wrap .u64 (((BitVec.toNat ((BitVec.ofInt 64 n24) ^^^ (BitVec.ofInt 64 (IntKind.wrap .u64 (n27 * (2 ^ 17)))))) : Nat) : Int)))]) = (some s30)) ∧
 ptrK a0 0 fun m31 m32 =>
 ∃ (n33 : Int),
 ((ld1 s30 (AV.ptr m31 m32)) = (some (AV.int .u64 n33))) ∧
 (Q (AV.int .u64 n33) s30)
set_option maxRecDepth 100000 in
theorem vc.p_slices_xorshift_Next_ok {a0 : AV} {s : St} {Q : AV → St → Prop} (h : vc.p_slices_xorshift_Next a0 s Q) : CallsD P F.p_slices_xorshift_Next [a0] s Q :=
 fnD_ok (C := C.p_slices_xorshift_Next) hD hX rfl mixes (fi := fnI Try.f96) (by kernel_rfl) (by kernel_rfl) (cast (by kernel_rfl : vc.p_slices_xorshift_Next a0 s Q = wpC P C.p_slices_xorshift_Next 1000000 (fnI Try.f96).body ⟨PT.setAll .nil 0 [a0], max [a0].length (fnI Try.f96).nt, s, []⟩ (endW C.p_slices_xorshift_Next (fnI Try.f96).results Q)) h)
def C.slices_breakPatternsOrdered_int64 : Cx := { D := D, rt := rt, its := [], lps := [(0, [10, 40, 39, 38, 37, 36, 64, 63, 62, 61, 60, 59, 58, 57, 56, 55, 54, 53, 52, 51, 50, 49, 48, 47, 46, 45, 44, 41, 42, 43, 34, 35, 9, 26, 27, 28, 29, 30, 31, 32, 33], [9])], det := true }
set_option maxRecDepth 100000 in
def vc.slices_breakPatternsOrdered_int64 (a0 : AV) (a1 : Int) (a2 : Int) (s : St) (Q : (AV → (St → Prop))) : Prop :=
 bsel (decide ((IntKind.wrap .i64 (a2 - a1)) ≥ 8)) (
  ∀ (m1 : Nat) (s2 : St),
  (NewO s (cellsO [(AV.int .u64 0)]) m1 s2) →
  ∃ (s3 : St),
  ((wrN s2 (AV.ptr m1 0) [(AV.int .u64 (IntKind.wrap .u64 (IntKind.wrap .i64 (a2 - a1))))]) = (some s3)) ∧
  CallsD P F.slices_nextPowerOfTwo [(AV.int .i64 (IntKind.wrap .i64 (a2 - a1)))] s3 fun x4 s5 =>
  ∃ (n6 : Int),
  (x4 = (AV.int .u64 n6)) ∧
  ((4 : Int) ≠ 0) ∧
  ∃ (I7 : (Int → (St → (Nat → Prop)))),
  (
   ∃ (m8 : Nat),
   (I7 (IntKind.wrap .i64 ((IntKind.wrap .i64 (a1 + (IntKind.wrap .i64 ((IntKind.wrap .i64 (Int.tdiv (IntKind.wrap .i64 (a2 - a1)) 4)) * 2)))) - 1)) s5 m8)
  ) ∧
  ∀ (n9 : Int) (s10 : St) (m11 : Nat),
  (I7 n9 s10 m11) →
  ((4 : Int) ≠ 0) ∧
  bsel (decide (n9 ≤ (IntKind.wrap .i64 ((IntKind.wrap .i64 (a1 + (IntKind.wrap .i64 ((IntKind.wrap .i64 (Int.tdiv (IntKind.wrap .i64 (a2 - a1)) 4)) * 2)))) + 1)))) (
   CallsD P F.p_slices_xorshift_Next [(AV.ptr m1 0)] s10 fun x12 s13 =>
   ∃ (n14 : Int),
   (x12 = (AV.int .u64 n14)) ∧
   bsel (decide ((IntKind.wrap .i64 (IntKind.wrap .u64 (((BitVec.toNat ((BitVec.ofInt 64 n14) &&& (BitVec.ofInt 64 (IntKind.wrap .u64 (n6 - 1))))) : Nat) : Int))) ≥ (IntKind.wrap .i64 (a2 - a1)))) (
    ∀ (s15 : St),
    (Bump s13 20 s15) →
    ixsK 1 a0 (IntKind.wrap .i64 (a1 + (IntKind.wrap .i64 ((IntKind.wrap .i64 (IntKind.wrap .u64 (((BitVec.toNat ((BitVec.ofInt 64 n14) &&& (BitVec.ofInt 64 (IntKind.wrap .u64 (n6 - 1))))) : Nat) : Int))) - (IntKind.wrap .i64 (a2 - a1)))))) fun m16 m17 =>
    ∃ (n18 : Int),
    ((ld1 s15 (AV.ptr m16 m17)) = (some (AV.int .i64 n18))) ∧
    ixsK 1 a0 n9 fun m19 m20 =>
    ∃ (n21 : Int),
    ((ld1 s15 (AV.ptr m19 m20)) = (some (AV.int .i64 n21))) ∧
    ixsK 1 a0 n9 fun m22 m23 =>
    ∃ (s24 : St),
    ((wrN s15 (AV.ptr m22 m23) [(AV.int .i64 n18)]) = (some s24)) ∧
    ixsK 1 a0 (IntKind.wrap .i64 (a1 + (IntKind.wrap .i64 ((IntKind.wrap .i64 (IntKind.wrap .u64 (((BitVec.toNat ((BitVec.ofInt 64 n14) &&& (BitVec.ofInt 64 (IntKind.wrap .u64 (n6 - 1))))) : Nat) : Int))) - (IntKind.wrap .i64 (a2 - a1)))))) fun m25 m26 =>
    ∃ (s27 : St),
    ((wrN s24 (AV.ptr m25 m26) [(AV.int .i64 n21)]) = (some s27)) ∧
    ∃ (m28 : Nat),
    (m28 < m11) ∧
    (I7 (IntKind.wrap .i64 (n9 + 1)) s27 m28)
   ) (
    ∀ (s29 : St),
    (Bump s13 20 s29) →
    ixsK 1 a0 (IntKind.wrap .i64 (a1 + (IntKind.wrap .i64 (IntKind.wrap .u64 (((BitVec.toNat ((BitVec.ofInt 64 n14) &&& (BitVec.ofInt 64 (IntKind.wrap .u64 (n6 - 1))))) : Nat) : Int))))) fun m30 m31 =>
    ∃ (n32 : Int),
    ((ld1 s29 (AV.ptr m30 m31)) = (some (AV.int .i64 n32))) ∧
    ixsK 1 a0 n9 fun m33 m34 =>
    ∃ (n35 : Int),
    ((ld1 s29 (AV.ptr m33 m34)) = (some (AV.int .i64 n35))) ∧
    ixsK 1 a0 n9 fun m36 m37 =>
    ∃ (s38 : St),
    ((wrN s29 (AV.ptr m36 m37) [(AV.int .i64 n32)]) = (some s38)) ∧
    ixsK 1 a0 (IntKind.wrap .i64 (a1 + (IntKind.wrap .i64 (IntKind.wrap .u64 (((BitVec.toNat ((BitVec.ofInt 64 n14) &&& (BitVec.ofInt 64 (IntKind.wrap .u64 (n6 - 1))))) : Nat) : Int))))) fun m39 m40 =>
    ∃ (s41 : St),
    ((wrN s38 (AV.ptr m39 m40) [(AV.int .i64 n35)]) = (some s41)) ∧
    ∃ (m42 : Nat),
    (m42 < m11) ∧
    (I7 (IntKind.wrap .i64 (n9 + 1)) s41 m42)
   )
  ) (
   (Q (AV.tuple []) s10)
  )
 ) (
  (Q (AV.tuple []) s)
 )
set_option maxRecDepth 100000 in
theorem vc.slices_breakPatternsOrdered_int64_ok {a0 : AV} {a1 : Int} {a2 : Int} {s : St} {Q : AV → St → Prop} (h : vc.slices_breakPatternsOrdered_int64 a0 a1 a2 s Q) : CallsD P F.slices_breakPatternsOrdered_int64 [a0, .int .i64 a1, .int .i64 a2] s Q :=
 fnD_ok (C := C.slices_breakPatternsOrdered_int64) hD hX rfl mixes (fi := fnI Try.f74) (by kernel_rfl) (by kernel_rfl) (cast (by kernel_rfl : vc.slices_breakPatternsOrdered_int64 a0 a1 a2 s Q = wpC P C.slices_breakPatternsOrdered_int64 1000000 (fnI Try.f74).body ⟨PT.setAll .nil 0 [a0, .int .i64 a1, .int .i64 a2], max [a0, .int .i64 a1, .int .i64 a2].length (fnI Try.f74).nt, s, []⟩ (endW C.slices_breakPatternsOrdered_int64 (fnI Try.f74).results Q)) h)
end
end Go.Eng.S

namespace Go.Eng.S
open Go Go.Eng Go.Proofs
noncomputable section
def C.math_bits_Len64 : Cx := { D := D, rt := rt, its := [], lps := [], det := true, jns := [(15, [0, 6, 5, 2, 3, 4], [0, 2], [.int .u64 0, .int .i64 0]), (27, [0, 10, 9, 11, 12, 2, 7, 8], [0, 2], [.int .u64 0, .int .i64 0]), (45, [0, 16, 15, 17, 18, 2, 13, 14], [0, 2], [.int .u64 0, .int .i64 0])] }
set_option maxRecDepth 100000 in
def vc.math_bits_Len64 (a0 : Int) (s : St) (Q : (AV → (St → Prop))) : Prop :=
 ∃ (I1 : (Int → (Int → (St → (Nat → Prop))))),
 (
  bsel (decide (a0 ≥ 4294967296)) (
   ((0 : Int) ≤ 32) ∧
   ∃ (m2 : Nat),
   (I1 (Int.fdiv a0 (2 ^ 32)) 32 s m2)
  ) (
   ∃ (m3 : Nat),
   (I1 a0 0 s m3)
  )
 ) ∧
 ∀ (n4 : Int) (n5 : Int) (s6 : St) (m7 : Nat),
 (I1 n4 n5 s6 m7) →
 ∃ (I8 : (Int → (Int → (St → (Nat → Prop))))),
 (
  bsel (decide (n4 ≥ 65536)) (
   ((0 : Int) ≤ 16) ∧
   ∃ (m9 : Nat),
   (I8 (Int.fdiv n4 (2 ^ 16)) (IntKind.wrap .i64 (n5 + 16)) s6 m9)
  ) (
   ∃ (m10 : Nat),
   (I8 n4 n5 s6 m10)
  )
 ) ∧
 ∀ (n11 : Int) (n12 : Int) (s13 : St) (m14 : Nat),
 (I8 n11 n12 s13 m14) →
 ∃ (I15 : (Int → (Int → (St → (Nat → Prop))))),
 (
  bsel (decide (n11 ≥ 256)) (
   ((0 : Int) ≤ 8) ∧
   ∃ (m16 : Nat),
   (I15 (Int.fdiv n11 (2 ^ 8)) (IntKind.wrap .i64 (n12 + 8)) s13 m16)
  ) (
   ∃ (m17 : Nat),
   (I15 n11 n12 s13 m17)
  )
 ) ∧
 ∀ (n18 : Int) (n19 : Int) (s20 : St) (m21 : Nat),
 (I15 n18 n19 s20 m21) →
 byteK (ByteArray.mk #[0, 1, 2, 2, 3, 3, 3, 3, 4, 4, 4, 4, 4, 4, 4, 4, 5, 5, 5, 5, 5, 5, 5, 5, 5, 5, 5, 5, 5, 5, 5, 5, 6, 6, 6, 6, 6, 6, 6, 6, 6, 6, 6, 6, 6, 6, 6, 6, 6, 6, 6, 6, 6, 6, 6, 6, 6, 6, 6, 6, 6, 6, 6, 6, 7, 7, 7, 7, 7, 7, 7, 7, 7, 7, 7, 7, 7, 7, 7, 7, 7, 7, 7, 7, 7, 7, 7, 7, 7, 7, 7, 7, 7, 7, 7, 7, 7, 7, 7, 7, 7, 7, 7, 7, 7, 7, 7, 7, 7, 7, 7, 7, 7, 7, 7, 7, 7, 7, 7, 7, 7, 7, 7, 7, 7, 7, 7, 7, 8, 8, 8, 8, 8, 8, 8, 8, 8, 8, 8, 8, 8, 8, 8, 8, 8, 8, 8, 8, 8, 8, 8, 8, 8, 8, 8, 8, 8, 8, 8, 8, 8, 8, 8, 8, 8, 8, 8, 8, 8, 8, 8, 8, 8, 8, 8, 8, 8, 8, 8, 8, 8, 8, 8, 8, 8, 8, 8, 8, 8, 8, 8, 8, 8, 8, 8, 8, 8, 8, 8, 8, 8, 8, 8, 8, 8, 8, 8, 8, 8, 8, 8, 8, 8, 8, 8, 8, 8, 8, 8, 8, 8, 8, 8, 8, 8, 8, 8, 8, 8, 8, 8, 8, 8, 8, 8, 8, 8, 8, 8, 8, 8, 8, 8, 8, 8, 8, 8, 8, 8, 8, 8, 8, 8, 8, 8, 8]) (IntKind.wrap .u8 n18) fun y22 =>
 (Q (AV.int .i64 (IntKind.wrap .i64 (n19 + (IntKind.wrap .i64 (((UInt8.toNat y22) : Nat) : Int))))) s20)
set_option maxRecDepth 100000 in
theorem vc.math_bits_Len64_ok {a0 : Int} {s : St} {Q : AV → St → Prop} (h : vc.math_bits_Len64 a0 s Q) : CallsD P F.math_bits_Len64 [.int .u64 a0] s Q :=
 fnD_ok (C := C.math_bits_Len64) hD hX rfl mixes (fi := fnI Try.f82) (by kernel_rfl) (by kernel_rfl) (cast (by kernel_rfl : vc.math_bits_Len64 a0 s Q = wpC P C.math_bits_Len64 1000000 (fnI Try.f82).body ⟨PT.setAll .nil 0 [.int .u64 a0], max [.int .u64 a0].length (fnI Try.f82).nt, s, []⟩ (endW C.math_bits_Len64 (fnI Try.f82).results Q)) h)
def C.math_bits_Len : Cx := { D := D, rt := rt, its := [], lps := [], det := true }
set_option maxRecDepth 100000 in
def vc.math_bits_Len (a0 : Int) (s : St) (Q : (AV → (St → Prop))) : Prop :=
 CallsD P F.math_bits_Len64 [(AV.int .u64 a0)] s fun x1 s2 =>
 ∃ (n3 : Int),
 (x1 = (AV.int .i64 n3)) ∧
 (Q (AV.int .i64 n3) s2)
set_option maxRecDepth 100000 in
theorem vc.math_bits_Len_ok {a0 : Int} {s : St} {Q : AV → St → Prop} (h : vc.math_bits_Len a0 s Q) : CallsD P F.math_bits_Len [.int .u64 a0] s Q :=
 fnD_ok (C := C.math_bits_Len) hD hX rfl mixes (fi := fnI Try.f59) (by kernel_rfl) (by kernel_rfl) (cast (by kernel_rfl : vc.math_bits_Len a0 s Q = wpC P C.math_bits_Len 1000000 (fnI Try.f59).body ⟨PT.setAll .nil 0 [.int .u64 a0], max [.int .u64 a0].length (fnI Try.f59).nt, s, []⟩ (endW C.math_bits_Len (fnI Try.f59).results Q)) h)
def C.slices_pdqsortOrdered_int64 : Cx := { D := D, rt := rt, its := [], lps := [(0, [23, 22, 24, 25, 26, 27, 35, 34, 3, 41, 40, 36, 37, 38, 39, 50, 49, 60, 59, 58, 57, 56, 55, 51, 52, 53, 54, 87, 86, 85, 84, 83, 82, 81, 80, 79, 78, 77, 76, 75, 74, 73, 1, 93, 88, 89, 90, 91, 92, 13, 9, 102, 18, 110, 109, 8, 116, 115, 114, 123, 122, 117, 118, 119, 120, 121, 132, 131, 130, 129, 128, 127, 133, 2, 124, 125, 126, 111, 112, 113, 103, 104, 105, 106, 107, 108, 16, 17, 95, 96, 97, 98, 99, 94, 100, 101, 14, 15, 72, 71, 70, 69, 61, 62, 63, 64, 65, 66, 67, 68, 43, 44, 45, 46, 42, 47, 48, 11, 12, 33, 32, 31, 30, 28, 29, 19, 20, 21, 10], [1, 2, 3, 8, 9])], det := true, jns := [(108, [39, 38, 37, 36, 40, 41, 3, 34, 35], [3], [.int .i64 0]), (153, [54, 53, 52, 51, 12, 55, 56, 57, 58, 59, 60, 11, 49, 50], [11, 12], [.int .i64 0, .int .i64 0]), (207, [72, 71, 70, 69, 61, 62, 63, 64, 65, 66, 67, 68], [], [])] }
set_option maxRecDepth 100000 in
def vc.slices_pdqsortOrdered_int64 (a0 : AV) (a1 : Int) (a2 : Int) (a3 : Int) (s : St) (Q : (AV → (St → Prop))) : Prop :=
 ∃ (I1 : (Int → (Int → (Int → (Bool → (Bool → (St → (Nat → Prop)))))))),
 (
  ∃ (m2 : Nat),
  (I1 a1 a2 a3 true true s m2)
 ) ∧
 ∀ (n3 : Int) (n4 : Int) (n5 : Int) (c6 : Bool) (c7 : Bool) (s8 : St) (m9 : Nat),
 (I1 n3 n4 n5 c6 c7 s8 m9) →
 bsel (decide ((IntKind.wrap .i64 (n4 - n3)) ≤ 12)) (
  CallsD P F.slices_insertionSortOrdered_int64 [a0, (AV.int .i64 n3), (AV.int .i64 n4)] s8 fun x10 s11 =>
  (x10 = (AV.tuple [])) ∧
  (Q (AV.tuple []) s11)
 ) (
  bsel (n5 == 0) (
   CallsD P F.slices_heapSortOrdered_int64 [a0, (AV.int .i64 n3), (AV.int .i64 n4)] s8 fun x12 s13 =>
   (x12 = (AV.tuple [])) ∧
   (Q (AV.tuple []) s13)
  ) (
   ∃ (I14 : (Int → (St → (Nat → Prop)))),
   (
    bsel (!c6) (
     CallsD P F.slices_breakPatternsOrdered_int64 [a0, (AV.int .i64 n3), (AV.int .i64 n4)] s8 fun x15 s16 =>
     (x15 = (AV.tuple [])) ∧
     ∃ (m17 : Nat),
     (I14 (IntKind.wrap .i64 (n5 - 1)) s16 m17)
    ) (
     ∃ (m18 : Nat),
     (I14 n5 s8 m18)
    )
   ) ∧
   ∀ (n19 : Int) (s20 : St) (m21 : Nat),
   (I14 n19 s20 m21) →
   CallsD P F.slices_choosePivotOrdered_int64 [a0, (AV.int .i64 n3), (AV.int .i64 n4)] s20 fun x22 s23 =>
   ∃ (n24 : Int) (n25 : Int),
   (x22 = (AV.tuple [(AV.int .i64 n24), (AV.int .i64 n25)])) ∧
   ∃ (I26 : (Int → (Int → (St → (Nat → Prop))))),
   (
    bsel (n25 == 2) (
     CallsD P F.slices_reverseRangeOrdered_int64 [a0, (AV.int .i64 n3), (AV.int .i64 n4)] s23 fun x27 s28 =>
     (x27 = (AV.tuple [])) ∧
     ∃ (m29 : Nat),
     (I26 (IntKind.wrap .i64 ((IntKind.wrap .i64 (n4 - 1)) - (IntKind.wrap .i64 (n24 - n3)))) 1 s28 m29)
    ) (
     ∃ (m30 : Nat),
     (I26 n24 n25 s23 m30)
    )
   ) ∧
   ∀ (n31 : Int) (n32 : Int) (s33 : St) (m34 : Nat),
   (I26 n31 n32 s33 m34) →
   ∃ (I35 : (St → (Nat → Prop))),
   (
    bsel c6 (
     bsel c7 (
      bsel (n32 == 1) (
       CallsD P F.slices_partialInsertionSortOrdered_int64 [a0, (AV.int .i64 n3), (AV.int .i64 n4)] s33 fun x36 s37 =>
       ∃ (c38 : Bool),
       (x36 = (AV.bool c38)) ∧
       bsel c38 (
        (Q (AV.tuple []) s37)
       ) (
        ∃ (m39 : Nat),
        (I35 s37 m39)
       )
      ) (
       ∃ (m40 : Nat),
       (I35 s33 m40)
      )
     ) (
      ∃ (m41 : Nat),
      (I35 s33 m41)
     )
    ) (
     ∃ (m42 : Nat),
     (I35 s33 m42)
    )
   ) ∧
   ∀ (s43 : St) (m44 : Nat),
   (I35 s43 m44) →
   ∀ (s45 : St),
   (Bump s43 15 s45) →
   bsel (decide (n3 > 0)) (
    ixsK 1 a0 (IntKind.wrap .i64 (n3 - 1)) fun m46 m47 =>
    ∃ (n48 : Int),
    ((ld1 s45 (AV.ptr m46 m47)) = (some (AV.int .i64 n48))) ∧
    ixsK 1 a0 n31 fun m49 m50 =>
    ∃ (n51 : Int),
    ((ld1 s45 (AV.ptr m49 m50)) = (some (AV.int .i64 n51))) ∧
    CallsD P F.cmp_Less_int64 [(AV.int .i64 n48), (AV.int .i64 n51)] s45 fun x52 s53 =>
    ∃ (c54 : Bool),
    (x52 = (AV.bool c54)) ∧
    bsel (!c54) (
     CallsD P F.slices_partitionEqualOrdered_int64 [a0, (AV.int .i64 n3), (AV.int .i64 n4), (AV.int .i64 n31)] s53 fun x55 s56 =>
     ∃ (n57 : Int),
     (x55 = (AV.int .i64 n57)) ∧
     ∃ (m58 : Nat),
     (m58 < m9) ∧
     (I1 n57 n4 n19 c6 c7 s56 m58)
    ) (
     CallsD P F.slices_partitionOrdered_int64 [a0, (AV.int .i64 n3), (AV.int .i64 n4), (AV.int .i64 n31)] s53 fun x59 s60 =>
     ∃ (n61 : Int) (c62 : Bool),
     (x59 = (AV.tuple [(AV.int .i64 n61), (AV.bool c62)])) ∧
     ((8 : Int) ≠ 0) ∧
     bsel (decide ((IntKind.wrap .i64 (n61 - n3)) < (IntKind.wrap .i64 (n4 - n61)))) (
      CallsD P F.slices_pdqsortOrdered_int64 [a0, (AV.int .i64 n3), (AV.int .i64 n61), (AV.int .i64 n19)] s60 fun x63 s64 =>
      (x63 = (AV.tuple [])) ∧
      ∃ (m65 : Nat),
      (m65 < m9) ∧
      (I1 (IntKind.wrap .i64 (n61 + 1)) n4 n19 (decide ((IntKind.wrap .i64 (n61 - n3)) ≥ (IntKind.wrap .i64 (Int.tdiv (IntKind.wrap .i64 (n4 - n3)) 8)))) c62 s64 m65)
     ) (
      CallsD P F.slices_pdqsortOrdered_int64 [a0, (AV.int .i64 (IntKind.wrap .i64 (n61 + 1))), (AV.int .i64 n4), (AV.int .i64 n19)] s60 fun x66 s67 =>
      (x66 = (AV.tuple [])) ∧
      ∃ (m68 : Nat),
      (m68 < m9) ∧
      (I1 n3 n61 n19 (decide ((IntKind.wrap .i64 (n4 - n61)) ≥ (IntKind.wrap .i64 (Int.tdiv (IntKind.wrap .i64 (n4 - n3)) 8)))) c62 s67 m68)
     )
    )
   ) (
    CallsD P F.slices_partitionOrdered_int64 [a0, (AV.int .i64 n3), (AV.int .i64 n4), (AV.int .i64 n31)] s45 fun x69 s70 =>
    ∃ (n71 : Int) (c72 : Bool),
    (x69 = (AV.tuple [(AV.int .i64 n71), (AV.bool c72)])) ∧
    ((8 : Int) ≠ 0) ∧
    bsel (decide ((IntKind.wrap .i64 (n71 - n3)) < (IntKind.wrap .i64 (n4 - n71)))) (
     CallsD P F.slices_pdqsortOrdered_int64 [a0, (AV.int .i64 n3), (AV.int .i64 n71), (AV.int .i64 n19)] s70 fun x73 s74 =>
     (x73 = (AV.tuple [])) ∧
     ∃ (m75 : Nat),
     (m75 < m9) ∧
     (I1 (IntKind.wrap .i64 (n71 + 1)) n4 n19 (decide ((IntKind.wrap .i64 (n71 - n3)) ≥ (IntKind.wrap .i64 (Int.tdiv (IntKind.wrap .i64 (n4 - n3)) 8)))) c72 s74 m75)
    ) (
     CallsD P F.slices_pdqsortOrdered_int64 [a0, (AV.int .i64 (IntKind.wrap .i64 (n71 + 1))), (AV.int .i64 n4), (AV.int .i64 n19)] s70 fun x76 s77 =>
     (x76 = (AV.tuple [])) ∧
     ∃ (m78 : Nat),
     (m78 < m9) ∧
     (I1 n3 n71 n19 (decide ((IntKind.wrap .i64 (n4 - n71)) ≥ (IntKind.wrap .i64 (Int.tdiv (IntKind.wrap .i64 (n4 - n3)) 8)))) c72 s77 m78)
    )
   )
  )
 )
set_option maxRecDepth 100000 in
theorem vc.slices_pdqsortOrdered_int64_ok {a0 : AV} {a1 : Int} {a2 : Int} {a3 : Int} {s : St} {Q : AV → St → Prop} (h : vc.slices_pdqsortOrdered_int64 a0 a1 a2 a3 s Q) : CallsD P F.slices_pdqsortOrdered_int64 [a0, .int .i64 a1, .int .i64 a2, .int .i64 a3] s Q :=
 fnD_ok (C := C.slices_pdqsortOrdered_int64) hD hX rfl mixes (fi := fnI Try.f58) (by kernel_rfl) (by kernel_rfl) (cast (by kernel_rfl : vc.slices_pdqsortOrdered_int64 a0 a1 a2 a3 s Q = wpC P C.slices_pdqsortOrdered_int64 1000000 (fnI Try.f58).body ⟨PT.setAll .nil 0 [a0, .int .i64 a1, .int .i64 a2, .int .i64 a3], max [a0, .int .i64 a1, .int .i64 a2, .int .i64 a3].length (fnI Try.f58).nt, s, []⟩ (endW C.slices_pdqsortOrdered_int64 (fnI Try.f58).results Q)) h)
def C.slices_Sort_sl_int64_int64 : Cx := { D := D, rt := rt, its := [], lps := [], det := true }
set_option maxRecDepth 100000 in
def vc.slices_Sort_sl_int64_int64 (a0 : AV) (s : St) (Q : (AV → (St → Prop))) : Prop :=
 slenK a0 fun m1 =>
 CallsD P F.math_bits_Len [(AV.int .u64 (IntKind.wrap .u64 ((m1 : Nat) : Int)))] s fun x2 s3 =>
 ∃ (n4 : Int),
 (x2 = (AV.int .i64 n4)) ∧
 CallsD P F.slices_pdqsortOrdered_int64 [a0, (AV.int .i64 0), (AV.int .i64 ((m1 : Nat) : Int)), (AV.int .i64 n4)] s3 fun x5 s6 =>
 (x5 = (AV.tuple [])) ∧
 (Q (AV.tuple []) s6)
set_option maxRecDepth 100000 in
theorem vc.slices_Sort_sl_int64_int64_ok {a0 : AV} {s : St} {Q : AV → St → Prop} (h : vc.slices_Sort_sl_int64_int64 a0 s Q) : CallsD P F.slices_Sort_sl_int64_int64 [a0] s Q :=
 fnD_ok (C := C.slices_Sort_sl_int64_int64) hD hX rfl mixes (fi := fnI Try.f43) (by kernel_rfl) (by kernel_rfl) (cast (by kernel_rfl : vc.slices_Sort_sl_int64_int64 a0 s Q = wpC P C.slices_Sort_sl_int64_int64 1000000 (fnI Try.f43).body ⟨PT.setAll .nil 0 [a0], max [a0].length (fnI Try.f43).nt, s, []⟩ (endW C.slices_Sort_sl_int64_int64 (fnI Try.f43).results Q)) h)
def C.slices_Compact_sl_int64_int64 : Cx := { D := D, rt := rt, its := [], lps := [(0, [25, 24, 23, 22, 21, 20, 19, 18, 17, 16, 5, 44, 43, 42, 41, 40, 39, 38, 37, 36, 35, 3, 53, 52, 45, 46, 47, 48, 49, 50, 51, 33, 34, 29, 30, 31, 32, 2, 59, 58, 57, 54, 55, 56, 26, 27, 28, 4, 14, 15, 10, 11, 12, 13], [3]), (2, [44, 43, 42, 41, 40, 39, 38, 37, 36, 35, 3, 53, 52, 45, 46, 47, 48, 49, 50, 51, 33, 34, 5, 29, 30, 31, 32], [3, 5])], det := true }
set_option maxRecDepth 100000 in
def vc.slices_Compact_sl_int64_int64 (a0 : AV) (s : St) (Q : (AV → (St → Prop))) : Prop :=
 slenK a0 fun m1 =>
 bsel (decide (((m1 : Nat) : Int) < 2)) (
  (Q a0 s)
 ) (
  ∃ (I2 : (Int → (St → (Nat → Prop)))),
  (
   ∃ (m3 : Nat),
   (I2 1 s m3)
  ) ∧
  ∀ (n4 : Int) (s5 : St) (m6 : Nat),
  (I2 n4 s5 m6) →
  slenK a0 fun m7 =>
  bsel (decide (n4 < ((m7 : Nat) : Int))) (
   ∀ (s8 : St),
   (Bump s5 10 s8) →
   ixsK 1 a0 n4 fun m9 m10 =>
   ∃ (n11 : Int),
   ((ld1 s8 (AV.ptr m9 m10)) = (some (AV.int .i64 n11))) ∧
   ixsK 1 a0 (IntKind.wrap .i64 (n4 - 1)) fun m12 m13 =>
   ∃ (n14 : Int),
   ((ld1 s8 (AV.ptr m12 m13)) = (some (AV.int .i64 n14))) ∧
   bsel (n11 == n14) (
    optK (sliceV 1 a0 (some (AV.int .i64 n4)) none none) fun x15 =>
    ∃ (I16 : (Int → (Int → (St → (Nat → Prop))))),
    (
     ∃ (m17 : Nat),
     (I16 n4 1 s8 m17)
    ) ∧
    ∀ (n18 : Int) (n19 : Int) (s20 : St) (m21 : Nat),
    (I16 n18 n19 s20 m21) →
    slenK x15 fun m22 =>
    bsel (decide (n19 < ((m22 : Nat) : Int))) (
     ∀ (s23 : St),
     (Bump s20 10 s23) →
     ixsK 1 x15 n19 fun m24 m25 =>
     ∃ (n26 : Int),
     ((ld1 s23 (AV.ptr m24 m25)) = (some (AV.int .i64 n26))) ∧
     ixsK 1 x15 (IntKind.wrap .i64 (n19 - 1)) fun m27 m28 =>
     ∃ (n29 : Int),
     ((ld1 s23 (AV.ptr m27 m28)) = (some (AV.int .i64 n29))) ∧
     bsel (n26 != n29) (
      ixsK 1 x15 n19 fun m30 m31 =>
      ∃ (n32 : Int),
      ((ld1 s23 (AV.ptr m30 m31)) = (some (AV.int .i64 n32))) ∧
      ixsK 1 a0 n18 fun m33 m34 =>
      ∃ (s35 : St),
      ((wrN s23 (AV.ptr m33 m34) [(AV.int .i64 n32)]) = (some s35)) ∧
      ∃ (m36 : Nat),
      (m36 < m21) ∧
      (I16 (IntKind.wrap .i64 (n18 + 1)) (IntKind.wrap .i64 (n19 + 1)) s35 m36)
     ) (
      ∃ (m37 : Nat),
      (m37 < m21) ∧
      (I16 n18 (IntKind.wrap .i64 (n19 + 1)) s23 m37)
     )
    ) (
     optK (sliceV 1 a0 (some (AV.int .i64 n18)) none none) fun x38 =>
     ∃ (s39 : St),
     ((clearA D s20 T.sl_int64 x38) = (some ((AV.tuple []), s39))) ∧
     optK (sliceV 1 a0 none (some (AV.int .i64 n18)) none) fun x40 =>
     (Q x40 s39)
    )
   ) (
    ∃ (m41 : Nat),
    (m41 < m6) ∧
    (I2 (IntKind.wrap .i64 (n4 + 1)) s8 m41)
   )
  ) (
   (Q a0 s5)
  )
 )
set_option maxRecDepth 100000 in
theorem vc.slices_Compact_sl_int64_int64_ok {a0 : AV} {s : St} {Q : AV → St → Prop} (h : vc.slices_Compact_sl_int64_int64 a0 s Q) : CallsD P F.slices_Compact_sl_int64_int64 [a0] s Q :=
 fnD_ok (C := C.slices_Compact_sl_int64_int64) hD hX rfl mixes (fi := fnI Try.f44) (by kernel_rfl) (by kernel_rfl) (cast (by kernel_rfl : vc.slices_Compact_sl_int64_int64 a0 s Q = wpC P C.slices_Compact_sl_int64_int64 1000000 (fnI Try.f44).body ⟨PT.setAll .nil 0 [a0], max [a0].length (fnI Try.f44).nt, s, []⟩ (endW C.slices_Compact_sl_int64_int64 (fnI Try.f44).results Q)) h)
end
end Go.Eng.S

namespace Go.Eng.S
open Go Go.Eng Go.Proofs
noncomputable section
def C.p_rollup_Rollup_Windows : Cx := { D := D, rt := rt, its := [(25, 81)], lps := [(0, [8, 37, 36, 35, 34, 33, 32, 31, 30, 28, 29, 9, 26, 27], [8]), (2, [43, 54, 10, 53, 52, 51, 50, 49, 48, 47, 45, 46, 12, 44], [10, 43])] }
set_option maxRecDepth 100000 in
def vc.p_rollup_Rollup_Windows (a0 : AV) (a1 : Int) (s : St) (Q : (AV → (St → Prop))) : Prop :=
 CallsA P F.p_rollup_Rollup_wide [a0, (AV.int .i64 a1)] s fun x1 s2 =>
 ∃ (n3 : Int) (c4 : Bool),
 (x1 = (AV.tuple [(AV.int .i64 n3), (AV.bool c4)])) ∧
 bsel (!c4) (
  (Q (AV.tuple [AV.nilslice, (AV.int .i64 1)]) s2)
 ) (
  ptrK a0 0 fun m5 m6 =>
  ∃ (x7 : AV),
  ((ld1 s2 (AV.ptr m5 (m6 + 1))) = (some x7)) ∧
  ∃ (m8 : Nat) (s9 : St),
  ((rangeA D s2 T.map_int64_rollup_edges x7) = (some ((AV.ptr m8 0), s9))) ∧
  ∃ (I10 : (AV → (St → (Nat → Prop)))),
  (
   ∃ (m11 : Nat),
   (I10 AV.nilslice s9 m11)
  ) ∧
  ∀ (x12 : AV) (s13 : St) (m14 : Nat),
  (I10 x12 s13 m14) →
  ∃ (l15 : (List (AV × St))),
  ((nextA s13 (AV.ptr m8 0) false) = (some l15)) ∧
  ∀ (x16 : AV) (s17 : St),
  ((x16, s17) ∈ l15) →
  (((x16 = (AV.tuple [(AV.bool false)])) ∧ (CallsA P F.slices_Sort_sl_int64_int64 [x12] s17 (fun x18 => (fun s19 => ((x18 = (AV.tuple [])) ∧ (CallsA P F.slices_Compact_sl_int64_int64 [x12] s19 (fun x20 => (fun s21 => (∃ x22 : AV, ((x20 = x22) ∧ (slenK x22 (fun m23 => (∃ I24 : (AV → (Int → (St → (Nat → Prop)))), ((∃ m25 : Nat, (I24 AV.nilslice 0 s21 m25)) ∧ (∀ x26 : AV, (∀ n27 : Int, (∀ s28 : St, (∀ m29 : Nat, ((I24 x26 n27 s28 m29) → (bsel (decide (n27 < ((m23 : Nat) : Int))) (ixsK 1 x22 n27 (fun m30 => (fun m31 => (∃ n32 : Int, (((ld1 s28 (AV.ptr m30 m31)) = (some (AV.int .i64 n32))) ∧ (CallsA P F.p_rollup_Rollup_window [a0, (AV.int .i64 n32), (AV.int .i64 n3)] s28 (fun x33 => (fun s34 => (∃ n35 : Int, (∃ n36 : Int, (∃ x37 : AV, ((x33 = (AV.agg [(AV.int .i64 n35), (AV.int .i64 n36), x37])) ∧ (∀ m38 : Nat, (∀ s39 : St, ((NewO s34 (cellsO [(AV.int .i64 n35), (AV.int .i64 n36), x37]) m38 s39) → (∃ x40 : AV, (∃ s41 : St, (((appendX D s39 T.sl_api_Window T.sl_api_Window x26 (AV.slice m38 0 1 (ACap.exact 1))) = (some (x40, s41))) ∧ (∃ m42 : Nat, ((m42 < m29) ∧ (I24 x40 (IntKind.wrap .i64 (n27 + 1)) s41 m42))))))))))))))))))))) (Q (AV.tuple [x26, (AV.int .i64 0)]) s28))))))))))))))))))))) ∨ (∃ n43 : Int, (∃ x44 : AV, ((x16 = (AV.tuple [(AV.bool true), (AV.int .i64 n43), x44])) ∧ (∃ n45 : Int, (∃ x46 : AV, (((entryA s17 (AV.ptr m8 0)) = (some (AV.tuple [(AV.int .i64 n45), x46]))) ∧ (((n3 : Int) ≠ 0) ∧ (∀ m47 : Nat, (∀ s48 : St, ((NewO s17 (cellsO [(AV.int .i64 (IntKind.wrap .i64 (n45 - (Int.tmod n45 n3))))]) m47 s48) → (∃ x49 : AV, (∃ s50 : St, (((appendX D s48 T.sl_int64 T.sl_int64 x12 (AV.slice m47 0 1 (ACap.exact 1))) = (some (x49, s50))) ∧ (∃ m51 : Nat, ((m51 < m14) ∧ (I10 x49 s50 m51)))))))))))))))))
 )
set_option maxRecDepth 100000 in
theorem vc.p_rollup_Rollup_Windows_ok {a0 : AV} {a1 : Int} {s : St} {Q : AV → St → Prop} (h : vc.p_rollup_Rollup_Windows a0 a1 s Q) : CallsA P F.p_rollup_Rollup_Windows [a0, .int .i64 a1] s Q :=
 fnB_ok (C := C.p_rollup_Rollup_Windows) hD hX mixes (fi := fnI Try.f25) (by kernel_rfl) (by kernel_rfl) (cast (by kernel_rfl : vc.p_rollup_Rollup_Windows a0 a1 s Q = wpC P C.p_rollup_Rollup_Windows 1000000 (fnI Try.f25).body ⟨PT.setAll .nil 0 [a0, .int .i64 a1], max [a0, .int .i64 a1].length (fnI Try.f25).nt, s, []⟩ (endW C.p_rollup_Rollup_Windows (fnI Try.f25).results Q)) h)
end
end Go.Eng.S

namespace Go.Eng.S
open Go Go.Eng Go.Proofs
noncomputable section
def C.spoorlaw15_RollupWide : Cx := { D := D, rt := rt, its := [], lps := [(0, [14, 69, 68, 67, 66, 65, 64, 63, 15, 112, 111, 110, 109, 108, 92, 91, 90, 89, 94, 93, 107, 106, 95, 96, 97, 98, 99, 100, 101, 102, 103, 104, 105, 16, 8, 70, 71, 72, 73, 74, 75, 76, 77, 78, 79, 80, 81, 82, 83, 84, 85, 86, 87, 88, 61, 62, 13, 57, 58, 59, 60], [13]), (2, [105, 104, 103, 102, 101, 100, 99, 98, 97, 96, 95, 106, 107, 15, 93, 94, 16, 89, 90, 91, 92], [15, 16]), (4, [22, 21, 123, 122, 118, 121, 120, 119, 24, 173, 172, 171, 170, 169, 168, 167, 166, 165, 164, 163, 162, 161, 160, 159, 158, 157, 156, 155, 154, 153, 152, 151, 150, 149, 148, 147, 146, 145, 144, 143, 142, 141, 140, 139, 138, 137, 136, 135, 134, 133, 132, 131, 130, 8, 174, 175, 176, 177, 178, 179, 180, 181, 128, 129, 124, 125, 126, 127, 20, 192, 191, 193, 194, 195, 18, 182, 183, 184, 185, 186, 187, 188, 189, 190, 23, 116, 117, 19, 115], [18, 19, 20]), (6, [173, 172, 171, 170, 169, 168, 167, 166, 165, 164, 163, 162, 161, 160, 159, 158, 157, 156, 155, 154, 153, 152, 151, 150, 149, 148, 147, 146, 145, 144, 143, 142, 141, 140, 139, 138, 137, 136, 135, 134, 133, 132, 131, 130, 8, 174, 175, 176, 177, 178, 179, 180, 181, 23, 128, 129, 24, 124, 125, 126, 127], [23, 24])], jns := [(35, [70, 71, 72, 73, 74, 75, 76, 77, 78, 79, 80, 81, 82, 83, 84, 85, 86, 87, 88], [88], [.bool false]), (171, [13, 14, 69, 68, 67, 66, 65, 64, 63, 15, 112, 111, 110, 109, 108, 92, 91, 90, 89, 94, 93, 107, 106, 95, 96, 97, 98, 99, 100, 101, 102, 103, 104, 105, 16, 8, 70, 71, 72, 73, 74, 75, 76, 77, 78, 79, 80, 81, 82, 83, 84, 85, 86, 87, 88, 61, 62, 57, 58, 59, 60, 55, 56], [], []), (98, [130, 131, 132, 133, 134, 135, 136, 137, 138, 139, 140, 141, 142, 143, 144, 145, 146, 147, 148, 149, 150, 151, 152, 153, 154, 155, 156, 157, 158, 159, 160, 161, 162, 163, 164, 165, 166, 167, 168, 169, 170, 171, 172, 173], [173], [.bool false])] }
set_option maxRecDepth 100000 in
def vc.spoorlaw15_RollupWide (a0 : Int) (a1 : AV) (a2 : Int) (a3 : Int) (s : St) (Q : (AV → (St → Prop))) : Prop :=
 CallsA P F.spoorlaw15_alive [] s fun x1 s2 =>
 ∃ (c3 : Bool),
 (x1 = (AV.bool c3)) ∧
 CallsA P F.spoorlaw15_filled [(AV.int .i64 a0), a1] s2 fun x4 s5 =>
 ∃ (x6 : AV),
 (x4 = x6) ∧
 bsel (!c3) (
  bsel c3 (
   bsel (decide (a0 < 2)) (
    (Q (AV.bool true) s5)
   ) (
    (Q (AV.bool (decide (a0 > 16))) s5)
   )
  ) (
   (Q (AV.bool false) s5)
  )
 ) (
  nilK (TD.ptr 83) x6 true fun c7 =>
  bsel c7 (
   bsel c3 (
    bsel (decide (a0 < 2)) (
     (Q (AV.bool true) s5)
    ) (
     (Q (AV.bool (decide (a0 > 16))) s5)
    )
   ) (
    (Q (AV.bool false) s5)
   )
  ) (
   CallsA P F.p_rollup_Rollup_Cover [x6, (AV.int .i64 a2), (AV.int .i64 a3)] s5 fun x8 s9 =>
   ∃ (x10 : AV) (n11 : Int),
   (x8 = (AV.tuple [x10, (AV.int .i64 n11)])) ∧
   ∃ (I12 : (St → (Nat → Prop))),
   (
    bsel (n11 == 0) (
     ∃ (I13 : (Int → (St → (Nat → Prop)))),
     (
      ∃ (m14 : Nat),
      (I13 0 s9 m14)
     ) ∧
     ∀ (n15 : Int) (s16 : St) (m17 : Nat),
     (I13 n15 s16 m17) →
     slenK x10 fun m18 =>
     bsel (decide (n15 < ((m18 : Nat) : Int))) (
      ixsK 3 x10 n15 fun m19 m20 =>
      ∃ (n21 : Int),
      ((ld1 s16 (AV.ptr m19 (m20 + 1))) = (some (AV.int .i64 n21))) ∧
      ∃ (I22 : (Bool → (St → (Nat → Prop)))),
      (
       ixsK 3 x10 n15 fun m23 m24 =>
       ∃ (n25 : Int),
       ((ld1 s16 (AV.ptr m23 m24)) = (some (AV.int .i64 n25))) ∧
       (((IntKind.wrap .i64 (n21 * a0)) : Int) ≠ 0) ∧
       bsel ((Int.tmod n25 (IntKind.wrap .i64 (n21 * a0))) == 0) (
        ixsK 3 x10 n15 fun m26 m27 =>
        ∃ (n28 : Int),
        ((ld1 s16 (AV.ptr m26 m27)) = (some (AV.int .i64 n28))) ∧
        ∃ (m29 : Nat),
        (I22 (decide ((IntKind.wrap .i64 (n28 + (IntKind.wrap .i64 (n21 * a0)))) ≤ a3)) s16 m29)
       ) (
        ∃ (m30 : Nat),
        (I22 false s16 m30)
       )
      ) ∧
      ∀ (c31 : Bool) (s32 : St) (m33 : Nat),
      (I22 c31 s32 m33) →
      bsel c31 (
       (Q (AV.bool false) s32)
      ) (
       ∃ (I34 : (Int → (Int → (St → (Nat → Prop))))),
       (
        ∃ (m35 : Nat),
        (I34 0 0 s32 m35)
       ) ∧
       ∀ (n36 : Int) (n37 : Int) (s38 : St) (m39 : Nat),
       (I34 n36 n37 s38 m39) →
       slenK x10 fun m40 =>
       bsel (decide (n37 < ((m40 : Nat) : Int))) (
        ∀ (s41 : St),
        (Bump s38 11 s41) →
        ixsK 3 x10 n37 fun m42 m43 =>
        ∃ (n44 : Int),
        ((ld1 s41 (AV.ptr m42 (m43 + 1))) = (some (AV.int .i64 n44))) ∧
        ixsK 3 x10 n15 fun m45 m46 =>
        ∃ (n47 : Int),
        ((ld1 s41 (AV.ptr m45 (m46 + 1))) = (some (AV.int .i64 n47))) ∧
        bsel (n44 == n47) (
         ∃ (m48 : Nat),
         (m48 < m39) ∧
         (I34 (IntKind.wrap .i64 (n36 + 1)) (IntKind.wrap .i64 (n37 + 1)) s41 m48)
        ) (
         ∃ (m49 : Nat),
         (m49 < m39) ∧
         (I34 n36 (IntKind.wrap .i64 (n37 + 1)) s41 m49)
        )
       ) (
        bsel (decide (n36 > (IntKind.wrap .i64 (2 * (IntKind.wrap .i64 (a0 - 1)))))) (
         (Q (AV.bool false) s38)
        ) (
         ∃ (m50 : Nat),
         (m50 < m17) ∧
         (I13 (IntKind.wrap .i64 (n15 + 1)) s38 m50)
        )
       )
      )
     ) (
      ∃ (m51 : Nat),
      (I12 s16 m51)
     )
    ) (
     ∃ (m52 : Nat),
     (I12 s9 m52)
    )
   ) ∧
   ∀ (s53 : St) (m54 : Nat),
   (I12 s53 m54) →
   CallsA P F.spoorlaw15_edges [x6, (AV.int .i64 0), (AV.int .i64 2097152)] s53 fun x55 s56 =>
   ∃ (x57 : AV),
   (x55 = x57) ∧
   ∃ (I58 : (Int → (Int → (Bool → (St → (Nat → Prop)))))),
   (
    ∃ (m59 : Nat),
    (I58 1 0 true s56 m59)
   ) ∧
   ∀ (n60 : Int) (n61 : Int) (c62 : Bool) (s63 : St) (m64 : Nat),
   (I58 n60 n61 c62 s63 m64) →
   bsel c62 (
    CallsA P F.p_rollup_Rollup_Windows [x6, (AV.int .i64 n61)] s63 fun x65 s66 =>
    ∃ (x67 : AV) (n68 : Int),
    (x65 = (AV.tuple [x67, (AV.int .i64 n68)])) ∧
    ∃ (I69 : (AV → (Int → (St → (Nat → Prop))))),
    (
     ∃ (m70 : Nat),
     (I69 AV.nilslice 0 s66 m70)
    ) ∧
    ∀ (x71 : AV) (n72 : Int) (s73 : St) (m74 : Nat),
    (I69 x71 n72 s73 m74) →
    slenK x67 fun m75 =>
    bsel (decide (n72 < ((m75 : Nat) : Int))) (
     ∃ (I76 : (Bool → (St → (Nat → Prop)))),
     (
      ∀ (s77 : St),
      (Bump s73 44 s77) →
      ixsK 3 x67 n72 fun m78 m79 =>
      ∃ (n80 : Int),
      ((ld1 s77 (AV.ptr m78 (m79 + 1))) = (some (AV.int .i64 n80))) ∧
      bsel (n80 != n60) (
       ∃ (m81 : Nat),
       (I76 true s77 m81)
      ) (
       ixsK 3 x67 n72 fun m82 m83 =>
       ∃ (n84 : Int),
       ((ld1 s77 (AV.ptr m82 m83)) = (some (AV.int .i64 n84))) ∧
       ((n60 : Int) ≠ 0) ∧
       bsel ((Int.tmod n84 n60) != 0) (
        ∃ (m85 : Nat),
        (I76 true s77 m85)
       ) (
        bsel (decide (n72 > 0)) (
         ixsK 3 x67 (IntKind.wrap .i64 (n72 - 1)) fun m86 m87 =>
         ∃ (n88 : Int),
         ((ld1 s77 (AV.ptr m86 m87)) = (some (AV.int .i64 n88))) ∧
         ixsK 3 x67 n72 fun m89 m90 =>
         ∃ (n91 : Int),
         ((ld1 s77 (AV.ptr m89 m90)) = (some (AV.int .i64 n91))) ∧
         bsel (decide (n88 ≥ n91)) (
          ∃ (m92 : Nat),
          (I76 true s77 m92)
         ) (
          ixsK 3 x67 n72 fun m93 m94 =>
          ∃ (x95 : AV),
          ((ld1 s77 (AV.ptr m93 (m94 + 2))) = (some x95)) ∧
          slenK x95 fun m96 =>
          ∃ (m97 : Nat),
          (I76 (((m96 : Nat) : Int) == 0) s77 m97)
         )
        ) (
         ixsK 3 x67 n72 fun m98 m99 =>
         ∃ (x100 : AV),
         ((ld1 s77 (AV.ptr m98 (m99 + 2))) = (some x100)) ∧
         slenK x100 fun m101 =>
         ∃ (m102 : Nat),
         (I76 (((m101 : Nat) : Int) == 0) s77 m102)
        )
       )
      )
     ) ∧
     ∀ (c103 : Bool) (s104 : St) (m105 : Nat),
     (I76 c103 s104 m105) →
     bsel c103 (
      (Q (AV.bool false) s104)
     ) (
      ixsK 3 x67 n72 fun m106 m107 =>
      ∃ (x108 : AV),
      ((ld1 s104 (AV.ptr m106 (m107 + 2))) = (some x108)) ∧
      (oneK x108 (∀ m109 : Nat, (∀ s110 : St, ((NewO s104 (cellsO [x108]) m109 s110) → (∃ x111 : AV, (∃ s112 : St, (((appendX D s110 T.sl_sl_api_EdgeTally T.sl_sl_api_EdgeTally x71 (AV.slice m109 0 1 (ACap.exact 1))) = (some (x111, s112))) ∧ (∃ m113 : Nat, ((m113 < m74) ∧ (I69 x111 (IntKind.wrap .i64 (n72 + 1)) s112 m113))))))))))
     )
    ) (
     bsel (n68 != 0) (
      (Q (AV.bool false) s73)
     ) (
      CallsA P F.spoorref15_Sum [x71] s73 fun x114 s115 =>
      ∃ (x116 : AV),
      (x114 = x116) ∧
      CallsA P F.spoorref15_SameEdges [x116, x57] s115 fun x117 s118 =>
      ∃ (c119 : Bool),
      (x117 = (AV.bool c119)) ∧
      bsel (!c119) (
       (Q (AV.bool false) s118)
      ) (
       ∃ (m120 : Nat),
       (m120 < m64) ∧
       (I58 (IntKind.wrap .i64 (n60 * a0)) (IntKind.wrap .i64 (n61 + 1)) (decide (n60 < 2097152)) s118 m120)
      )
     )
    )
   ) (
    CallsA P F.p_rollup_Rollup_Windows [x6, (AV.int .i64 n61)] s63 fun x121 s122 =>
    ∃ (x123 : AV) (n124 : Int),
    (x121 = (AV.tuple [x123, (AV.int .i64 n124)])) ∧
    CallsA P F.p_rollup_Rollup_Windows [x6, (AV.int .i64 (-1))] s122 fun x125 s126 =>
    ∃ (x127 : AV) (n128 : Int),
    (x125 = (AV.tuple [x127, (AV.int .i64 n128)])) ∧
    bsel (n124 == 1) (
     (Q (AV.bool (n128 == 1)) s126)
    ) (
     (Q (AV.bool false) s126)
    )
   )
  )
 )
set_option maxRecDepth 100000 in
theorem vc.spoorlaw15_RollupWide_ok {a0 : Int} {a1 : AV} {a2 : Int} {a3 : Int} {s : St} {Q : AV → St → Prop} (h : vc.spoorlaw15_RollupWide a0 a1 a2 a3 s Q) : CallsA P F.spoorlaw15_RollupWide [.int .i64 a0, a1, .int .i64 a2, .int .i64 a3] s Q :=
 fnB_ok (C := C.spoorlaw15_RollupWide) hD hX mixes (fi := fnI Try.f7) (by kernel_rfl) (by kernel_rfl) (cast (by kernel_rfl : vc.spoorlaw15_RollupWide a0 a1 a2 a3 s Q = wpC P C.spoorlaw15_RollupWide 1000000 (fnI Try.f7).body ⟨PT.setAll .nil 0 [.int .i64 a0, a1, .int .i64 a2, .int .i64 a3], max [.int .i64 a0, a1, .int .i64 a2, .int .i64 a3].length (fnI Try.f7).nt, s, []⟩ (endW C.spoorlaw15_RollupWide (fnI Try.f7).results Q)) h)
end
end Go.Eng.S

