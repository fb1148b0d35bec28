/-
  What is to be shown of functions of the program, and that it suffices.
  What is to be shown of functions of the program, and that it suffices.
  What is to be shown of functions of the program, and that it suffices.
  What is to be shown of functions of the program, and that it suffices.
-/
import Derived.Test.YteidlkjofcbcmaaSDefs
namespace Go.Eng.S
open Go Go.Eng Go.Proofs
noncomputable section
/-! ### slices.order2Ordered[int64] -/
def C.slices_order2Ordered_int64 : Cx := { D := D, rt := rt, its := [], lps := [], det := true }
set_option maxRecDepth 100000 in
def vc.slices_order2Ordered_int64 (a0 : AV) (a1 : Int) (a2 : Int) (a3 : AV) (s : St) (Q : (AV → (St → Prop))) : Prop :=
  ∀ (s1 : St),
  (Bump s 9 s1) →
  ixsK 1 a0 a2 fun m2 m3 =>
  ∃ (n4 : Int),
  ((ld1 s1 (AV.ptr m2 m3)) = (some (AV.int .i64 n4))) ∧
  ixsK 1 a0 a1 fun m5 m6 =>
  ∃ (n7 : Int),
  ((ld1 s1 (AV.ptr m5 m6)) = (some (AV.int .i64 n7))) ∧
  CallsD P F.cmp_Less_int64 [(AV.int .i64 n4), (AV.int .i64 n7)] s1 fun x8 s9 =>
  ∃ (c10 : Bool),
  (x8 = (AV.bool c10)) ∧
  bsel c10 (
    ptrK a3 0 fun m11 m12 =>
    ∃ (n13 : Int),
    ((ld1 s9 (AV.ptr m11 m12)) = (some (AV.int .i64 n13))) ∧
    ptrK a3 0 fun m14 m15 =>
    ∃ (s16 : St),
    ((wrN s9 (AV.ptr m14 m15) [(AV.int .i64 (IntKind.wrap .i64 (n13 + 1)))]) = (some s16)) ∧
    (Q (AV.tuple [(AV.int .i64 a2), (AV.int .i64 a1)]) s16)
  ) (
    (Q (AV.tuple [(AV.int .i64 a1), (AV.int .i64 a2)]) s9)
  )
set_option maxRecDepth 100000 in
theorem vc.slices_order2Ordered_int64_ok {a0 : AV} {a1 : Int} {a2 : Int} {a3 : AV} {s : St} {Q : AV → St → Prop} (h : vc.slices_order2Ordered_int64 a0 a1 a2 a3 s Q) : CallsD P F.slices_order2Ordered_int64 [a0, .int .i64 a1, .int .i64 a2, a3] s Q :=
  fnD_ok (C := C.slices_order2Ordered_int64) hD hX rfl mixes (fi := fnI Try.f104) (by kernel_rfl) (by kernel_rfl) (cast (by kernel_rfl : vc.slices_order2Ordered_int64 a0 a1 a2 a3 s Q = wpC P C.slices_order2Ordered_int64 1000000 (fnI Try.f104).body ⟨PT.setAll .nil 0 [a0, .int .i64 a1, .int .i64 a2, a3], max [a0, .int .i64 a1, .int .i64 a2, a3].length (fnI Try.f104).nt, s, []⟩ (endW C.slices_order2Ordered_int64 (fnI Try.f104).results Q)) h)
/-! ### slices.medianOrdered[int64] -/
def C.slices_medianOrdered_int64 : Cx := { D := D, rt := rt, its := [], lps := [], det := true }
set_option maxRecDepth 100000 in
def vc.slices_medianOrdered_int64 (a0 : AV) (a1 : Int) (a2 : Int) (a3 : Int) (a4 : AV) (s : St) (Q : (AV → (St → Prop))) : Prop :=
  CallsD P F.slices_order2Ordered_int64 [a0, (AV.int .i64 a1), (AV.int .i64 a2), a4] s fun x1 s2 =>
  ∃ (n3 : Int) (n4 : Int),
  (x1 = (AV.tuple [(AV.int .i64 n3), (AV.int .i64 n4)])) ∧
  CallsD P F.slices_order2Ordered_int64 [a0, (AV.int .i64 n4), (AV.int .i64 a3), a4] s2 fun x5 s6 =>
  ∃ (n7 : Int) (n8 : Int),
  (x5 = (AV.tuple [(AV.int .i64 n7), (AV.int .i64 n8)])) ∧
  CallsD P F.slices_order2Ordered_int64 [a0, (AV.int .i64 n3), (AV.int .i64 n7), a4] s6 fun x9 s10 =>
  ∃ (n11 : Int) (n12 : Int),
  (x9 = (AV.tuple [(AV.int .i64 n11), (AV.int .i64 n12)])) ∧
  (Q (AV.int .i64 n12) s10)
set_option maxRecDepth 100000 in
theorem vc.slices_medianOrdered_int64_ok {a0 : AV} {a1 : Int} {a2 : Int} {a3 : Int} {a4 : AV} {s : St} {Q : AV → St → Prop} (h : vc.slices_medianOrdered_int64 a0 a1 a2 a3 a4 s Q) : CallsD P F.slices_medianOrdered_int64 [a0, .int .i64 a1, .int .i64 a2, .int .i64 a3, a4] s Q :=
  fnD_ok (C := C.slices_medianOrdered_int64) hD hX rfl mixes (fi := fnI Try.f98) (by kernel_rfl) (by kernel_rfl) (cast (by kernel_rfl : vc.slices_medianOrdered_int64 a0 a1 a2 a3 a4 s Q = wpC P C.slices_medianOrdered_int64 1000000 (fnI Try.f98).body ⟨PT.setAll .nil 0 [a0, .int .i64 a1, .int .i64 a2, .int .i64 a3, a4], max [a0, .int .i64 a1, .int .i64 a2, .int .i64 a3, a4].length (fnI Try.f98).nt, s, []⟩ (endW C.slices_medianOrdered_int64 (fnI Try.f98).results Q)) h)
/-! ### slices.medianAdjacentOrdered[int64] -/
def C.slices_medianAdjacentOrdered_int64 : Cx := { D := D, rt := rt, its := [], lps := [], det := true }
set_option maxRecDepth 100000 in
def vc.slices_medianAdjacentOrdered_int64 (a0 : AV) (a1 : Int) (a2 : AV) (s : St) (Q : (AV → (St → Prop))) : Prop :=
  CallsD P F.slices_medianOrdered_int64 [a0, (AV.int .i64 (IntKind.wrap .i64 (a1 - 1))), (AV.int .i64 a1), (AV.int .i64 (IntKind.wrap .i64 (a1 + 1))), a2] s fun x1 s2 =>
  ∃ (n3 : Int),
  (x1 = (AV.int .i64 n3)) ∧
  (Q (AV.int .i64 n3) s2)
set_option maxRecDepth 100000 in
theorem vc.slices_medianAdjacentOrdered_int64_ok {a0 : AV} {a1 : Int} {a2 : AV} {s : St} {Q : AV → St → Prop} (h : vc.slices_medianAdjacentOrdered_int64 a0 a1 a2 s Q) : CallsD P F.slices_medianAdjacentOrdered_int64 [a0, .int .i64 a1, a2] s Q :=
  fnD_ok (C := C.slices_medianAdjacentOrdered_int64) hD hX rfl mixes (fi := fnI Try.f97) (by kernel_rfl) (by kernel_rfl) (cast (by kernel_rfl : vc.slices_medianAdjacentOrdered_int64 a0 a1 a2 s Q = wpC P C.slices_medianAdjacentOrdered_int64 1000000 (fnI Try.f97).body ⟨PT.setAll .nil 0 [a0, .int .i64 a1, a2], max [a0, .int .i64 a1, a2].length (fnI Try.f97).nt, s, []⟩ (endW C.slices_medianAdjacentOrdered_int64 (fnI Try.f97).results Q)) h)
/-! ### slices.choosePivotOrdered[int64] -/
def C.slices_choosePivotOrdered_int64 : Cx := { D := D, rt := rt, its := [], lps := [], det := true, jns := [(105, [10, 37, 36, 35, 12, 43, 42, 41, 38, 39, 40, 11, 33, 34], [10, 11, 12], [.int .i64 0, .int .i64 0, .int .i64 0]), (99, [34, 33, 11, 40, 39, 38, 41, 42, 43, 12, 35, 36, 37, 10, 44, 45, 46, 47, 48, 31, 32], [11], [.int .i64 0])] }
set_option maxRecDepth 100000 in
def vc.slices_choosePivotOrdered_int64 (a0 : AV) (a1 : Int) (a2 : Int) (s : St) (Q : (AV → (St → Prop))) : Prop :=
  ∀ (m1 : Nat) (s2 : St),
  (NewO s (cellsO [(AV.int .i64 0)]) m1 s2) →
  ((4 : Int) ≠ 0) ∧
  ((4 : Int) ≠ 0) ∧
  ((4 : Int) ≠ 0) ∧
  ∃ (I3 : (Int → (St → (Nat → Prop)))),
  (
    bsel (decide ((IntKind.wrap .i64 (a2 - a1)) ≥ 8)) (
      ∃ (I4 : (Int → (Int → (Int → (St → (Nat → Prop)))))),
      (
        bsel (decide ((IntKind.wrap .i64 (a2 - a1)) ≥ 50)) (
          CallsD P F.slices_medianAdjacentOrdered_int64 [a0, (AV.int .i64 (IntKind.wrap .i64 (a1 + (IntKind.wrap .i64 ((IntKind.wrap .i64 (Int.tdiv (IntKind.wrap .i64 (a2 - a1)) 4)) * 1))))), (AV.ptr m1 0)] s2 fun x5 s6 =>
          ∃ (n7 : Int),
          (x5 = (AV.int .i64 n7)) ∧
          CallsD P F.slices_medianAdjacentOrdered_int64 [a0, (AV.int .i64 (IntKind.wrap .i64 (a1 + (IntKind.wrap .i64 ((IntKind.wrap .i64 (Int.tdiv (IntKind.wrap .i64 (a2 - a1)) 4)) * 2))))), (AV.ptr m1 0)] s6 fun x8 s9 =>
          ∃ (n10 : Int),
          (x8 = (AV.int .i64 n10)) ∧
          CallsD P F.slices_medianAdjacentOrdered_int64 [a0, (AV.int .i64 (IntKind.wrap .i64 (a1 + (IntKind.wrap .i64 ((IntKind.wrap .i64 (Int.tdiv (IntKind.wrap .i64 (a2 - a1)) 4)) * 3))))), (AV.ptr m1 0)] s9 fun x11 s12 =>
          ∃ (n13 : Int),
          (x11 = (AV.int .i64 n13)) ∧
          ∃ (m14 : Nat),
          (I4 n7 n10 n13 s12 m14)
        ) (
          ∃ (m15 : Nat),
          (I4 (IntKind.wrap .i64 (a1 + (IntKind.wrap .i64 ((IntKind.wrap .i64 (Int.tdiv (IntKind.wrap .i64 (a2 - a1)) 4)) * 1)))) (IntKind.wrap .i64 (a1 + (IntKind.wrap .i64 ((IntKind.wrap .i64 (Int.tdiv (IntKind.wrap .i64 (a2 - a1)) 4)) * 2)))) (IntKind.wrap .i64 (a1 + (IntKind.wrap .i64 ((IntKind.wrap .i64 (Int.tdiv (IntKind.wrap .i64 (a2 - a1)) 4)) * 3)))) s2 m15)
        )
      ) ∧
      ∀ (n16 : Int) (n17 : Int) (n18 : Int) (s19 : St) (m20 : Nat),
      (I4 n16 n17 n18 s19 m20) →
      CallsD P F.slices_medianOrdered_int64 [a0, (AV.int .i64 n16), (AV.int .i64 n17), (AV.int .i64 n18), (AV.ptr m1 0)] s19 fun x21 s22 =>
      ∃ (n23 : Int),
      (x21 = (AV.int .i64 n23)) ∧
      ∃ (m24 : Nat),
      (I3 n23 s22 m24)
    ) (
      ∃ (m25 : Nat),
      (I3 (IntKind.wrap .i64 (a1 + (IntKind.wrap .i64 ((IntKind.wrap .i64 (Int.tdiv (IntKind.wrap .i64 (a2 - a1)) 4)) * 2)))) s2 m25)
    )
  ) ∧
  ∀ (n26 : Int) (s27 : St) (m28 : Nat),
  (I3 n26 s27 m28) →
  ∃ (n29 : Int),
  ((ld1 s27 (AV.ptr m1 0)) = (some (AV.int .i64 n29))) ∧
  bsel (n29 == 0) (
    (Q (AV.tuple [(AV.int .i64 n26), (AV.int .i64 1)]) s27)
  ) (
    bsel (n29 == 12) (
      (Q (AV.tuple [(AV.int .i64 n26), (AV.int .i64 2)]) s27)
    ) (
      (Q (AV.tuple [(AV.int .i64 n26), (AV.int .i64 0)]) s27)
    )
  )
set_option maxRecDepth 100000 in
theorem vc.slices_choosePivotOrdered_int64_ok {a0 : AV} {a1 : Int} {a2 : Int} {s : St} {Q : AV → St → Prop} (h : vc.slices_choosePivotOrdered_int64 a0 a1 a2 s Q) : CallsD P F.slices_choosePivotOrdered_int64 [a0, .int .i64 a1, .int .i64 a2] s Q :=
  fnD_ok (C := C.slices_choosePivotOrdered_int64) hD hX rfl mixes (fi := fnI Try.f75) (by kernel_rfl) (by kernel_rfl) (cast (by kernel_rfl : vc.slices_choosePivotOrdered_int64 a0 a1 a2 s Q = wpC P C.slices_choosePivotOrdered_int64 1000000 (fnI Try.f75).body ⟨PT.setAll .nil 0 [a0, .int .i64 a1, .int .i64 a2], max [a0, .int .i64 a1, .int .i64 a2].length (fnI Try.f75).nt, s, []⟩ (endW C.slices_choosePivotOrdered_int64 (fnI Try.f75).results Q)) h)
/-! ### slices.nextPowerOfTwo -/
def C.slices_nextPowerOfTwo : Cx := { D := D, rt := rt, its := [], lps := [], det := true }
set_option maxRecDepth 100000 in
def vc.slices_nextPowerOfTwo (a0 : Int) (s : St) (Q : (AV → (St → Prop))) : Prop :=
  CallsD P F.math_bits_Len [(AV.int .u64 (IntKind.wrap .u64 a0))] s fun x1 s2 =>
  ∃ (n3 : Int),
  (x1 = (AV.int .i64 n3)) ∧
  ((0 : Int) ≤ n3) ∧
  (Q (AV.int .u64 (IntKind.wrap .u64 (1 * (2 ^ (min (Int.toNat n3) 64))))) s2)
set_option maxRecDepth 100000 in
theorem vc.slices_nextPowerOfTwo_ok {a0 : Int} {s : St} {Q : AV → St → Prop} (h : vc.slices_nextPowerOfTwo a0 s Q) : CallsD P F.slices_nextPowerOfTwo [.int .i64 a0] s Q :=
  fnD_ok (C := C.slices_nextPowerOfTwo) hD hX rfl mixes (fi := fnI Try.f95) (by kernel_rfl) (by kernel_rfl) (cast (by kernel_rfl : vc.slices_nextPowerOfTwo a0 s Q = wpC P C.slices_nextPowerOfTwo 1000000 (fnI Try.f95).body ⟨PT.setAll .nil 0 [.int .i64 a0], max [.int .i64 a0].length (fnI Try.f95).nt, s, []⟩ (endW C.slices_nextPowerOfTwo (fnI Try.f95).results Q)) h)
/-! ### (*slices.xorshift).Next -/
def C.p_slices_xorshift_Next : Cx := { D := D, rt := rt, its := [], lps := [], det := true }
set_option maxRecDepth 100000 in
def vc.p_slices_xorshift_Next (a0 : AV) (s : St) (Q : (AV → (St → Prop))) : Prop :=
  ∀ (s1 : St),
  (Bump s 10 s1) →
  ptrK a0 0 fun m2 m3 =>
  ∃ (n4 : Int),
  ((ld1 s1 (AV.ptr m2 m3)) = (some (AV.int .u64 n4))) ∧
  ptrK a0 0 fun m5 m6 =>
  ∃ (n7 : Int),
  ((ld1 s1 (AV.ptr m5 m6)) = (some (AV.int .u64 n7))) ∧
  ((0 : Int) ≤ 13) ∧
  ptrK a0 0 fun m8 m9 =>
  ∃ (s10 : St),
  ((wrN s1 (AV.ptr m8 m9) [(AV.int .u64 (IntKind.wrap .u64 (((BitVec.toNat ((BitVec.ofInt 64 n4) ^^^ (BitVec.ofInt 64 (IntKind.wrap .u64 (n7 * (2 ^ 13)))))) : Nat) : Int)))]) = (some s10)) ∧
  ∀ (s11 : St),
  (Bump s10 10 s11) →
  ptrK a0 0 fun m12 m13 =>
  ∃ (n14 : Int),
  ((ld1 s11 (AV.ptr m12 m13)) = (some (AV.int .u64 n14))) ∧
  ptrK a0 0 fun m15 m16 =>
  ∃ (n17 : Int),
  ((ld1 s11 (AV.ptr m15 m16)) = (some (AV.int .u64 n17))) ∧
  ((0 : Int) ≤ 7) ∧
  ptrK a0 0 fun m18 m19 =>
  ∃ (s20 : St),
  ((wrN s11 (AV.ptr m18 m19) [(AV.int .u64 (IntKind.wrap .u64 (((BitVec.toNat ((BitVec.ofInt 64 n14) ^^^ (BitVec.ofInt 64 (Int.fdiv n17 (2 ^ 7))))) : Nat) : Int)))]) = (some s20)) ∧
  ∀ (s21 : St),
  (Bump s20 10 s21) →
  ptrK a0 0 fun m22 m23 =>
  ∃ (n24 : Int),
  ((ld1 s21 (AV.ptr m22 m23)) = (some (AV.int .u64 n24))) ∧
  ptrK a0 0 fun m25 m26 =>
  ∃ (n27 : Int),
  ((ld1 s21 (AV.ptr m25 m26)) = (some (AV.int .u64 n27))) ∧
  ((0 : Int) ≤ 17) ∧
  ptrK a0 0 fun m28 m29 =>
  ∃ (s30 : St),
  ((wrN s21 (AV.ptr m28 m29) [(AV.int .u64 (IntKind.wrap .u64 (((BitVec.toNat ((BitVec.ofInt 64 n24) ^^^ (BitVec.ofInt 64 (IntKind.wrap .u64 (n27 * (2 ^ 17)))))) : Nat) : Int)))]) = (some s30)) ∧
  ptrK a0 0 fun m31 m32 =>
  ∃ (n33 : Int),
  ((ld1 s30 (AV.ptr m31 m32)) = (some (AV.int .u64 n33))) ∧
  (Q (AV.int .u64 n33) s30)
set_option maxRecDepth 100000 in
theorem vc.p_slices_xorshift_Next_ok {a0 : AV} {s : St} {Q : AV → St → Prop} (h : vc.p_slices_xorshift_Next a0 s Q) : CallsD P F.p_slices_xorshift_Next [a0] s Q :=
  fnD_ok (C := C.p_slices_xorshift_Next) hD hX rfl mixes (fi := fnI Try.f96) (by kernel_rfl) (by kernel_rfl) (cast (by kernel_rfl : vc.p_slices_xorshift_Next a0 s Q = wpC P C.p_slices_xorshift_Next 1000000 (fnI Try.f96).body ⟨PT.setAll .nil 0 [a0], max [a0].length (fnI Try.f96).nt, s, []⟩ (endW C.p_slices_xorshift_Next (fnI Try.f96).results Q)) h)
/-! ### slices.breakPatternsOrdered[int64] -/
def C.slices_breakPatternsOrdered_int64 : Cx := { D := D, rt := rt, its := [], lps := [(0, [10, 40, 39, 38, 37, 36, 64, 63, 62, 61, 60, 59, 58, 57, 56, 55, 54, 53, 52, 51, 50, 49, 48, 47, 46, 45, 44, 41, 42, 43, 34, 35, 9, 26, 27, 28, 29, 30, 31, 32, 33], [9])], det := true }
set_option maxRecDepth 100000 in
def vc.slices_breakPatternsOrdered_int64 (a0 : AV) (a1 : Int) (a2 : Int) (s : St) (Q : (AV → (St → Prop))) : Prop :=
  bsel (decide ((IntKind.wrap .i64 (a2 - a1)) ≥ 8)) (
    ∀ (m1 : Nat) (s2 : St),
    (NewO s (cellsO [(AV.int .u64 0)]) m1 s2) →
    ∃ (s3 : St),
    ((wrN s2 (AV.ptr m1 0) [(AV.int .u64 (IntKind.wrap .u64 (IntKind.wrap .i64 (a2 - a1))))]) = (some s3)) ∧
    CallsD P F.slices_nextPowerOfTwo [(AV.int .i64 (IntKind.wrap .i64 (a2 - a1)))] s3 fun x4 s5 =>
    ∃ (n6 : Int),
    (x4 = (AV.int .u64 n6)) ∧
    ((4 : Int) ≠ 0) ∧
    ∃ (I7 : (Int → (St → (Nat → Prop)))),
    (
      ∃ (m8 : Nat),
      (I7 (IntKind.wrap .i64 ((IntKind.wrap .i64 (a1 + (IntKind.wrap .i64 ((IntKind.wrap .i64 (Int.tdiv (IntKind.wrap .i64 (a2 - a1)) 4)) * 2)))) - 1)) s5 m8)
    ) ∧
    ∀ (n9 : Int) (s10 : St) (m11 : Nat),
    (I7 n9 s10 m11) →
    ((4 : Int) ≠ 0) ∧
    bsel (decide (n9 ≤ (IntKind.wrap .i64 ((IntKind.wrap .i64 (a1 + (IntKind.wrap .i64 ((IntKind.wrap .i64 (Int.tdiv (IntKind.wrap .i64 (a2 - a1)) 4)) * 2)))) + 1)))) (
      CallsD P F.p_slices_xorshift_Next [(AV.ptr m1 0)] s10 fun x12 s13 =>
      ∃ (n14 : Int),
      (x12 = (AV.int .u64 n14)) ∧
      bsel (decide ((IntKind.wrap .i64 (IntKind.wrap .u64 (((BitVec.toNat ((BitVec.ofInt 64 n14) &&& (BitVec.ofInt 64 (IntKind.wrap .u64 (n6 - 1))))) : Nat) : Int))) ≥ (IntKind.wrap .i64 (a2 - a1)))) (
        ∀ (s15 : St),
        (Bump s13 20 s15) →
        ixsK 1 a0 (IntKind.wrap .i64 (a1 + (IntKind.wrap .i64 ((IntKind.wrap .i64 (IntKind.wrap .u64 (((BitVec.toNat ((BitVec.ofInt 64 n14) &&& (BitVec.ofInt 64 (IntKind.wrap .u64 (n6 - 1))))) : Nat) : Int))) - (IntKind.wrap .i64 (a2 - a1)))))) fun m16 m17 =>
        ∃ (n18 : Int),
        ((ld1 s15 (AV.ptr m16 m17)) = (some (AV.int .i64 n18))) ∧
        ixsK 1 a0 n9 fun m19 m20 =>
        ∃ (n21 : Int),
        ((ld1 s15 (AV.ptr m19 m20)) = (some (AV.int .i64 n21))) ∧
        ixsK 1 a0 n9 fun m22 m23 =>
        ∃ (s24 : St),
        ((wrN s15 (AV.ptr m22 m23) [(AV.int .i64 n18)]) = (some s24)) ∧
        ixsK 1 a0 (IntKind.wrap .i64 (a1 + (IntKind.wrap .i64 ((IntKind.wrap .i64 (IntKind.wrap .u64 (((BitVec.toNat ((BitVec.ofInt 64 n14) &&& (BitVec.ofInt 64 (IntKind.wrap .u64 (n6 - 1))))) : Nat) : Int))) - (IntKind.wrap .i64 (a2 - a1)))))) fun m25 m26 =>
        ∃ (s27 : St),
        ((wrN s24 (AV.ptr m25 m26) [(AV.int .i64 n21)]) = (some s27)) ∧
        ∃ (m28 : Nat),
        (m28 < m11) ∧
        (I7 (IntKind.wrap .i64 (n9 + 1)) s27 m28)
      ) (
        ∀ (s29 : St),
        (Bump s13 20 s29) →
        ixsK 1 a0 (IntKind.wrap .i64 (a1 + (IntKind.wrap .i64 (IntKind.wrap .u64 (((BitVec.toNat ((BitVec.ofInt 64 n14) &&& (BitVec.ofInt 64 (IntKind.wrap .u64 (n6 - 1))))) : Nat) : Int))))) fun m30 m31 =>
        ∃ (n32 : Int),
        ((ld1 s29 (AV.ptr m30 m31)) = (some (AV.int .i64 n32))) ∧
        ixsK 1 a0 n9 fun m33 m34 =>
        ∃ (n35 : Int),
        ((ld1 s29 (AV.ptr m33 m34)) = (some (AV.int .i64 n35))) ∧
        ixsK 1 a0 n9 fun m36 m37 =>
        ∃ (s38 : St),
        ((wrN s29 (AV.ptr m36 m37) [(AV.int .i64 n32)]) = (some s38)) ∧
        ixsK 1 a0 (IntKind.wrap .i64 (a1 + (IntKind.wrap .i64 (IntKind.wrap .u64 (((BitVec.toNat ((BitVec.ofInt 64 n14) &&& (BitVec.ofInt 64 (IntKind.wrap .u64 (n6 - 1))))) : Nat) : Int))))) fun m39 m40 =>
        ∃ (s41 : St),
        ((wrN s38 (AV.ptr m39 m40) [(AV.int .i64 n35)]) = (some s41)) ∧
        ∃ (m42 : Nat),
        (m42 < m11) ∧
        (I7 (IntKind.wrap .i64 (n9 + 1)) s41 m42)
      )
    ) (
      (Q (AV.tuple []) s10)
    )
  ) (
    (Q (AV.tuple []) s)
  )
set_option maxRecDepth 100000 in
theorem vc.slices_breakPatternsOrdered_int64_ok {a0 : AV} {a1 : Int} {a2 : Int} {s : St} {Q : AV → St → Prop} (h : vc.slices_breakPatternsOrdered_int64 a0 a1 a2 s Q) : CallsD P F.slices_breakPatternsOrdered_int64 [a0, .int .i64 a1, .int .i64 a2] s Q :=
  fnD_ok (C := C.slices_breakPatternsOrdered_int64) hD hX rfl mixes (fi := fnI Try.f74) (by kernel_rfl) (by kernel_rfl) (cast (by kernel_rfl : vc.slices_breakPatternsOrdered_int64 a0 a1 a2 s Q = wpC P C.slices_breakPatternsOrdered_int64 1000000 (fnI Try.f74).body ⟨PT.setAll .nil 0 [a0, .int .i64 a1, .int .i64 a2], max [a0, .int .i64 a1, .int .i64 a2].length (fnI Try.f74).nt, s, []⟩ (endW C.slices_breakPatternsOrdered_int64 (fnI Try.f74).results Q)) h)
end
end Go.Eng.S

namespace Go.Eng.S
open Go Go.Eng Go.Proofs
noncomputable section
/-! ### math/bits.Len64 -/
def C.math_bits_Len64 : Cx := { D := D, rt := rt, its := [], lps := [], det := true, jns := [(15, [0, 6, 5, 2, 3, 4], [0, 2], [.int .u64 0, .int .i64 0]), (27, [0, 10, 9, 11, 12, 2, 7, 8], [0, 2], [.int .u64 0, .int .i64 0]), (45, [0, 16, 15, 17, 18, 2, 13, 14], [0, 2], [.int .u64 0, .int .i64 0])] }
set_option maxRecDepth 100000 in
def vc.math_bits_Len64 (a0 : Int) (s : St) (Q : (AV → (St → Prop))) : Prop :=
  ∃ (I1 : (Int → (Int → (St → (Nat → Prop))))),
  (
    bsel (decide (a0 ≥ 4294967296)) (
      ((0 : Int) ≤ 32) ∧
      ∃ (m2 : Nat),
      (I1 (Int.fdiv a0 (2 ^ 32)) 32 s m2)
    ) (
      ∃ (m3 : Nat),
      (I1 a0 0 s m3)
    )
  ) ∧
  ∀ (n4 : Int) (n5 : Int) (s6 : St) (m7 : Nat),
  (I1 n4 n5 s6 m7) →
  ∃ (I8 : (Int → (Int → (St → (Nat → Prop))))),
  (
    bsel (decide (n4 ≥ 65536)) (
      ((0 : Int) ≤ 16) ∧
      ∃ (m9 : Nat),
      (I8 (Int.fdiv n4 (2 ^ 16)) (IntKind.wrap .i64 (n5 + 16)) s6 m9)
    ) (
      ∃ (m10 : Nat),
      (I8 n4 n5 s6 m10)
    )
  ) ∧
  ∀ (n11 : Int) (n12 : Int) (s13 : St) (m14 : Nat),
  (I8 n11 n12 s13 m14) →
  ∃ (I15 : (Int → (Int → (St → (Nat → Prop))))),
  (
    bsel (decide (n11 ≥ 256)) (
      ((0 : Int) ≤ 8) ∧
      ∃ (m16 : Nat),
      (I15 (Int.fdiv n11 (2 ^ 8)) (IntKind.wrap .i64 (n12 + 8)) s13 m16)
    ) (
      ∃ (m17 : Nat),
      (I15 n11 n12 s13 m17)
    )
  ) ∧
  ∀ (n18 : Int) (n19 : Int) (s20 : St) (m21 : Nat),
  (I15 n18 n19 s20 m21) →
  byteK (ByteArray.mk #[0, 1, 2, 2, 3, 3, 3, 3, 4, 4, 4, 4, 4, 4, 4, 4, 5, 5, 5, 5, 5, 5, 5, 5, 5, 5, 5, 5, 5, 5, 5, 5, 6, 6, 6, 6, 6, 6, 6, 6, 6, 6, 6, 6, 6, 6, 6, 6, 6, 6, 6, 6, 6, 6, 6, 6, 6, 6, 6, 6, 6, 6, 6, 6, 7, 7, 7, 7, 7, 7, 7, 7, 7, 7, 7, 7, 7, 7, 7, 7, 7, 7, 7, 7, 7, 7, 7, 7, 7, 7, 7, 7, 7, 7, 7, 7, 7, 7, 7, 7, 7, 7, 7, 7, 7, 7, 7, 7, 7, 7, 7, 7, 7, 7, 7, 7, 7, 7, 7, 7, 7, 7, 7, 7, 7, 7, 7, 7, 8, 8, 8, 8, 8, 8, 8, 8, 8, 8, 8, 8, 8, 8, 8, 8, 8, 8, 8, 8, 8, 8, 8, 8, 8, 8, 8, 8, 8, 8, 8, 8, 8, 8, 8, 8, 8, 8, 8, 8, 8, 8, 8, 8, 8, 8, 8, 8, 8, 8, 8, 8, 8, 8, 8, 8, 8, 8, 8, 8, 8, 8, 8, 8, 8, 8, 8, 8, 8, 8, 8, 8, 8, 8, 8, 8, 8, 8, 8, 8, 8, 8, 8, 8, 8, 8, 8, 8, 8, 8, 8, 8, 8, 8, 8, 8, 8, 8, 8, 8, 8, 8, 8, 8, 8, 8, 8, 8, 8, 8, 8, 8, 8, 8, 8, 8, 8, 8, 8, 8, 8, 8, 8, 8, 8, 8, 8, 8]) (IntKind.wrap .u8 n18) fun y22 =>
  (Q (AV.int .i64 (IntKind.wrap .i64 (n19 + (IntKind.wrap .i64 (((UInt8.toNat y22) : Nat) : Int))))) s20)
set_option maxRecDepth 100000 in
theorem vc.math_bits_Len64_ok {a0 : Int} {s : St} {Q : AV → St → Prop} (h : vc.math_bits_Len64 a0 s Q) : CallsD P F.math_bits_Len64 [.int .u64 a0] s Q :=
  fnD_ok (C := C.math_bits_Len64) hD hX rfl mixes (fi := fnI Try.f82) (by kernel_rfl) (by kernel_rfl) (cast (by kernel_rfl : vc.math_bits_Len64 a0 s Q = wpC P C.math_bits_Len64 1000000 (fnI Try.f82).body ⟨PT.setAll .nil 0 [.int .u64 a0], max [.int .u64 a0].length (fnI Try.f82).nt, s, []⟩ (endW C.math_bits_Len64 (fnI Try.f82).results Q)) h)
/-! ### math/bits.Len -/
def C.math_bits_Len : Cx := { D := D, rt := rt, its := [], lps := [], det := true }
set_option maxRecDepth 100000 in
def vc.math_bits_Len (a0 : Int) (s : St) (Q : (AV → (St → Prop))) : Prop :=
  CallsD P F.math_bits_Len64 [(AV.int .u64 a0)] s fun x1 s2 =>
  ∃ (n3 : Int),
  (x1 = (AV.int .i64 n3)) ∧
  (Q (AV.int .i64 n3) s2)
set_option maxRecDepth 100000 in
theorem vc.math_bits_Len_ok {a0 : Int} {s : St} {Q : AV → St → Prop} (h : vc.math_bits_Len a0 s Q) : CallsD P F.math_bits_Len [.int .u64 a0] s Q :=
  fnD_ok (C := C.math_bits_Len) hD hX rfl mixes (fi := fnI Try.f59) (by kernel_rfl) (by kernel_rfl) (cast (by kernel_rfl : vc.math_bits_Len a0 s Q = wpC P C.math_bits_Len 1000000 (fnI Try.f59).body ⟨PT.setAll .nil 0 [.int .u64 a0], max [.int .u64 a0].length (fnI Try.f59).nt, s, []⟩ (endW C.math_bits_Len (fnI Try.f59).results Q)) h)
/-! ### slices.pdqsortOrdered[int64] -/
def C.slices_pdqsortOrdered_int64 : Cx := { D := D, rt := rt, its := [], lps := [(0, [23, 22, 24, 25, 26, 27, 35, 34, 3, 41, 40, 36, 37, 38, 39, 50, 49, 60, 59, 58, 57, 56, 55, 51, 52, 53, 54, 87, 86, 85, 84, 83, 82, 81, 80, 79, 78, 77, 76, 75, 74, 73, 1, 93, 88, 89, 90, 91, 92, 13, 9, 102, 18, 110, 109, 8, 116, 115, 114, 123, 122, 117, 118, 119, 120, 121, 132, 131, 130, 129, 128, 127, 133, 2, 124, 125, 126, 111, 112, 113, 103, 104, 105, 106, 107, 108, 16, 17, 95, 96, 97, 98, 99, 94, 100, 101, 14, 15, 72, 71, 70, 69, 61, 62, 63, 64, 65, 66, 67, 68, 43, 44, 45, 46, 42, 47, 48, 11, 12, 33, 32, 31, 30, 28, 29, 19, 20, 21, 10], [1, 2, 3, 8, 9])], det := true, jns := [(108, [39, 38, 37, 36, 40, 41, 3, 34, 35], [3], [.int .i64 0]), (153, [54, 53, 52, 51, 12, 55, 56, 57, 58, 59, 60, 11, 49, 50], [11, 12], [.int .i64 0, .int .i64 0]), (207, [72, 71, 70, 69, 61, 62, 63, 64, 65, 66, 67, 68], [], [])] }
set_option maxRecDepth 100000 in
def vc.slices_pdqsortOrdered_int64 (a0 : AV) (a1 : Int) (a2 : Int) (a3 : Int) (s : St) (Q : (AV → (St → Prop))) : Prop :=
  ∃ (I1 : (Int → (Int → (Int → (Bool → (Bool → (St → (Nat → Prop)))))))),
  (
    ∃ (m2 : Nat),
    (I1 a1 a2 a3 true true s m2)
  ) ∧
  ∀ (n3 : Int) (n4 : Int) (n5 : Int) (c6 : Bool) (c7 : Bool) (s8 : St) (m9 : Nat),
  (I1 n3 n4 n5 c6 c7 s8 m9) →
  bsel (decide ((IntKind.wrap .i64 (n4 - n3)) ≤ 12)) (
    CallsD P F.slices_insertionSortOrdered_int64 [a0, (AV.int .i64 n3), (AV.int .i64 n4)] s8 fun x10 s11 =>
    (x10 = (AV.tuple [])) ∧
    (Q (AV.tuple []) s11)
  ) (
    bsel (n5 == 0) (
      CallsD P F.slices_heapSortOrdered_int64 [a0, (AV.int .i64 n3), (AV.int .i64 n4)] s8 fun x12 s13 =>
      (x12 = (AV.tuple [])) ∧
      (Q (AV.tuple []) s13)
    ) (
      ∃ (I14 : (Int → (St → (Nat → Prop)))),
      (
        bsel (!c6) (
          CallsD P F.slices_breakPatternsOrdered_int64 [a0, (AV.int .i64 n3), (AV.int .i64 n4)] s8 fun x15 s16 =>
          (x15 = (AV.tuple [])) ∧
          ∃ (m17 : Nat),
          (I14 (IntKind.wrap .i64 (n5 - 1)) s16 m17)
        ) (
          ∃ (m18 : Nat),
          (I14 n5 s8 m18)
        )
      ) ∧
      ∀ (n19 : Int) (s20 : St) (m21 : Nat),
      (I14 n19 s20 m21) →
      CallsD P F.slices_choosePivotOrdered_int64 [a0, (AV.int .i64 n3), (AV.int .i64 n4)] s20 fun x22 s23 =>
      ∃ (n24 : Int) (n25 : Int),
      (x22 = (AV.tuple [(AV.int .i64 n24), (AV.int .i64 n25)])) ∧
      ∃ (I26 : (Int → (Int → (St → (Nat → Prop))))),
      (
        bsel (n25 == 2) (
          CallsD P F.slices_reverseRangeOrdered_int64 [a0, (AV.int .i64 n3), (AV.int .i64 n4)] s23 fun x27 s28 =>
          (x27 = (AV.tuple [])) ∧
          ∃ (m29 : Nat),
          (I26 (IntKind.wrap .i64 ((IntKind.wrap .i64 (n4 - 1)) - (IntKind.wrap .i64 (n24 - n3)))) 1 s28 m29)
        ) (
          ∃ (m30 : Nat),
          (I26 n24 n25 s23 m30)
        )
      ) ∧
      ∀ (n31 : Int) (n32 : Int) (s33 : St) (m34 : Nat),
      (I26 n31 n32 s33 m34) →
      ∃ (I35 : (St → (Nat → Prop))),
      (
        bsel c6 (
          bsel c7 (
            bsel (n32 == 1) (
              CallsD P F.slices_partialInsertionSortOrdered_int64 [a0, (AV.int .i64 n3), (AV.int .i64 n4)] s33 fun x36 s37 =>
              ∃ (c38 : Bool),
              (x36 = (AV.bool c38)) ∧
              bsel c38 (
                (Q (AV.tuple []) s37)
              ) (
                ∃ (m39 : Nat),
                (I35 s37 m39)
              )
            ) (
              ∃ (m40 : Nat),
              (I35 s33 m40)
            )
          ) (
            ∃ (m41 : Nat),
            (I35 s33 m41)
          )
        ) (
          ∃ (m42 : Nat),
          (I35 s33 m42)
        )
      ) ∧
      ∀ (s43 : St) (m44 : Nat),
      (I35 s43 m44) →
      ∀ (s45 : St),
      (Bump s43 15 s45) →
      bsel (decide (n3 > 0)) (
        ixsK 1 a0 (IntKind.wrap .i64 (n3 - 1)) fun m46 m47 =>
        ∃ (n48 : Int),
        ((ld1 s45 (AV.ptr m46 m47)) = (some (AV.int .i64 n48))) ∧
        ixsK 1 a0 n31 fun m49 m50 =>
        ∃ (n51 : Int),
        ((ld1 s45 (AV.ptr m49 m50)) = (some (AV.int .i64 n51))) ∧
        CallsD P F.cmp_Less_int64 [(AV.int .i64 n48), (AV.int .i64 n51)] s45 fun x52 s53 =>
        ∃ (c54 : Bool),
        (x52 = (AV.bool c54)) ∧
        bsel (!c54) (
          CallsD P F.slices_partitionEqualOrdered_int64 [a0, (AV.int .i64 n3), (AV.int .i64 n4), (AV.int .i64 n31)] s53 fun x55 s56 =>
          ∃ (n57 : Int),
          (x55 = (AV.int .i64 n57)) ∧
          ∃ (m58 : Nat),
          (m58 < m9) ∧
          (I1 n57 n4 n19 c6 c7 s56 m58)
        ) (
          CallsD P F.slices_partitionOrdered_int64 [a0, (AV.int .i64 n3), (AV.int .i64 n4), (AV.int .i64 n31)] s53 fun x59 s60 =>
          ∃ (n61 : Int) (c62 : Bool),
          (x59 = (AV.tuple [(AV.int .i64 n61), (AV.bool c62)])) ∧
          ((8 : Int) ≠ 0) ∧
          bsel (decide ((IntKind.wrap .i64 (n61 - n3)) < (IntKind.wrap .i64 (n4 - n61)))) (
            CallsD P F.slices_pdqsortOrdered_int64 [a0, (AV.int .i64 n3), (AV.int .i64 n61), (AV.int .i64 n19)] s60 fun x63 s64 =>
            (x63 = (AV.tuple [])) ∧
            ∃ (m65 : Nat),
            (m65 < m9) ∧
            (I1 (IntKind.wrap .i64 (n61 + 1)) n4 n19 (decide ((IntKind.wrap .i64 (n61 - n3)) ≥ (IntKind.wrap .i64 (Int.tdiv (IntKind.wrap .i64 (n4 - n3)) 8)))) c62 s64 m65)
          ) (
            CallsD P F.slices_pdqsortOrdered_int64 [a0, (AV.int .i64 (IntKind.wrap .i64 (n61 + 1))), (AV.int .i64 n4), (AV.int .i64 n19)] s60 fun x66 s67 =>
            (x66 = (AV.tuple [])) ∧
            ∃ (m68 : Nat),
            (m68 < m9) ∧
            (I1 n3 n61 n19 (decide ((IntKind.wrap .i64 (n4 - n61)) ≥ (IntKind.wrap .i64 (Int.tdiv (IntKind.wrap .i64 (n4 - n3)) 8)))) c62 s67 m68)
          )
        )
      ) (
        CallsD P F.slices_partitionOrdered_int64 [a0, (AV.int .i64 n3), (AV.int .i64 n4), (AV.int .i64 n31)] s45 fun x69 s70 =>
        ∃ (n71 : Int) (c72 : Bool),
        (x69 = (AV.tuple [(AV.int .i64 n71), (AV.bool c72)])) ∧
        ((8 : Int) ≠ 0) ∧
        bsel (decide ((IntKind.wrap .i64 (n71 - n3)) < (IntKind.wrap .i64 (n4 - n71)))) (
          CallsD P F.slices_pdqsortOrdered_int64 [a0, (AV.int .i64 n3), (AV.int .i64 n71), (AV.int .i64 n19)] s70 fun x73 s74 =>
          (x73 = (AV.tuple [])) ∧
          ∃ (m75 : Nat),
          (m75 < m9) ∧
          (I1 (IntKind.wrap .i64 (n71 + 1)) n4 n19 (decide ((IntKind.wrap .i64 (n71 - n3)) ≥ (IntKind.wrap .i64 (Int.tdiv (IntKind.wrap .i64 (n4 - n3)) 8)))) c72 s74 m75)
        ) (
          CallsD P F.slices_pdqsortOrdered_int64 [a0, (AV.int .i64 (IntKind.wrap .i64 (n71 + 1))), (AV.int .i64 n4), (AV.int .i64 n19)] s70 fun x76 s77 =>
          (x76 = (AV.tuple [])) ∧
          ∃ (m78 : Nat),
          (m78 < m9) ∧
          (I1 n3 n71 n19 (decide ((IntKind.wrap .i64 (n4 - n71)) ≥ (IntKind.wrap .i64 (Int.tdiv (IntKind.wrap .i64 (n4 - n3)) 8)))) c72 s77 m78)
        )
      )
    )
  )
set_option maxRecDepth 100000 in
theorem vc.slices_pdqsortOrdered_int64_ok {a0 : AV} {a1 : Int} {a2 : Int} {a3 : Int} {s : St} {Q : AV → St → Prop} (h : vc.slices_pdqsortOrdered_int64 a0 a1 a2 a3 s Q) : CallsD P F.slices_pdqsortOrdered_int64 [a0, .int .i64 a1, .int .i64 a2, .int .i64 a3] s Q :=
  fnD_ok (C := C.slices_pdqsortOrdered_int64) hD hX rfl mixes (fi := fnI Try.f58) (by kernel_rfl) (by kernel_rfl) (cast (by kernel_rfl : vc.slices_pdqsortOrdered_int64 a0 a1 a2 a3 s Q = wpC P C.slices_pdqsortOrdered_int64 1000000 (fnI Try.f58).body ⟨PT.setAll .nil 0 [a0, .int .i64 a1, .int .i64 a2, .int .i64 a3], max [a0, .int .i64 a1, .int .i64 a2, .int .i64 a3].length (fnI Try.f58).nt, s, []⟩ (endW C.slices_pdqsortOrdered_int64 (fnI Try.f58).results Q)) h)
/-! ### slices.Sort[[]int64,int64] -/
def C.slices_Sort_sl_int64_int64 : Cx := { D := D, rt := rt, its := [], lps := [], det := true }
set_option maxRecDepth 100000 in
def vc.slices_Sort_sl_int64_int64 (a0 : AV) (s : St) (Q : (AV → (St → Prop))) : Prop :=
  slenK a0 fun m1 =>
  CallsD P F.math_bits_Len [(AV.int .u64 (IntKind.wrap .u64 ((m1 : Nat) : Int)))] s fun x2 s3 =>
  ∃ (n4 : Int),
  (x2 = (AV.int .i64 n4)) ∧
  CallsD P F.slices_pdqsortOrdered_int64 [a0, (AV.int .i64 0), (AV.int .i64 ((m1 : Nat) : Int)), (AV.int .i64 n4)] s3 fun x5 s6 =>
  (x5 = (AV.tuple [])) ∧
  (Q (AV.tuple []) s6)
set_option maxRecDepth 100000 in
theorem vc.slices_Sort_sl_int64_int64_ok {a0 : AV} {s : St} {Q : AV → St → Prop} (h : vc.slices_Sort_sl_int64_int64 a0 s Q) : CallsD P F.slices_Sort_sl_int64_int64 [a0] s Q :=
  fnD_ok (C := C.slices_Sort_sl_int64_int64) hD hX rfl mixes (fi := fnI Try.f43) (by kernel_rfl) (by kernel_rfl) (cast (by kernel_rfl : vc.slices_Sort_sl_int64_int64 a0 s Q = wpC P C.slices_Sort_sl_int64_int64 1000000 (fnI Try.f43).body ⟨PT.setAll .nil 0 [a0], max [a0].length (fnI Try.f43).nt, s, []⟩ (endW C.slices_Sort_sl_int64_int64 (fnI Try.f43).results Q)) h)
/-! ### slices.Compact[[]int64,int64] -/
def C.slices_Compact_sl_int64_int64 : Cx := { D := D, rt := rt, its := [], lps := [(0, [25, 24, 23, 22, 21, 20, 19, 18, 17, 16, 5, 44, 43, 42, 41, 40, 39, 38, 37, 36, 35, 3, 53, 52, 45, 46, 47, 48, 49, 50, 51, 33, 34, 29, 30, 31, 32, 2, 59, 58, 57, 54, 55, 56, 26, 27, 28, 4, 14, 15, 10, 11, 12, 13], [3]), (2, [44, 43, 42, 41, 40, 39, 38, 37, 36, 35, 3, 53, 52, 45, 46, 47, 48, 49, 50, 51, 33, 34, 5, 29, 30, 31, 32], [3, 5])], det := true }
set_option maxRecDepth 100000 in
def vc.slices_Compact_sl_int64_int64 (a0 : AV) (s : St) (Q : (AV → (St → Prop))) : Prop :=
  slenK a0 fun m1 =>
  bsel (decide (((m1 : Nat) : Int) < 2)) (
    (Q a0 s)
  ) (
    ∃ (I2 : (Int → (St → (Nat → Prop)))),
    (
      ∃ (m3 : Nat),
      (I2 1 s m3)
    ) ∧
    ∀ (n4 : Int) (s5 : St) (m6 : Nat),
    (I2 n4 s5 m6) →
    slenK a0 fun m7 =>
    bsel (decide (n4 < ((m7 : Nat) : Int))) (
      ∀ (s8 : St),
      (Bump s5 10 s8) →
      ixsK 1 a0 n4 fun m9 m10 =>
      ∃ (n11 : Int),
      ((ld1 s8 (AV.ptr m9 m10)) = (some (AV.int .i64 n11))) ∧
      ixsK 1 a0 (IntKind.wrap .i64 (n4 - 1)) fun m12 m13 =>
      ∃ (n14 : Int),
      ((ld1 s8 (AV.ptr m12 m13)) = (some (AV.int .i64 n14))) ∧
      bsel (n11 == n14) (
        optK (sliceV 1 a0 (some (AV.int .i64 n4)) none none) fun x15 =>
        ∃ (I16 : (Int → (Int → (St → (Nat → Prop))))),
        (
          ∃ (m17 : Nat),
          (I16 n4 1 s8 m17)
        ) ∧
        ∀ (n18 : Int) (n19 : Int) (s20 : St) (m21 : Nat),
        (I16 n18 n19 s20 m21) →
        slenK x15 fun m22 =>
        bsel (decide (n19 < ((m22 : Nat) : Int))) (
          ∀ (s23 : St),
          (Bump s20 10 s23) →
          ixsK 1 x15 n19 fun m24 m25 =>
          ∃ (n26 : Int),
          ((ld1 s23 (AV.ptr m24 m25)) = (some (AV.int .i64 n26))) ∧
          ixsK 1 x15 (IntKind.wrap .i64 (n19 - 1)) fun m27 m28 =>
          ∃ (n29 : Int),
          ((ld1 s23 (AV.ptr m27 m28)) = (some (AV.int .i64 n29))) ∧
          bsel (n26 != n29) (
            ixsK 1 x15 n19 fun m30 m31 =>
            ∃ (n32 : Int),
            ((ld1 s23 (AV.ptr m30 m31)) = (some (AV.int .i64 n32))) ∧
            ixsK 1 a0 n18 fun m33 m34 =>
            ∃ (s35 : St),
            ((wrN s23 (AV.ptr m33 m34) [(AV.int .i64 n32)]) = (some s35)) ∧
            ∃ (m36 : Nat),
            (m36 < m21) ∧
            (I16 (IntKind.wrap .i64 (n18 + 1)) (IntKind.wrap .i64 (n19 + 1)) s35 m36)
          ) (
            ∃ (m37 : Nat),
            (m37 < m21) ∧
            (I16 n18 (IntKind.wrap .i64 (n19 + 1)) s23 m37)
          )
        ) (
          optK (sliceV 1 a0 (some (AV.int .i64 n18)) none none) fun x38 =>
          ∃ (s39 : St),
          ((clearA D s20 T.sl_int64 x38) = (some ((AV.tuple []), s39))) ∧
          optK (sliceV 1 a0 none (some (AV.int .i64 n18)) none) fun x40 =>
          (Q x40 s39)
        )
      ) (
        ∃ (m41 : Nat),
        (m41 < m6) ∧
        (I2 (IntKind.wrap .i64 (n4 + 1)) s8 m41)
      )
    ) (
      (Q a0 s5)
    )
  )
set_option maxRecDepth 100000 in
theorem vc.slices_Compact_sl_int64_int64_ok {a0 : AV} {s : St} {Q : AV → St → Prop} (h : vc.slices_Compact_sl_int64_int64 a0 s Q) : CallsD P F.slices_Compact_sl_int64_int64 [a0] s Q :=
  fnD_ok (C := C.slices_Compact_sl_int64_int64) hD hX rfl mixes (fi := fnI Try.f44) (by kernel_rfl) (by kernel_rfl) (cast (by kernel_rfl : vc.slices_Compact_sl_int64_int64 a0 s Q = wpC P C.slices_Compact_sl_int64_int64 1000000 (fnI Try.f44).body ⟨PT.setAll .nil 0 [a0], max [a0].length (fnI Try.f44).nt, s, []⟩ (endW C.slices_Compact_sl_int64_int64 (fnI Try.f44).results Q)) h)
end
end Go.Eng.S

namespace Go.Eng.S
open Go Go.Eng Go.Proofs
noncomputable section
/-! ### (*spoor/rollup.Rollup).Windows -/
def C.p_rollup_Rollup_Windows : Cx := { D := D, rt := rt, its := [(25, 81)], lps := [(0, [8, 37, 36, 35, 34, 33, 32, 31, 30, 28, 29, 9, 26, 27], [8]), (2, [43, 54, 10, 53, 52, 51, 50, 49, 48, 47, 45, 46, 12, 44], [10, 43])] }
set_option maxRecDepth 100000 in
def vc.p_rollup_Rollup_Windows (a0 : AV) (a1 : Int) (s : St) (Q : (AV → (St → Prop))) : Prop :=
  CallsA P F.p_rollup_Rollup_wide [a0, (AV.int .i64 a1)] s fun x1 s2 =>
  ∃ (n3 : Int) (c4 : Bool),
  (x1 = (AV.tuple [(AV.int .i64 n3), (AV.bool c4)])) ∧
  bsel (!c4) (
    (Q (AV.tuple [AV.nilslice, (AV.int .i64 1)]) s2)
  ) (
    ptrK a0 0 fun m5 m6 =>
    ∃ (x7 : AV),
    ((ld1 s2 (AV.ptr m5 (m6 + 1))) = (some x7)) ∧
    ∃ (m8 : Nat) (s9 : St),
    ((rangeA D s2 T.map_int64_rollup_edges x7) = (some ((AV.ptr m8 0), s9))) ∧
    ∃ (I10 : (AV → (St → (Nat → Prop)))),
    (
      ∃ (m11 : Nat),
      (I10 AV.nilslice s9 m11)
    ) ∧
    ∀ (x12 : AV) (s13 : St) (m14 : Nat),
    (I10 x12 s13 m14) →
    ∃ (l15 : (List (AV × St))),
    ((nextA s13 (AV.ptr m8 0) false) = (some l15)) ∧
    ∀ (x16 : AV) (s17 : St),
    ((x16, s17) ∈ l15) →
    (((x16 = (AV.tuple [(AV.bool false)])) ∧ (CallsA P F.slices_Sort_sl_int64_int64 [x12] s17 (fun x18 => (fun s19 => ((x18 = (AV.tuple [])) ∧ (CallsA P F.slices_Compact_sl_int64_int64 [x12] s19 (fun x20 => (fun s21 => (∃ x22 : AV, ((x20 = x22) ∧ (slenK x22 (fun m23 => (∃ I24 : (AV → (Int → (St → (Nat → Prop)))), ((∃ m25 : Nat, (I24 AV.nilslice 0 s21 m25)) ∧ (∀ x26 : AV, (∀ n27 : Int, (∀ s28 : St, (∀ m29 : Nat, ((I24 x26 n27 s28 m29) → (bsel (decide (n27 < ((m23 : Nat) : Int))) (ixsK 1 x22 n27 (fun m30 => (fun m31 => (∃ n32 : Int, (((ld1 s28 (AV.ptr m30 m31)) = (some (AV.int .i64 n32))) ∧ (CallsA P F.p_rollup_Rollup_window [a0, (AV.int .i64 n32), (AV.int .i64 n3)] s28 (fun x33 => (fun s34 => (∃ n35 : Int, (∃ n36 : Int, (∃ x37 : AV, ((x33 = (AV.agg [(AV.int .i64 n35), (AV.int .i64 n36), x37])) ∧ (∀ m38 : Nat, (∀ s39 : St, ((NewO s34 (cellsO [(AV.int .i64 n35), (AV.int .i64 n36), x37]) m38 s39) → (∃ x40 : AV, (∃ s41 : St, (((appendX D s39 T.sl_api_Window T.sl_api_Window x26 (AV.slice m38 0 1 (ACap.exact 1))) = (some (x40, s41))) ∧ (∃ m42 : Nat, ((m42 < m29) ∧ (I24 x40 (IntKind.wrap .i64 (n27 + 1)) s41 m42))))))))))))))))))))) (Q (AV.tuple [x26, (AV.int .i64 0)]) s28))))))))))))))))))))) ∨ (∃ n43 : Int, (∃ x44 : AV, ((x16 = (AV.tuple [(AV.bool true), (AV.int .i64 n43), x44])) ∧ (∃ n45 : Int, (∃ x46 : AV, (((entryA s17 (AV.ptr m8 0)) = (some (AV.tuple [(AV.int .i64 n45), x46]))) ∧ (((n3 : Int) ≠ 0) ∧ (∀ m47 : Nat, (∀ s48 : St, ((NewO s17 (cellsO [(AV.int .i64 (IntKind.wrap .i64 (n45 - (Int.tmod n45 n3))))]) m47 s48) → (∃ x49 : AV, (∃ s50 : St, (((appendX D s48 T.sl_int64 T.sl_int64 x12 (AV.slice m47 0 1 (ACap.exact 1))) = (some (x49, s50))) ∧ (∃ m51 : Nat, ((m51 < m14) ∧ (I10 x49 s50 m51)))))))))))))))))
  )
set_option maxRecDepth 100000 in
theorem vc.p_rollup_Rollup_Windows_ok {a0 : AV} {a1 : Int} {s : St} {Q : AV → St → Prop} (h : vc.p_rollup_Rollup_Windows a0 a1 s Q) : CallsA P F.p_rollup_Rollup_Windows [a0, .int .i64 a1] s Q :=
  fnB_ok (C := C.p_rollup_Rollup_Windows) hD hX mixes (fi := fnI Try.f25) (by kernel_rfl) (by kernel_rfl) (cast (by kernel_rfl : vc.p_rollup_Rollup_Windows a0 a1 s Q = wpC P C.p_rollup_Rollup_Windows 1000000 (fnI Try.f25).body ⟨PT.setAll .nil 0 [a0, .int .i64 a1], max [a0, .int .i64 a1].length (fnI Try.f25).nt, s, []⟩ (endW C.p_rollup_Rollup_Windows (fnI Try.f25).results Q)) h)
/-! ### (*spoor/rollup.Rollup).Merge -/
def C.p_rollup_Rollup_Merge : Cx := { D := D, rt := rt, its := [(29, 81), (36, 87)], lps := [(0, [36, 35, 5, 48, 47, 46, 45, 44, 43, 42, 39, 40, 41, 8, 9, 37, 38, 32, 33, 34, 6, 7, 30, 31], [5]), (2, [5, 48, 47, 46, 45, 44, 43, 42, 39, 40, 41, 8, 9, 37, 38], [5]), (4, [51, 63, 62, 61, 60, 59, 58, 57, 56, 55, 53, 54, 11, 52], [51])], msk := [(2, [true])] }
set_option maxRecDepth 100000 in
def vc.p_rollup_Rollup_Merge (a0 : AV) (a1 : AV) (s : St) (Q : (AV → (St → Prop))) : Prop :=
  ∀ (s1 : St),
  (Bump s 13 s1) →
  nilK (TD.ptr 83) a1 true fun c2 =>
  bsel c2 (
    (Q (AV.int .i64 1) s1)
  ) (
    ptrK a1 0 fun m3 m4 =>
    ∃ (n5 : Int),
    ((ld1 s1 (AV.ptr m3 m4)) = (some (AV.int .i64 n5))) ∧
    ptrK a0 0 fun m6 m7 =>
    ∃ (n8 : Int),
    ((ld1 s1 (AV.ptr m6 m7)) = (some (AV.int .i64 n8))) ∧
    bsel (n5 != n8) (
      (Q (AV.int .i64 1) s1)
    ) (
      ptrK a1 0 fun m9 m10 =>
      ∃ (x11 : AV),
      ((ld1 s1 (AV.ptr m9 (m10 + 1))) = (some x11)) ∧
      ∃ (m12 : Nat) (s13 : St),
      ((rangeA D s1 T.map_int64_rollup_edges x11) = (some ((AV.ptr m12 0), s13))) ∧
      ∃ (I14 : (AV → (St → (Nat → Prop)))),
      (
        ∃ (m15 : Nat),
        (I14 AV.nilslice s13 m15)
      ) ∧
      ∀ (x16 : AV) (s17 : St) (m18 : Nat),
      (I14 x16 s17 m18) →
      ∃ (l19 : (List (AV × St))),
      ((nextA s17 (AV.ptr m12 0) false) = (some l19)) ∧
      ∀ (x20 : AV) (s21 : St),
      ((x20, s21) ∈ l19) →
      (((x20 = (AV.tuple [(AV.bool false)])) ∧ (slenK x16 (fun m22 => (∃ I23 : (Int → (St → (Nat → Prop))), ((∃ m24 : Nat, (I23 0 s21 m24)) ∧ (∀ n25 : Int, (∀ s26 : St, (∀ m27 : Nat, ((I23 n25 s26 m27) → (bsel (decide (n25 < ((m22 : Nat) : Int))) (ixsK 10 x16 n25 (fun m28 => (fun m29 => (∃ n30 : Int, (∃ t31 : ByteArray, (∃ t32 : ByteArray, (∃ n33 : Int, (∃ n34 : Int, (∃ n35 : Int, (∃ n36 : Int, (∃ n37 : Int, (∃ n38 : Int, (∃ x39 : AV, (((ldN s26 (AV.ptr m28 m29) 10) = (some [(AV.int .i64 n30), (AV.str t31), (AV.str t32), (AV.int .u64 n33), (AV.int .u64 n34), (AV.int .u64 n35), (AV.int .u64 n36), (AV.int .u64 n37), (AV.int .u64 n38), x39])) ∧ (∀ m40 : Nat, (∀ s41 : St, ((NewO s26 (cellsO [(AV.int .i64 0), (AV.str ByteArray.empty), (AV.str ByteArray.empty), (AV.int .u64 0), (AV.int .u64 0), (AV.int .u64 0), (AV.int .u64 0), (AV.int .u64 0), (AV.int .u64 0), AV.nilslice]) m40 s41) → (∃ s42 : St, (((wrN s41 (AV.ptr m40 0) [(AV.int .i64 n30), (AV.str t31), (AV.str t32), (AV.int .u64 n33), (AV.int .u64 n34), (AV.int .u64 n35), (AV.int .u64 n36), (AV.int .u64 n37), (AV.int .u64 n38), x39]) = (some s42)) ∧ (∃ n43 : Int, (((ld1 s42 (AV.ptr m40 0)) = (some (AV.int .i64 n43))) ∧ (∃ t44 : ByteArray, (∃ t45 : ByteArray, (((ldN s42 (AV.ptr m40 1) 2) = (some [(AV.str t44), (AV.str t45)])) ∧ (∃ n46 : Int, (∃ n47 : Int, (∃ n48 : Int, (∃ n49 : Int, (∃ n50 : Int, (∃ n51 : Int, (∃ x52 : AV, (((ldN s42 (AV.ptr m40 3) 7) = (some [(AV.int .u64 n46), (AV.int .u64 n47), (AV.int .u64 n48), (AV.int .u64 n49), (AV.int .u64 n50), (AV.int .u64 n51), x52])) ∧ (CallsA P F.p_rollup_Rollup_Put [a0, (AV.int .i64 n43), (AV.agg [(AV.str t44), (AV.str t45)]), (AV.agg [(AV.int .u64 n46), (AV.int .u64 n47), (AV.int .u64 n48), (AV.int .u64 n49), (AV.int .u64 n50), (AV.int .u64 n51), x52])] s42 (fun x53 => (fun s54 => (∃ n55 : Int, ((x53 = (AV.int .i64 n55)) ∧ (∃ m56 : Nat, ((m56 < m27) ∧ (I23 (IntKind.wrap .i64 (n25 + 1)) s54 m56)))))))))))))))))))))))))))))))))))))))) (Q (AV.int .i64 0) s26))))))))))) ∨ (∃ n57 : Int, (∃ x58 : AV, ((x20 = (AV.tuple [(AV.bool true), (AV.int .i64 n57), x58])) ∧ (∃ n59 : Int, (∃ x60 : AV, (((entryA s21 (AV.ptr m12 0)) = (some (AV.tuple [(AV.int .i64 n59), x60]))) ∧ (∃ m61 : Nat, (∃ s62 : St, (((rangeA D s21 T.rollup_edges x60) = (some ((AV.ptr m61 0), s62))) ∧ (∃ I63 : (AV → (St → (Nat → Prop))), ((∃ m64 : Nat, (I63 x16 s62 m64)) ∧ (∀ x65 : AV, (∀ s66 : St, (∀ m67 : Nat, ((I63 x65 s66 m67) → (∃ l68 : (List (AV × St)), (((nextA s66 (AV.ptr m61 0) false) = (some l68)) ∧ (∀ x69 : AV, (∀ s70 : St, (((x69, s70) ∈ l68) → (((x69 = (AV.tuple [(AV.bool false)])) ∧ (∃ m71 : Nat, ((m71 < m18) ∧ (I14 x65 s70 m71)))) ∨ (∃ t72 : ByteArray, (∃ t73 : ByteArray, (∃ n74 : Int, (∃ n75 : Int, (∃ n76 : Int, (∃ n77 : Int, (∃ n78 : Int, (∃ n79 : Int, (∃ x80 : AV, ((x69 = (AV.tuple [(AV.bool true), (AV.agg [(AV.str t72), (AV.str t73)]), (AV.agg [(AV.int .u64 n74), (AV.int .u64 n75), (AV.int .u64 n76), (AV.int .u64 n77), (AV.int .u64 n78), (AV.int .u64 n79), x80])])) ∧ (∃ t81 : ByteArray, (∃ t82 : ByteArray, (∃ n83 : Int, (∃ n84 : Int, (∃ n85 : Int, (∃ n86 : Int, (∃ n87 : Int, (∃ n88 : Int, (∃ x89 : AV, (((entryA s70 (AV.ptr m61 0)) = (some (AV.tuple [(AV.agg [(AV.str t81), (AV.str t82)]), (AV.agg [(AV.int .u64 n83), (AV.int .u64 n84), (AV.int .u64 n85), (AV.int .u64 n86), (AV.int .u64 n87), (AV.int .u64 n88), x89])]))) ∧ (∀ m90 : Nat, (∀ s91 : St, ((NewO s70 (cellsO [(AV.str ByteArray.empty), (AV.str ByteArray.empty)]) m90 s91) → (∀ m92 : Nat, (∀ s93 : St, ((NewO s91 (cellsO [(AV.int .u64 0), (AV.int .u64 0), (AV.int .u64 0), (AV.int .u64 0), (AV.int .u64 0), (AV.int .u64 0), AV.nilslice]) m92 s93) → (∃ s94 : St, (((wrN s93 (AV.ptr m90 0) [(AV.str t81), (AV.str t82)]) = (some s94)) ∧ (∃ s95 : St, (((wrN s94 (AV.ptr m92 0) [(AV.int .u64 n83), (AV.int .u64 n84), (AV.int .u64 n85), (AV.int .u64 n86), (AV.int .u64 n87), (AV.int .u64 n88), x89]) = (some s95)) ∧ (∃ t96 : ByteArray, (∃ t97 : ByteArray, (((ldN s95 (AV.ptr m90 0) 2) = (some [(AV.str t96), (AV.str t97)])) ∧ (∃ n98 : Int, (∃ n99 : Int, (∃ n100 : Int, (∃ n101 : Int, (∃ n102 : Int, (∃ n103 : Int, (∃ x104 : AV, (((ldN s95 (AV.ptr m92 0) 7) = (some [(AV.int .u64 n98), (AV.int .u64 n99), (AV.int .u64 n100), (AV.int .u64 n101), (AV.int .u64 n102), (AV.int .u64 n103), x104])) ∧ (∀ m105 : Nat, (∀ s106 : St, ((NewO s95 (cellsO [(AV.int .i64 n59), (AV.str t96), (AV.str t97), (AV.int .u64 n98), (AV.int .u64 n99), (AV.int .u64 n100), (AV.int .u64 n101), (AV.int .u64 n102), (AV.int .u64 n103), x104]) m105 s106) → (∃ x107 : AV, (∃ s108 : St, (((appendX D s106 T.sl_rollup_row T.sl_rollup_row x65 (AV.slice m105 0 1 (ACap.exact 1))) = (some (x107, s108))) ∧ (∃ m109 : Nat, ((m109 < m67) ∧ (I63 x107 s108 m109))))))))))))))))))))))))))))))))))))))))))))))))))))))))))))))))))))))))
    )
  )
set_option maxRecDepth 100000 in
theorem vc.p_rollup_Rollup_Merge_ok {a0 : AV} {a1 : AV} {s : St} {Q : AV → St → Prop} (h : vc.p_rollup_Rollup_Merge a0 a1 s Q) : CallsA P F.p_rollup_Rollup_Merge [a0, a1] s Q :=
  fnB_ok (C := C.p_rollup_Rollup_Merge) hD hX mixes (fi := fnI Try.f26) (by kernel_rfl) (by kernel_rfl) (cast (by kernel_rfl : vc.p_rollup_Rollup_Merge a0 a1 s Q = wpC P C.p_rollup_Rollup_Merge 1000000 (fnI Try.f26).body ⟨PT.setAll .nil 0 [a0, a1], max [a0, a1].length (fnI Try.f26).nt, s, []⟩ (endW C.p_rollup_Rollup_Merge (fnI Try.f26).results Q)) h)
/-! ### spoor/spoorref15.SameWindows -/
def C.spoorref15_SameWindows : Cx := { D := D, rt := rt, its := [], lps := [(0, [54, 53, 52, 51, 50, 49, 48, 47, 46, 45, 44, 43, 42, 41, 40, 39, 38, 37, 36, 35, 34, 33, 32, 31, 30, 29, 28, 27, 26, 25, 24, 23, 22, 21, 20, 19, 18, 17, 4, 15, 16, 5, 11, 12, 13, 14], [5])], det := true }
set_option maxRecDepth 100000 in
def vc.spoorref15_SameWindows (a0 : AV) (a1 : AV) (s : St) (Q : (AV → (St → Prop))) : Prop :=
  slenK a0 fun m1 =>
  slenK a1 fun m2 =>
  bsel (((m1 : Nat) : Int) != ((m2 : Nat) : Int)) (
    (Q (AV.bool false) s)
  ) (
    ∃ (I3 : (Int → (St → (Nat → Prop)))),
    (
      ∃ (m4 : Nat),
      (I3 0 s m4)
    ) ∧
    ∀ (n5 : Int) (s6 : St) (m7 : Nat),
    (I3 n5 s6 m7) →
    slenK a0 fun m8 =>
    bsel (decide (n5 < ((m8 : Nat) : Int))) (
      ∀ (s9 : St),
      (Bump s6 38 s9) →
      ixsK 3 a0 n5 fun m10 m11 =>
      ∃ (n12 : Int),
      ((ld1 s9 (AV.ptr m10 m11)) = (some (AV.int .i64 n12))) ∧
      ixsK 3 a1 n5 fun m13 m14 =>
      ∃ (n15 : Int),
      ((ld1 s9 (AV.ptr m13 m14)) = (some (AV.int .i64 n15))) ∧
      bsel (n12 != n15) (
        (Q (AV.bool false) s9)
      ) (
        ixsK 3 a0 n5 fun m16 m17 =>
        ∃ (n18 : Int),
        ((ld1 s9 (AV.ptr m16 (m17 + 1))) = (some (AV.int .i64 n18))) ∧
        ixsK 3 a1 n5 fun m19 m20 =>
        ∃ (n21 : Int),
        ((ld1 s9 (AV.ptr m19 (m20 + 1))) = (some (AV.int .i64 n21))) ∧
        bsel (n18 != n21) (
          (Q (AV.bool false) s9)
        ) (
          ixsK 3 a0 n5 fun m22 m23 =>
          ∃ (x24 : AV),
          ((ld1 s9 (AV.ptr m22 (m23 + 2))) = (some x24)) ∧
          ixsK 3 a1 n5 fun m25 m26 =>
          ∃ (x27 : AV),
          ((ld1 s9 (AV.ptr m25 (m26 + 2))) = (some x27)) ∧
          CallsD P F.spoorref15_SameEdges [x24, x27] s9 fun x28 s29 =>
          ∃ (c30 : Bool),
          (x28 = (AV.bool c30)) ∧
          bsel (!c30) (
            (Q (AV.bool false) s29)
          ) (
            ∃ (m31 : Nat),
            (m31 < m7) ∧
            (I3 (IntKind.wrap .i64 (n5 + 1)) s29 m31)
          )
        )
      )
    ) (
      (Q (AV.bool true) s6)
    )
  )
set_option maxRecDepth 100000 in
theorem vc.spoorref15_SameWindows_ok {a0 : AV} {a1 : AV} {s : St} {Q : AV → St → Prop} (h : vc.spoorref15_SameWindows a0 a1 s Q) : CallsD P F.spoorref15_SameWindows [a0, a1] s Q :=
  fnD_ok (C := C.spoorref15_SameWindows) hD hX rfl mixes (fi := fnI Try.f27) (by kernel_rfl) (by kernel_rfl) (cast (by kernel_rfl : vc.spoorref15_SameWindows a0 a1 s Q = wpC P C.spoorref15_SameWindows 1000000 (fnI Try.f27).body ⟨PT.setAll .nil 0 [a0, a1], max [a0, a1].length (fnI Try.f27).nt, s, []⟩ (endW C.spoorref15_SameWindows (fnI Try.f27).results Q)) h)
end
end Go.Eng.S

namespace Go.Eng.S
open Go Go.Eng Go.Proofs
noncomputable section
/-! ### spoor/spoorlaw15.RollupOrder -/
def C.spoorlaw15_RollupOrder : Cx := { D := D, rt := rt, its := [], lps := [(0, [9, 57, 56, 55, 54, 53, 52, 51, 49, 50, 10, 47, 48], [9, 10])], jns := [(198, [2, 68, 67, 66, 58, 59, 60, 61, 62, 63, 64, 65], [2], [.int .i64 0])] }
set_option maxRecDepth 100000 in
def vc.spoorlaw15_RollupOrder (a0 : Int) (a1 : AV) (a2 : Int) (s : St) (Q : (AV → (St → Prop))) : Prop :=
  CallsA P F.spoorlaw15_alive [] s fun x1 s2 =>
  ∃ (c3 : Bool),
  (x1 = (AV.bool c3)) ∧
  CallsA P F.spoorlaw15_filled [(AV.int .i64 a0), a1] s2 fun x4 s5 =>
  ∃ (x6 : AV),
  (x4 = x6) ∧
  bsel (!c3) (
    bsel c3 (
      bsel (decide (a0 < 2)) (
        (Q (AV.bool true) s5)
      ) (
        (Q (AV.bool (decide (a0 > 16))) s5)
      )
    ) (
      (Q (AV.bool false) s5)
    )
  ) (
    nilK (TD.ptr 83) x6 true fun c7 =>
    bsel c7 (
      bsel c3 (
        bsel (decide (a0 < 2)) (
          (Q (AV.bool true) s5)
        ) (
          (Q (AV.bool (decide (a0 > 16))) s5)
        )
      ) (
        (Q (AV.bool false) s5)
      )
    ) (
      slenK a1 fun m8 =>
      ∃ (I9 : (AV → (Int → (St → (Nat → Prop))))),
      (
        ∃ (m10 : Nat),
        (I9 AV.nilslice (IntKind.wrap .i64 (((m8 : Nat) : Int) - 1)) s5 m10)
      ) ∧
      ∀ (x11 : AV) (n12 : Int) (s13 : St) (m14 : Nat),
      (I9 x11 n12 s13 m14) →
      bsel (decide (n12 ≥ 0)) (
        ixsK 10 a1 n12 fun m15 m16 =>
        ∃ (n17 : Int) (t18 : ByteArray) (t19 : ByteArray) (n20 : Int) (n21 : Int) (n22 : Int) (n23 : Int) (n24 : Int) (n25 : Int) (x26 : AV),
        ((ldN s13 (AV.ptr m15 m16) 10) = (some [(AV.int .i64 n17), (AV.str t18), (AV.str t19), (AV.int .u64 n20), (AV.int .u64 n21), (AV.int .u64 n22), (AV.int .u64 n23), (AV.int .u64 n24), (AV.int .u64 n25), x26])) ∧
        ∀ (m27 : Nat) (s28 : St),
        (NewO s13 (cellsO [(AV.int .i64 n17), (AV.str t18), (AV.str t19), (AV.int .u64 n20), (AV.int .u64 n21), (AV.int .u64 n22), (AV.int .u64 n23), (AV.int .u64 n24), (AV.int .u64 n25), x26]) m27 s28) →
        ∃ (x29 : AV) (s30 : St),
        ((appendX D s28 T.sl_spoorlaw15_Put T.sl_spoorlaw15_Put x11 (AV.slice m27 0 1 (ACap.exact 1))) = (some (x29, s30))) ∧
        ∃ (m31 : Nat),
        (m31 < m14) ∧
        (I9 x29 (IntKind.wrap .i64 (n12 - 1)) s30 m31)
      ) (
        ∃ (I32 : (Int → (St → (Nat → Prop)))),
        (
          bsel (decide (a2 < 0)) (
            slenK a1 fun m33 =>
            ((2 : Int) ≠ 0) ∧
            ∃ (m34 : Nat),
            (I32 (IntKind.wrap .i64 (Int.tdiv ((m33 : Nat) : Int) 2)) s13 m34)
          ) (
            slenK a1 fun m35 =>
            bsel (decide (a2 > ((m35 : Nat) : Int))) (
              slenK a1 fun m36 =>
              ((2 : Int) ≠ 0) ∧
              ∃ (m37 : Nat),
              (I32 (IntKind.wrap .i64 (Int.tdiv ((m36 : Nat) : Int) 2)) s13 m37)
            ) (
              ∃ (m38 : Nat),
              (I32 a2 s13 m38)
            )
          )
        ) ∧
        ∀ (n39 : Int) (s40 : St) (m41 : Nat),
        (I32 n39 s40 m41) →
        CallsA P F.spoorlaw15_filled [(AV.int .i64 a0), x11] s40 fun x42 s43 =>
        ∃ (x44 : AV),
        (x42 = x44) ∧
        optK (sliceV 10 a1 none (some (AV.int .i64 n39)) none) fun x45 =>
        CallsA P F.spoorlaw15_filled [(AV.int .i64 a0), x45] s43 fun x46 s47 =>
        ∃ (x48 : AV),
        (x46 = x48) ∧
        optK (sliceV 10 a1 (some (AV.int .i64 n39)) none none) fun x49 =>
        CallsA P F.spoorlaw15_filled [(AV.int .i64 a0), x49] s47 fun x50 s51 =>
        ∃ (x52 : AV),
        (x50 = x52) ∧
        optK (sliceV 10 a1 (some (AV.int .i64 n39)) none none) fun x53 =>
        CallsA P F.spoorlaw15_filled [(AV.int .i64 a0), x53] s51 fun x54 s55 =>
        ∃ (x56 : AV),
        (x54 = x56) ∧
        nilK (TD.ptr 83) x44 true fun c57 =>
        bsel c57 (
          (Q (AV.bool false) s55)
        ) (
          nilK (TD.ptr 83) x48 true fun c58 =>
          bsel c58 (
            (Q (AV.bool false) s55)
          ) (
            nilK (TD.ptr 83) x52 true fun c59 =>
            bsel c59 (
              (Q (AV.bool false) s55)
            ) (
              nilK (TD.ptr 83) x56 true fun c60 =>
              bsel c60 (
                (Q (AV.bool false) s55)
              ) (
                CallsA P F.p_rollup_Rollup_Merge [x52, x48] s55 fun x61 s62 =>
                ∃ (n63 : Int),
                (x61 = (AV.int .i64 n63)) ∧
                CallsA P F.p_rollup_Rollup_Merge [x48, x56] s62 fun x64 s65 =>
                ∃ (n66 : Int),
                (x64 = (AV.int .i64 n66)) ∧
                CallsA P F.p_rollup_Rollup_Windows [x6, (AV.int .i64 0)] s65 fun x67 s68 =>
                ∃ (x69 : AV) (n70 : Int),
                (x67 = (AV.tuple [x69, (AV.int .i64 n70)])) ∧
                CallsA P F.p_rollup_Rollup_Windows [x44, (AV.int .i64 0)] s68 fun x71 s72 =>
                ∃ (x73 : AV) (n74 : Int),
                (x71 = (AV.tuple [x73, (AV.int .i64 n74)])) ∧
                CallsA P F.p_rollup_Rollup_Windows [x48, (AV.int .i64 0)] s72 fun x75 s76 =>
                ∃ (x77 : AV) (n78 : Int),
                (x75 = (AV.tuple [x77, (AV.int .i64 n78)])) ∧
                CallsA P F.p_rollup_Rollup_Windows [x52, (AV.int .i64 0)] s76 fun x79 s80 =>
                ∃ (x81 : AV) (n82 : Int),
                (x79 = (AV.tuple [x81, (AV.int .i64 n82)])) ∧
                bsel (n63 == 0) (
                  bsel (n66 == 0) (
                    CallsA P F.spoorref15_SameWindows [x69, x73] s80 fun x83 s84 =>
                    ∃ (c85 : Bool),
                    (x83 = (AV.bool c85)) ∧
                    bsel c85 (
                      CallsA P F.spoorref15_SameWindows [x69, x77] s84 fun x86 s87 =>
                      ∃ (c88 : Bool),
                      (x86 = (AV.bool c88)) ∧
                      bsel c88 (
                        CallsA P F.spoorref15_SameWindows [x69, x81] s87 fun x89 s90 =>
                        ∃ (c91 : Bool),
                        (x89 = (AV.bool c91)) ∧
                        (Q (AV.bool c91) s90)
                      ) (
                        (Q (AV.bool false) s87)
                      )
                    ) (
                      (Q (AV.bool false) s84)
                    )
                  ) (
                    (Q (AV.bool false) s80)
                  )
                ) (
                  (Q (AV.bool false) s80)
                )
              )
            )
          )
        )
      )
    )
  )
set_option maxRecDepth 100000 in
theorem vc.spoorlaw15_RollupOrder_ok {a0 : Int} {a1 : AV} {a2 : Int} {s : St} {Q : AV → St → Prop} (h : vc.spoorlaw15_RollupOrder a0 a1 a2 s Q) : CallsA P F.spoorlaw15_RollupOrder [.int .i64 a0, a1, .int .i64 a2] s Q :=
  fnB_ok (C := C.spoorlaw15_RollupOrder) hD hX mixes (fi := fnI Try.f8) (by kernel_rfl) (by kernel_rfl) (cast (by kernel_rfl : vc.spoorlaw15_RollupOrder a0 a1 a2 s Q = wpC P C.spoorlaw15_RollupOrder 1000000 (fnI Try.f8).body ⟨PT.setAll .nil 0 [.int .i64 a0, a1, .int .i64 a2], max [.int .i64 a0, a1, .int .i64 a2].length (fnI Try.f8).nt, s, []⟩ (endW C.spoorlaw15_RollupOrder (fnI Try.f8).results Q)) h)
end
end Go.Eng.S

