/-
  What is to be shown of functions of the program, and that it suffices.
-/
import Derived.Test.YteidlkjofcbcmaaSDefs
namespace Go.Eng.S
open Go Go.Eng Go.Proofs
noncomputable section
/-! ### spoor/sketch.Check -/
def C.sketch_Check : Cx := { D := D, rt := rt, its := [], lps := [], det := true }
set_option maxRecDepth 100000 in
def vc.sketch_Check (a0 : AV) (s : St) (Q : (AV → (St → Prop))) : Prop :=
  CallsD P F.sketch_laid [a0] s fun x1 s2 =>
  ∃ (x3 : AV) (c4 : Bool),
  (x1 = (AV.tuple [x3, (AV.bool c4)])) ∧
  bsel (!c4) (
    (Q (AV.int .i64 131) s2)
  ) (
    (Q (AV.int .i64 0) s2)
  )
set_option maxRecDepth 100000 in
theorem vc.sketch_Check_ok {a0 : AV} {s : St} {Q : AV → St → Prop} (h : vc.sketch_Check a0 s Q) : CallsD P F.sketch_Check [a0] s Q :=
  fnD_ok (C := C.sketch_Check) hD hX rfl mixes (fi := fnI Try.f52) (by kernel_rfl) (by kernel_rfl) (cast (by kernel_rfl : vc.sketch_Check a0 s Q = wpC P C.sketch_Check 1000000 (fnI Try.f52).body ⟨PT.setAll .nil 0 [a0], max [a0].length (fnI Try.f52).nt, s, []⟩ (endW C.sketch_Check (fnI Try.f52).results Q)) h)
/-! ### spoor/sketch.Less -/
def C.sketch_Less : Cx := { D := D, rt := rt, its := [], lps := [(0, [30, 54, 42, 41, 40, 39, 38, 37, 36, 35, 34, 4, 5, 43, 44, 45, 46, 47, 48, 49, 50, 51, 52, 53, 32, 33, 11, 31], [30])], det := true }
set_option maxRecDepth 100000 in
def vc.sketch_Less (a0 : AV) (a1 : AV) (s : St) (Q : (AV → (St → Prop))) : Prop :=
  CallsD P F.sketch_laid [a0] s fun x1 s2 =>
  ∃ (x3 : AV) (c4 : Bool),
  (x1 = (AV.tuple [x3, (AV.bool c4)])) ∧
  CallsD P F.sketch_laid [a1] s2 fun x5 s6 =>
  ∃ (x7 : AV) (c8 : Bool),
  (x5 = (AV.tuple [x7, (AV.bool c8)])) ∧
  bsel (!c4) (
    (Q (AV.tuple [AV.nilslice, (AV.int .i64 131)]) s6)
  ) (
    bsel (!c8) (
      (Q (AV.tuple [AV.nilslice, (AV.int .i64 131)]) s6)
    ) (
      slenK a1 fun m9 =>
      ∃ (I10 : (Int → (St → (Nat → Prop)))),
      (
        ∃ (m11 : Nat),
        (I10 0 s6 m11)
      ) ∧
      ∀ (n12 : Int) (s13 : St) (m14 : Nat),
      (I10 n12 s13 m14) →
      bsel (decide (n12 < ((m9 : Nat) : Int))) (
        ixsK 2 a1 n12 fun m15 m16 =>
        ∃ (n17 : Int) (n18 : Int),
        ((ldN s13 (AV.ptr m15 m16) 2) = (some [(AV.int .i64 n17), (AV.int .u64 n18)])) ∧
        ∀ (m19 : Nat) (s20 : St),
        (NewO s13 (cellsO [(AV.int .i64 0), (AV.int .u64 0)]) m19 s20) →
        ∃ (s21 : St),
        ((wrN s20 (AV.ptr m19 0) [(AV.int .i64 n17), (AV.int .u64 n18)]) = (some s21)) ∧
        ∀ (s22 : St),
        (Bump s21 9 s22) →
        ∃ (n23 : Int),
        ((ld1 s22 (AV.ptr m19 0)) = (some (AV.int .i64 n23))) ∧
        ptrK x3 0 fun m24 m25 =>
        (0 ≤ n23) ∧
        (n23 < 1920) ∧
        ∃ (n26 : Int),
        ((ld1 s22 (AV.ptr m24 (m25 + (Int.toNat n23)))) = (some (AV.int .u64 n26))) ∧
        ∃ (n27 : Int),
        ((ld1 s22 (AV.ptr m19 1)) = (some (AV.int .u64 n27))) ∧
        bsel (decide (n26 < n27)) (
          (Q (AV.tuple [AV.nilslice, (AV.int .i64 134)]) s22)
        ) (
          ∀ (s28 : St),
          (Bump s22 12 s28) →
          ∃ (n29 : Int),
          ((ld1 s28 (AV.ptr m19 0)) = (some (AV.int .i64 n29))) ∧
          ptrK x3 0 fun m30 m31 =>
          (0 ≤ n29) ∧
          (n29 < 1920) ∧
          ∃ (n32 : Int),
          ((ld1 s28 (AV.ptr m30 (m31 + (Int.toNat n29)))) = (some (AV.int .u64 n32))) ∧
          ∃ (n33 : Int),
          ((ld1 s28 (AV.ptr m19 1)) = (some (AV.int .u64 n33))) ∧
          ptrK x3 0 fun m34 m35 =>
          (0 ≤ n29) ∧
          (n29 < 1920) ∧
          ∃ (s36 : St),
          ((wrN s28 (AV.ptr m34 (m35 + (Int.toNat n29))) [(AV.int .u64 (IntKind.wrap .u64 (n32 - n33)))]) = (some s36)) ∧
          ∃ (m37 : Nat),
          (m37 < m14) ∧
          (I10 (IntKind.wrap .i64 (n12 + 1)) s36 m37)
        )
      ) (
        CallsD P F.p_sketch_row_bars [x3] s13 fun x38 s39 =>
        ∃ (x40 : AV),
        (x38 = x40) ∧
        (Q (AV.tuple [x40, (AV.int .i64 0)]) s39)
      )
    )
  )
set_option maxRecDepth 100000 in
theorem vc.sketch_Less_ok {a0 : AV} {a1 : AV} {s : St} {Q : AV → St → Prop} (h : vc.sketch_Less a0 a1 s Q) : CallsD P F.sketch_Less [a0, a1] s Q :=
  fnD_ok (C := C.sketch_Less) hD hX rfl mixes (fi := fnI Try.f54) (by kernel_rfl) (by kernel_rfl) (cast (by kernel_rfl : vc.sketch_Less a0 a1 s Q = wpC P C.sketch_Less 1000000 (fnI Try.f54).body ⟨PT.setAll .nil 0 [a0, a1], max [a0, a1].length (fnI Try.f54).nt, s, []⟩ (endW C.sketch_Less (fnI Try.f54).results Q)) h)
/-! ### spoor/sketch.Merge -/
def C.sketch_Merge : Cx := { D := D, rt := rt, its := [], lps := [(0, [30, 40, 39, 38, 37, 36, 35, 34, 32, 33, 11, 31], [30])], det := true }
set_option maxRecDepth 100000 in
def vc.sketch_Merge (a0 : AV) (a1 : AV) (s : St) (Q : (AV → (St → Prop))) : Prop :=
  CallsD P F.sketch_laid [a0] s fun x1 s2 =>
  ∃ (x3 : AV) (c4 : Bool),
  (x1 = (AV.tuple [x3, (AV.bool c4)])) ∧
  CallsD P F.sketch_laid [a1] s2 fun x5 s6 =>
  ∃ (x7 : AV) (c8 : Bool),
  (x5 = (AV.tuple [x7, (AV.bool c8)])) ∧
  bsel (!c4) (
    (Q (AV.tuple [AV.nilslice, (AV.int .i64 131)]) s6)
  ) (
    bsel (!c8) (
      (Q (AV.tuple [AV.nilslice, (AV.int .i64 131)]) s6)
    ) (
      slenK a1 fun m9 =>
      ∃ (I10 : (Int → (St → (Nat → Prop)))),
      (
        ∃ (m11 : Nat),
        (I10 0 s6 m11)
      ) ∧
      ∀ (n12 : Int) (s13 : St) (m14 : Nat),
      (I10 n12 s13 m14) →
      bsel (decide (n12 < ((m9 : Nat) : Int))) (
        ixsK 2 a1 n12 fun m15 m16 =>
        ∃ (n17 : Int) (n18 : Int),
        ((ldN s13 (AV.ptr m15 m16) 2) = (some [(AV.int .i64 n17), (AV.int .u64 n18)])) ∧
        ∀ (m19 : Nat) (s20 : St),
        (NewO s13 (cellsO [(AV.int .i64 0), (AV.int .u64 0)]) m19 s20) →
        ∃ (s21 : St),
        ((wrN s20 (AV.ptr m19 0) [(AV.int .i64 n17), (AV.int .u64 n18)]) = (some s21)) ∧
        ∃ (n22 : Int),
        ((ld1 s21 (AV.ptr m19 0)) = (some (AV.int .i64 n22))) ∧
        ∃ (n23 : Int),
        ((ld1 s21 (AV.ptr m19 1)) = (some (AV.int .u64 n23))) ∧
        CallsD P F.p_sketch_row_put [x3, (AV.int .i64 n22), (AV.int .u64 n23)] s21 fun x24 s25 =>
        (x24 = (AV.tuple [])) ∧
        ∃ (m26 : Nat),
        (m26 < m14) ∧
        (I10 (IntKind.wrap .i64 (n12 + 1)) s25 m26)
      ) (
        CallsD P F.p_sketch_row_bars [x3] s13 fun x27 s28 =>
        ∃ (x29 : AV),
        (x27 = x29) ∧
        (Q (AV.tuple [x29, (AV.int .i64 0)]) s28)
      )
    )
  )
set_option maxRecDepth 100000 in
theorem vc.sketch_Merge_ok {a0 : AV} {a1 : AV} {s : St} {Q : AV → St → Prop} (h : vc.sketch_Merge a0 a1 s Q) : CallsD P F.sketch_Merge [a0, a1] s Q :=
  fnD_ok (C := C.sketch_Merge) hD hX rfl mixes (fi := fnI Try.f49) (by kernel_rfl) (by kernel_rfl) (cast (by kernel_rfl : vc.sketch_Merge a0 a1 s Q = wpC P C.sketch_Merge 1000000 (fnI Try.f49).body ⟨PT.setAll .nil 0 [a0, a1], max [a0, a1].length (fnI Try.f49).nt, s, []⟩ (endW C.sketch_Merge (fnI Try.f49).results Q)) h)
/-! ### spoor/sketch.laid -/
def C.sketch_laid : Cx := { D := D, rt := rt, its := [], lps := [(0, [10, 35, 27, 26, 25, 24, 23, 22, 21, 20, 19, 18, 17, 16, 15, 14, 2, 3, 28, 29, 30, 31, 32, 33, 34, 5, 12, 13, 7, 11], [5, 10])], det := true }
set_option maxRecDepth 100000 in
def vc.sketch_laid (a0 : AV) (s : St) (Q : (AV → (St → Prop))) : Prop :=
  ∀ (m1 : Nat) (s2 : St),
  (NewO s (cellsO (zcells D T.sketch_row)) m1 s2) →
  slenK a0 fun m3 =>
  ∃ (I4 : (Int → (Int → (St → (Nat → Prop))))),
  (
    ∃ (m5 : Nat),
    (I4 (-1) 0 s2 m5)
  ) ∧
  ∀ (n6 : Int) (n7 : Int) (s8 : St) (m9 : Nat),
  (I4 n6 n7 s8 m9) →
  bsel (decide (n7 < ((m3 : Nat) : Int))) (
    ixsK 2 a0 n7 fun m10 m11 =>
    ∃ (n12 : Int) (n13 : Int),
    ((ldN s8 (AV.ptr m10 m11) 2) = (some [(AV.int .i64 n12), (AV.int .u64 n13)])) ∧
    ∀ (m14 : Nat) (s15 : St),
    (NewO s8 (cellsO [(AV.int .i64 0), (AV.int .u64 0)]) m14 s15) →
    ∃ (s16 : St),
    ((wrN s15 (AV.ptr m14 0) [(AV.int .i64 n12), (AV.int .u64 n13)]) = (some s16)) ∧
    ∃ (n17 : Int),
    ((ld1 s16 (AV.ptr m14 0)) = (some (AV.int .i64 n17))) ∧
    bsel (decide (n17 ≤ n6)) (
      (Q (AV.tuple [AV.nilptr, (AV.bool false)]) s16)
    ) (
      ∃ (n18 : Int),
      ((ld1 s16 (AV.ptr m14 0)) = (some (AV.int .i64 n18))) ∧
      bsel (decide (n18 ≥ 1920)) (
        (Q (AV.tuple [AV.nilptr, (AV.bool false)]) s16)
      ) (
        ∃ (n19 : Int),
        ((ld1 s16 (AV.ptr m14 1)) = (some (AV.int .u64 n19))) ∧
        bsel (n19 == 0) (
          (Q (AV.tuple [AV.nilptr, (AV.bool false)]) s16)
        ) (
          ∀ (s20 : St),
          (Bump s16 9 s20) →
          ∃ (n21 : Int),
          ((ld1 s20 (AV.ptr m14 0)) = (some (AV.int .i64 n21))) ∧
          ∃ (n22 : Int),
          ((ld1 s20 (AV.ptr m14 1)) = (some (AV.int .u64 n22))) ∧
          ∃ (n23 : Int),
          ((ld1 s20 (AV.ptr m14 0)) = (some (AV.int .i64 n23))) ∧
          (0 ≤ n21) ∧
          (n21 < 1920) ∧
          ∃ (s24 : St),
          ((wrN s20 (AV.ptr m1 (0 + (Int.toNat n21))) [(AV.int .u64 n22)]) = (some s24)) ∧
          ((ld1 s24 (AV.ptr m14 0)) = (some (AV.int .i64 n23))) ∧
          ∃ (m25 : Nat),
          (m25 < m9) ∧
          (I4 n23 (IntKind.wrap .i64 (n7 + 1)) s24 m25)
        )
      )
    )
  ) (
    (Q (AV.tuple [(AV.ptr m1 0), (AV.bool true)]) s8)
  )
set_option maxRecDepth 100000 in
theorem vc.sketch_laid_ok {a0 : AV} {s : St} {Q : AV → St → Prop} (h : vc.sketch_laid a0 s Q) : CallsD P F.sketch_laid [a0] s Q :=
  fnD_ok (C := C.sketch_laid) hD hX rfl mixes (fi := fnI Try.f64) (by kernel_rfl) (by kernel_rfl) (cast (by kernel_rfl : vc.sketch_laid a0 s Q = wpC P C.sketch_laid 1000000 (fnI Try.f64).body ⟨PT.setAll .nil 0 [a0], max [a0].length (fnI Try.f64).nt, s, []⟩ (endW C.sketch_laid (fnI Try.f64).results Q)) h)
/-! ### (*spoor/sketch.row).put -/
def C.p_sketch_row_put : Cx := { D := D, rt := rt, its := [], lps := [], det := true }
set_option maxRecDepth 100000 in
def vc.p_sketch_row_put (a0 : AV) (a1 : Int) (a2 : Int) (s : St) (Q : (AV → (St → Prop))) : Prop :=
  ptrK a0 0 fun m1 m2 =>
  (0 ≤ a1) ∧
  (a1 < 1920) ∧
  ∃ (n3 : Int),
  ((ld1 s (AV.ptr m1 (m2 + (Int.toNat a1)))) = (some (AV.int .u64 n3))) ∧
  ∃ (n4 : Int) (n5 : Int),
  ((add64 [(AV.int .u64 n3), (AV.int .u64 a2), (AV.int .u64 0)]) = (some (AV.tuple [(AV.int .u64 n4), (AV.int .u64 n5)]))) ∧
  bsel (decide (n5 > 0)) (
    ptrK a0 0 fun m6 m7 =>
    (0 ≤ a1) ∧
    (a1 < 1920) ∧
    ∃ (s8 : St),
    ((wrN s (AV.ptr m6 (m7 + (Int.toNat a1))) [(AV.int .u64 18446744073709551615)]) = (some s8)) ∧
    (Q (AV.tuple []) s8)
  ) (
    ptrK a0 0 fun m9 m10 =>
    (0 ≤ a1) ∧
    (a1 < 1920) ∧
    ∃ (s11 : St),
    ((wrN s (AV.ptr m9 (m10 + (Int.toNat a1))) [(AV.int .u64 n4)]) = (some s11)) ∧
    (Q (AV.tuple []) s11)
  )
set_option maxRecDepth 100000 in
theorem vc.p_sketch_row_put_ok {a0 : AV} {a1 : Int} {a2 : Int} {s : St} {Q : AV → St → Prop} (h : vc.p_sketch_row_put a0 a1 a2 s Q) : CallsD P F.p_sketch_row_put [a0, .int .i64 a1, .int .u64 a2] s Q :=
  fnD_ok (C := C.p_sketch_row_put) hD hX rfl mixes (fi := fnI Try.f65) (by kernel_rfl) (by kernel_rfl) (cast (by kernel_rfl : vc.p_sketch_row_put a0 a1 a2 s Q = wpC P C.p_sketch_row_put 1000000 (fnI Try.f65).body ⟨PT.setAll .nil 0 [a0, .int .i64 a1, .int .u64 a2], max [a0, .int .i64 a1, .int .u64 a2].length (fnI Try.f65).nt, s, []⟩ (endW C.p_sketch_row_put (fnI Try.f65).results Q)) h)
/-! ### (*spoor/sketch.row).bars -/
def C.p_sketch_row_bars : Cx := { D := D, rt := rt, its := [], lps := [(0, [7, 21, 14, 13, 15, 16, 17, 18, 19, 20, 3, 9, 10, 11, 12, 4, 5, 8], [3, 7])], det := true }
set_option maxRecDepth 100000 in
def vc.p_sketch_row_bars (a0 : AV) (s : St) (Q : (AV → (St → Prop))) : Prop :=
  ∃ (I1 : (AV → (Int → (St → (Nat → Prop))))),
  (
    ∃ (m2 : Nat),
    (I1 AV.nilslice 0 s m2)
  ) ∧
  ∀ (x3 : AV) (n4 : Int) (s5 : St) (m6 : Nat),
  (I1 x3 n4 s5 m6) →
  bsel (decide (n4 < 1920)) (
    ∀ (s7 : St),
    (Bump s5 6 s7) →
    ptrK a0 0 fun m8 m9 =>
    (0 ≤ n4) ∧
    (n4 < 1920) ∧
    ∃ (n10 : Int),
    ((ld1 s7 (AV.ptr m8 (m9 + (Int.toNat n4)))) = (some (AV.int .u64 n10))) ∧
    bsel (decide (n10 > 0)) (
      ∀ (m11 : Nat) (s12 : St),
      (NewO s7 (cellsO [(AV.int .i64 n4), (AV.int .u64 n10)]) m11 s12) →
      ∃ (x13 : AV) (s14 : St),
      ((appendX D s12 T.sl_api_Bar T.sl_api_Bar x3 (AV.slice m11 0 1 (ACap.exact 1))) = (some (x13, s14))) ∧
      ∃ (m15 : Nat),
      (m15 < m6) ∧
      (I1 x13 (IntKind.wrap .i64 (n4 + 1)) s14 m15)
    ) (
      ∃ (m16 : Nat),
      (m16 < m6) ∧
      (I1 x3 (IntKind.wrap .i64 (n4 + 1)) s7 m16)
    )
  ) (
    (Q x3 s5)
  )
set_option maxRecDepth 100000 in
theorem vc.p_sketch_row_bars_ok {a0 : AV} {s : St} {Q : AV → St → Prop} (h : vc.p_sketch_row_bars a0 s Q) : CallsD P F.p_sketch_row_bars [a0] s Q :=
  fnD_ok (C := C.p_sketch_row_bars) hD hX rfl mixes (fi := fnI Try.f66) (by kernel_rfl) (by kernel_rfl) (cast (by kernel_rfl : vc.p_sketch_row_bars a0 s Q = wpC P C.p_sketch_row_bars 1000000 (fnI Try.f66).body ⟨PT.setAll .nil 0 [a0], max [a0].length (fnI Try.f66).nt, s, []⟩ (endW C.p_sketch_row_bars (fnI Try.f66).results Q)) h)
end
end Go.Eng.S

