/-
  What is to be shown of functions of the program, and that it suffices.
-/
import Derived.Test.YteidlkjofcbcmaaSDefs
namespace Go.Eng.S
open Go Go.Eng Go.Proofs
noncomputable section
/-! ### spoor/spoorref13.Check -/
def C.spoorref13_Check : Cx := { D := D, rt := rt, its := [], lps := [(0, [49, 48, 47, 46, 45, 44, 43, 42, 41, 40, 39, 38, 37, 36, 35, 34, 33, 32, 31, 30, 29, 28, 27, 26, 25, 24, 23, 22, 21, 20, 19, 18, 17, 16, 15, 14, 13, 12, 11, 10, 2, 8, 9, 3, 4, 5, 6, 7], [3])], det := true }
set_option maxRecDepth 100000 in
def vc.spoorref13_Check (a0 : AV) (s : St) (Q : (AV → (St → Prop))) : Prop :=
  ∃ (I1 : (Int → (St → (Nat → Prop)))),
  (
    ∃ (m2 : Nat),
    (I1 0 s m2)
  ) ∧
  ∀ (n3 : Int) (s4 : St) (m5 : Nat),
  (I1 n3 s4 m5) →
  slenK a0 fun m6 =>
  bsel (decide (n3 < ((m6 : Nat) : Int))) (
    ∀ (s7 : St),
    (Bump s4 40 s7) →
    ixsK 2 a0 n3 fun m8 m9 =>
    ∃ (n10 : Int),
    ((ld1 s7 (AV.ptr m8 m9)) = (some (AV.int .i64 n10))) ∧
    bsel (decide (n10 < 0)) (
      (Q (AV.int .i64 131) s7)
    ) (
      ixsK 2 a0 n3 fun m11 m12 =>
      ∃ (n13 : Int),
      ((ld1 s7 (AV.ptr m11 m12)) = (some (AV.int .i64 n13))) ∧
      bsel (decide (n13 ≥ 1920)) (
        (Q (AV.int .i64 131) s7)
      ) (
        ixsK 2 a0 n3 fun m14 m15 =>
        ∃ (n16 : Int),
        ((ld1 s7 (AV.ptr m14 (m15 + 1))) = (some (AV.int .u64 n16))) ∧
        bsel (n16 == 0) (
          (Q (AV.int .i64 131) s7)
        ) (
          bsel (decide (n3 > 0)) (
            ixsK 2 a0 n3 fun m17 m18 =>
            ∃ (n19 : Int),
            ((ld1 s7 (AV.ptr m17 m18)) = (some (AV.int .i64 n19))) ∧
            ixsK 2 a0 (IntKind.wrap .i64 (n3 - 1)) fun m20 m21 =>
            ∃ (n22 : Int),
            ((ld1 s7 (AV.ptr m20 m21)) = (some (AV.int .i64 n22))) ∧
            bsel (decide (n19 ≤ n22)) (
              (Q (AV.int .i64 131) s7)
            ) (
              ∃ (m23 : Nat),
              (m23 < m5) ∧
              (I1 (IntKind.wrap .i64 (n3 + 1)) s7 m23)
            )
          ) (
            ∃ (m24 : Nat),
            (m24 < m5) ∧
            (I1 (IntKind.wrap .i64 (n3 + 1)) s7 m24)
          )
        )
      )
    )
  ) (
    (Q (AV.int .i64 0) s4)
  )
set_option maxRecDepth 100000 in
theorem vc.spoorref13_Check_ok {a0 : AV} {s : St} {Q : AV → St → Prop} (h : vc.spoorref13_Check a0 s Q) : CallsD P F.spoorref13_Check [a0] s Q :=
  fnD_ok (C := C.spoorref13_Check) hD hX rfl mixes (fi := fnI Try.f91) (by kernel_rfl) (by kernel_rfl) (cast (by kernel_rfl : vc.spoorref13_Check a0 s Q = wpC P C.spoorref13_Check 1000000 (fnI Try.f91).body ⟨PT.setAll .nil 0 [a0], max [a0].length (fnI Try.f91).nt, s, []⟩ (endW C.spoorref13_Check (fnI Try.f91).results Q)) h)
end
end Go.Eng.S

