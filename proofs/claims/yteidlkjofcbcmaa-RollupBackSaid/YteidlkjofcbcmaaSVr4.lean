/-
  What is to be shown of functions of the program, and that it suffices.
-/
import Derived.Test.YteidlkjofcbcmaaSDefs
namespace Go.Eng.S
open Go Go.Eng Go.Proofs
noncomputable section
/-! ### spoor/spoorlaw15.filled -/
def C.spoorlaw15_filled : Cx := { D := D, rt := rt, its := [], lps := [(0, [41, 40, 39, 38, 37, 36, 35, 34, 33, 32, 31, 30, 29, 28, 27, 26, 25, 23, 24, 7, 15, 16, 17, 18, 19, 20, 21, 22], [7])], det := true }
set_option maxRecDepth 100000 in
def vc.spoorlaw15_filled (a0 : Int) (a1 : AV) (s : St) (Q : (AV → (St → Prop))) : Prop :=
  CallsD P F.rollup_New [(AV.int .i64 a0)] s fun x1 s2 =>
  ∃ (x3 : AV) (n4 : Int),
  (x1 = (AV.tuple [x3, (AV.int .i64 n4)])) ∧
  bsel (n4 != 0) (
    (Q AV.nilptr s2)
  ) (
    ∃ (I5 : (Int → (St → (Nat → Prop)))),
    (
      ∃ (m6 : Nat),
      (I5 0 s2 m6)
    ) ∧
    ∀ (n7 : Int) (s8 : St) (m9 : Nat),
    (I5 n7 s8 m9) →
    slenK a1 fun m10 =>
    bsel (decide (n7 < ((m10 : Nat) : Int))) (
      nilK (TD.ptr 83) x3 false fun c11 =>
      bsel c11 (
        ∀ (s12 : St),
        (Bump s8 17 s12) →
        ixsK 10 a1 n7 fun m13 m14 =>
        ∃ (n15 : Int),
        ((ld1 s12 (AV.ptr m13 m14)) = (some (AV.int .i64 n15))) ∧
        ixsK 10 a1 n7 fun m16 m17 =>
        ∃ (t18 : ByteArray) (t19 : ByteArray),
        ((ldN s12 (AV.ptr m16 (m17 + 1)) 2) = (some [(AV.str t18), (AV.str t19)])) ∧
        ixsK 10 a1 n7 fun m20 m21 =>
        ∃ (n22 : Int) (n23 : Int) (n24 : Int) (n25 : Int) (n26 : Int) (n27 : Int) (x28 : AV),
        ((ldN s12 (AV.ptr m20 (m21 + 3)) 7) = (some [(AV.int .u64 n22), (AV.int .u64 n23), (AV.int .u64 n24), (AV.int .u64 n25), (AV.int .u64 n26), (AV.int .u64 n27), x28])) ∧
        CallsD P F.p_rollup_Rollup_Put [x3, (AV.int .i64 n15), (AV.agg [(AV.str t18), (AV.str t19)]), (AV.agg [(AV.int .u64 n22), (AV.int .u64 n23), (AV.int .u64 n24), (AV.int .u64 n25), (AV.int .u64 n26), (AV.int .u64 n27), x28])] s12 fun x29 s30 =>
        ∃ (n31 : Int),
        (x29 = (AV.int .i64 n31)) ∧
        ∃ (m32 : Nat),
        (m32 < m9) ∧
        (I5 (IntKind.wrap .i64 (n7 + 1)) s30 m32)
      ) (
        (Q x3 s8)
      )
    ) (
      (Q x3 s8)
    )
  )
set_option maxRecDepth 100000 in
theorem vc.spoorlaw15_filled_ok {a0 : Int} {a1 : AV} {s : St} {Q : AV → St → Prop} (h : vc.spoorlaw15_filled a0 a1 s Q) : CallsD P F.spoorlaw15_filled [.int .i64 a0, a1] s Q :=
  fnD_ok (C := C.spoorlaw15_filled) hD hX rfl mixes (fi := fnI Try.f10) (by kernel_rfl) (by kernel_rfl) (cast (by kernel_rfl : vc.spoorlaw15_filled a0 a1 s Q = wpC P C.spoorlaw15_filled 1000000 (fnI Try.f10).body ⟨PT.setAll .nil 0 [.int .i64 a0, a1], max [.int .i64 a0, a1].length (fnI Try.f10).nt, s, []⟩ (endW C.spoorlaw15_filled (fnI Try.f10).results Q)) h)
/-! ### spoor/spoorref14.One -/
/-! ### spoor/spoorref13.Index -/
/-! ### spoor/spoorlaw15.RollupCalls -/
end
end Go.Eng.S

