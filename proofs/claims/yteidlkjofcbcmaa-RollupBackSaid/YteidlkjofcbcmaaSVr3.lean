/-
  What is to be shown of functions of the program, and that it suffices.
-/
import Derived.Test.YteidlkjofcbcmaaSDefs
namespace Go.Eng.S
open Go Go.Eng Go.Proofs
noncomputable section
/-! ### spoor/spoorref15.EdgeLess -/
/-! ### spoor/spoorref15.Copy -/
/-! ### spoor/spoorref15.with -/
/-! ### spoor/spoorref15.Sum -/
/-! ### spoor/spoorref15.SameTally -/
def C.spoorref15_SameTally : Cx := { D := D, rt := rt, its := [], lps := [(0, [51, 50, 49, 48, 47, 46, 45, 44, 43, 42, 41, 4, 39, 40, 5, 34, 35, 36, 37, 38], [5])], det := true }
set_option maxRecDepth 100000 in
def vc.spoorref15_SameTally (a0_0 : Int) (a0_1 : Int) (a0_2 : Int) (a0_3 : Int) (a0_4 : Int) (a0_5 : Int) (a0_6 : AV) (a1_0 : Int) (a1_1 : Int) (a1_2 : Int) (a1_3 : Int) (a1_4 : Int) (a1_5 : Int) (a1_6 : AV) (s : St) (Q : (AV → (St → Prop))) : Prop :=
  ∀ (m1 : Nat) (s2 : St),
  (NewO s (cellsO [(AV.int .u64 a0_0), (AV.int .u64 a0_1), (AV.int .u64 a0_2), (AV.int .u64 a0_3), (AV.int .u64 a0_4), (AV.int .u64 a0_5), a0_6]) m1 s2) →
  ∀ (m3 : Nat) (s4 : St),
  (NewO s2 (cellsO [(AV.int .u64 a1_0), (AV.int .u64 a1_1), (AV.int .u64 a1_2), (AV.int .u64 a1_3), (AV.int .u64 a1_4), (AV.int .u64 a1_5), a1_6]) m3 s4) →
  ∃ (n5 : Int) (n6 : Int),
  ((ldN s4 (AV.ptr m1 0) 2) = (some [(AV.int .u64 n5), (AV.int .u64 n6)])) ∧
  ∃ (n7 : Int) (n8 : Int),
  ((ldN s4 (AV.ptr m3 0) 2) = (some [(AV.int .u64 n7), (AV.int .u64 n8)])) ∧
  bsel (if (false = true) then ((n5 == n7) && ((n6 == n8) && true)) else (! ((n5 == n7) && ((n6 == n8) && true)))) (
    (Q (AV.bool false) s4)
  ) (
    ∃ (n9 : Int) (n10 : Int),
    ((ldN s4 (AV.ptr m1 2) 2) = (some [(AV.int .u64 n9), (AV.int .u64 n10)])) ∧
    ∃ (n11 : Int) (n12 : Int),
    ((ldN s4 (AV.ptr m3 2) 2) = (some [(AV.int .u64 n11), (AV.int .u64 n12)])) ∧
    bsel (if (false = true) then ((n9 == n11) && ((n10 == n12) && true)) else (! ((n9 == n11) && ((n10 == n12) && true)))) (
      (Q (AV.bool false) s4)
    ) (
      ∃ (n13 : Int) (n14 : Int),
      ((ldN s4 (AV.ptr m1 4) 2) = (some [(AV.int .u64 n13), (AV.int .u64 n14)])) ∧
      ∃ (n15 : Int) (n16 : Int),
      ((ldN s4 (AV.ptr m3 4) 2) = (some [(AV.int .u64 n15), (AV.int .u64 n16)])) ∧
      bsel (if (false = true) then ((n13 == n15) && ((n14 == n16) && true)) else (! ((n13 == n15) && ((n14 == n16) && true)))) (
        (Q (AV.bool false) s4)
      ) (
        ∃ (x17 : AV),
        ((ld1 s4 (AV.ptr m1 6)) = (some x17)) ∧
        slenK x17 fun m18 =>
        ∃ (x19 : AV),
        ((ld1 s4 (AV.ptr m3 6)) = (some x19)) ∧
        slenK x19 fun m20 =>
        bsel (((m18 : Nat) : Int) != ((m20 : Nat) : Int)) (
          (Q (AV.bool false) s4)
        ) (
          ∃ (I21 : (Int → (St → (Nat → Prop)))),
          (
            ∃ (m22 : Nat),
            (I21 0 s4 m22)
          ) ∧
          ∀ (n23 : Int) (s24 : St) (m25 : Nat),
          (I21 n23 s24 m25) →
          ∃ (x26 : AV),
          ((ld1 s24 (AV.ptr m1 6)) = (some x26)) ∧
          slenK x26 fun m27 =>
          bsel (decide (n23 < ((m27 : Nat) : Int))) (
            ∀ (s28 : St),
            (Bump s24 11 s28) →
            ∃ (x29 : AV),
            ((ld1 s28 (AV.ptr m1 6)) = (some x29)) ∧
            ixsK 2 x29 n23 fun m30 m31 =>
            ∃ (n32 : Int) (n33 : Int),
            ((ldN s28 (AV.ptr m30 m31) 2) = (some [(AV.int .i64 n32), (AV.int .u64 n33)])) ∧
            ∃ (x34 : AV),
            ((ld1 s28 (AV.ptr m3 6)) = (some x34)) ∧
            ixsK 2 x34 n23 fun m35 m36 =>
            ∃ (n37 : Int) (n38 : Int),
            ((ldN s28 (AV.ptr m35 m36) 2) = (some [(AV.int .i64 n37), (AV.int .u64 n38)])) ∧
            bsel (if (false = true) then ((n32 == n37) && ((n33 == n38) && true)) else (! ((n32 == n37) && ((n33 == n38) && true)))) (
              (Q (AV.bool false) s28)
            ) (
              ∃ (m39 : Nat),
              (m39 < m25) ∧
              (I21 (IntKind.wrap .i64 (n23 + 1)) s28 m39)
            )
          ) (
            (Q (AV.bool true) s24)
          )
        )
      )
    )
  )
set_option maxRecDepth 100000 in
theorem vc.spoorref15_SameTally_ok {a0_0 : Int} {a0_1 : Int} {a0_2 : Int} {a0_3 : Int} {a0_4 : Int} {a0_5 : Int} {a0_6 : AV} {a1_0 : Int} {a1_1 : Int} {a1_2 : Int} {a1_3 : Int} {a1_4 : Int} {a1_5 : Int} {a1_6 : AV} {s : St} {Q : AV → St → Prop} (h : vc.spoorref15_SameTally a0_0 a0_1 a0_2 a0_3 a0_4 a0_5 a0_6 a1_0 a1_1 a1_2 a1_3 a1_4 a1_5 a1_6 s Q) : CallsD P F.spoorref15_SameTally [.agg [.int .u64 a0_0, .int .u64 a0_1, .int .u64 a0_2, .int .u64 a0_3, .int .u64 a0_4, .int .u64 a0_5, a0_6], .agg [.int .u64 a1_0, .int .u64 a1_1, .int .u64 a1_2, .int .u64 a1_3, .int .u64 a1_4, .int .u64 a1_5, a1_6]] s Q :=
  fnD_ok (C := C.spoorref15_SameTally) hD hX rfl mixes (fi := fnI Try.f23) (by kernel_rfl) (by kernel_rfl) (cast (by kernel_rfl : vc.spoorref15_SameTally a0_0 a0_1 a0_2 a0_3 a0_4 a0_5 a0_6 a1_0 a1_1 a1_2 a1_3 a1_4 a1_5 a1_6 s Q = wpC P C.spoorref15_SameTally 1000000 (fnI Try.f23).body ⟨PT.setAll .nil 0 [.agg [.int .u64 a0_0, .int .u64 a0_1, .int .u64 a0_2, .int .u64 a0_3, .int .u64 a0_4, .int .u64 a0_5, a0_6], .agg [.int .u64 a1_0, .int .u64 a1_1, .int .u64 a1_2, .int .u64 a1_3, .int .u64 a1_4, .int .u64 a1_5, a1_6]], max [.agg [.int .u64 a0_0, .int .u64 a0_1, .int .u64 a0_2, .int .u64 a0_3, .int .u64 a0_4, .int .u64 a0_5, a0_6], .agg [.int .u64 a1_0, .int .u64 a1_1, .int .u64 a1_2, .int .u64 a1_3, .int .u64 a1_4, .int .u64 a1_5, a1_6]].length (fnI Try.f23).nt, s, []⟩ (endW C.spoorref15_SameTally (fnI Try.f23).results Q)) h)
/-! ### spoor/spoorref15.SameEdges -/
def C.spoorref15_SameEdges : Cx := { D := D, rt := rt, its := [], lps := [(0, [41, 40, 39, 38, 37, 36, 35, 34, 33, 32, 31, 30, 29, 28, 27, 26, 25, 24, 23, 22, 21, 20, 19, 18, 17, 4, 15, 16, 5, 11, 12, 13, 14], [5])], det := true }
set_option maxRecDepth 100000 in
def vc.spoorref15_SameEdges (a0 : AV) (a1 : AV) (s : St) (Q : (AV → (St → Prop))) : Prop :=
  slenK a0 fun m1 =>
  slenK a1 fun m2 =>
  bsel (((m1 : Nat) : Int) != ((m2 : Nat) : Int)) (
    (Q (AV.bool false) s)
  ) (
    ∃ (I3 : (Int → (St → (Nat → Prop)))),
    (
      ∃ (m4 : Nat),
      (I3 0 s m4)
    ) ∧
    ∀ (n5 : Int) (s6 : St) (m7 : Nat),
    (I3 n5 s6 m7) →
    slenK a0 fun m8 =>
    bsel (decide (n5 < ((m8 : Nat) : Int))) (
      ∀ (s9 : St),
      (Bump s6 25 s9) →
      ixsK 9 a0 n5 fun m10 m11 =>
      ∃ (t12 : ByteArray) (t13 : ByteArray),
      ((ldN s9 (AV.ptr m10 m11) 2) = (some [(AV.str t12), (AV.str t13)])) ∧
      ixsK 9 a1 n5 fun m14 m15 =>
      ∃ (t16 : ByteArray) (t17 : ByteArray),
      ((ldN s9 (AV.ptr m14 m15) 2) = (some [(AV.str t16), (AV.str t17)])) ∧
      bsel (if (false = true) then ((bytesEq (Array.toList (ByteArray.data t12)) (Array.toList (ByteArray.data t16))) && ((bytesEq (Array.toList (ByteArray.data t13)) (Array.toList (ByteArray.data t17))) && true)) else (! ((bytesEq (Array.toList (ByteArray.data t12)) (Array.toList (ByteArray.data t16))) && ((bytesEq (Array.toList (ByteArray.data t13)) (Array.toList (ByteArray.data t17))) && true)))) (
        (Q (AV.bool false) s9)
      ) (
        ixsK 9 a0 n5 fun m18 m19 =>
        ∃ (n20 : Int) (n21 : Int) (n22 : Int) (n23 : Int) (n24 : Int) (n25 : Int) (x26 : AV),
        ((ldN s9 (AV.ptr m18 (m19 + 2)) 7) = (some [(AV.int .u64 n20), (AV.int .u64 n21), (AV.int .u64 n22), (AV.int .u64 n23), (AV.int .u64 n24), (AV.int .u64 n25), x26])) ∧
        ixsK 9 a1 n5 fun m27 m28 =>
        ∃ (n29 : Int) (n30 : Int) (n31 : Int) (n32 : Int) (n33 : Int) (n34 : Int) (x35 : AV),
        ((ldN s9 (AV.ptr m27 (m28 + 2)) 7) = (some [(AV.int .u64 n29), (AV.int .u64 n30), (AV.int .u64 n31), (AV.int .u64 n32), (AV.int .u64 n33), (AV.int .u64 n34), x35])) ∧
        CallsD P F.spoorref15_SameTally [(AV.agg [(AV.int .u64 n20), (AV.int .u64 n21), (AV.int .u64 n22), (AV.int .u64 n23), (AV.int .u64 n24), (AV.int .u64 n25), x26]), (AV.agg [(AV.int .u64 n29), (AV.int .u64 n30), (AV.int .u64 n31), (AV.int .u64 n32), (AV.int .u64 n33), (AV.int .u64 n34), x35])] s9 fun x36 s37 =>
        ∃ (c38 : Bool),
        (x36 = (AV.bool c38)) ∧
        bsel (!c38) (
          (Q (AV.bool false) s37)
        ) (
          ∃ (m39 : Nat),
          (m39 < m7) ∧
          (I3 (IntKind.wrap .i64 (n5 + 1)) s37 m39)
        )
      )
    ) (
      (Q (AV.bool true) s6)
    )
  )
set_option maxRecDepth 100000 in
theorem vc.spoorref15_SameEdges_ok {a0 : AV} {a1 : AV} {s : St} {Q : AV → St → Prop} (h : vc.spoorref15_SameEdges a0 a1 s Q) : CallsD P F.spoorref15_SameEdges [a0, a1] s Q :=
  fnD_ok (C := C.spoorref15_SameEdges) hD hX rfl mixes (fi := fnI Try.f13) (by kernel_rfl) (by kernel_rfl) (cast (by kernel_rfl : vc.spoorref15_SameEdges a0 a1 s Q = wpC P C.spoorref15_SameEdges 1000000 (fnI Try.f13).body ⟨PT.setAll .nil 0 [a0, a1], max [a0, a1].length (fnI Try.f13).nt, s, []⟩ (endW C.spoorref15_SameEdges (fnI Try.f13).results Q)) h)
end
end Go.Eng.S

