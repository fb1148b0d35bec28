/-
  What is to be shown of functions of the program, and that it suffices.
-/
import Derived.Test.YthjagnpghdcbcaaDoorSDefs
namespace Go.Eng.S
open Go Go.Eng Go.Proofs
noncomputable section
/-! ### spoor/spoorref13.Check -/
def C.spoorref13_Check : Cx := { D := D, rt := rt, its := [], lps := [(0, [49, 48, 47, 46, 45, 44, 43, 42, 41, 40, 39, 38, 37, 36, 35, 34, 33, 32, 31, 30, 29, 28, 27, 26, 25, 24, 23, 22, 21, 20, 19, 18, 17, 16, 15, 14, 13, 12, 11, 10, 2, 8, 9, 3, 4, 5, 6, 7], [3])] }
set_option maxRecDepth 100000 in
def vc.spoorref13_Check (a0 : AV) (s : St) (Q : (AV → (St → Prop))) : Prop :=
  ∃ (I1 : (Int → (St → (Nat → Prop)))),
  (
    ∃ (m2 : Nat),
    (I1 0 s m2)
  ) ∧
  ∀ (n3 : Int) (s4 : St) (m5 : Nat),
  (I1 n3 s4 m5) →
  slenK a0 fun m6 =>
  bsel (decide (n3 < ((m6 : Nat) : Int))) (
    ∀ (s7 : St),
    (Bump s4 40 s7) →
    ixsK 2 a0 n3 fun m8 m9 =>
    ∃ (n10 : Int),
    ((ld1 s7 (AV.ptr m8 m9)) = (some (AV.int .i64 n10))) ∧
    bsel (decide (n10 < 0)) (
      (Q (AV.int .i64 131) s7)
    ) (
      ixsK 2 a0 n3 fun m11 m12 =>
      ∃ (n13 : Int),
      ((ld1 s7 (AV.ptr m11 m12)) = (some (AV.int .i64 n13))) ∧
      bsel (decide (n13 ≥ 1920)) (
        (Q (AV.int .i64 131) s7)
      ) (
        ixsK 2 a0 n3 fun m14 m15 =>
        ∃ (n16 : Int),
        ((ld1 s7 (AV.ptr m14 (m15 + 1))) = (some (AV.int .u64 n16))) ∧
        bsel (n16 == 0) (
          (Q (AV.int .i64 131) s7)
        ) (
          bsel (decide (n3 > 0)) (
            ixsK 2 a0 n3 fun m17 m18 =>
            ∃ (n19 : Int),
            ((ld1 s7 (AV.ptr m17 m18)) = (some (AV.int .i64 n19))) ∧
            ixsK 2 a0 (IntKind.wrap .i64 (n3 - 1)) fun m20 m21 =>
            ∃ (n22 : Int),
            ((ld1 s7 (AV.ptr m20 m21)) = (some (AV.int .i64 n22))) ∧
            bsel (decide (n19 ≤ n22)) (
              (Q (AV.int .i64 131) s7)
            ) (
              ∃ (m23 : Nat),
              (m23 < m5) ∧
              (I1 (IntKind.wrap .i64 (n3 + 1)) s7 m23)
            )
          ) (
            ∃ (m24 : Nat),
            (m24 < m5) ∧
            (I1 (IntKind.wrap .i64 (n3 + 1)) s7 m24)
          )
        )
      )
    )
  ) (
    (Q (AV.int .i64 0) s4)
  )
set_option maxRecDepth 100000 in
theorem vc.spoorref13_Check_ok {a0 : AV} {s : St} {Q : AV → St → Prop} (h : vc.spoorref13_Check a0 s Q) : CallsA P F.spoorref13_Check [a0] s Q :=
  fnB_ok (C := C.spoorref13_Check) hD mixes (fi := fnI Tryd.f12) (by kernel_rfl) (by kernel_rfl) (cast (by kernel_rfl : vc.spoorref13_Check a0 s Q = wpC P C.spoorref13_Check 1000000 (fnI Tryd.f12).body ⟨PT.setAll .nil 0 [a0], max [a0].length (fnI Tryd.f12).nt, s, []⟩ (endW C.spoorref13_Check (fnI Tryd.f12).results Q)) h)
/-! ### spoor/spoorlaw14.sameBars -/
def C.spoorlaw14_sameBars : Cx := { D := D, rt := rt, its := [], lps := [(0, [25, 24, 23, 22, 21, 20, 19, 18, 17, 4, 15, 16, 5, 11, 12, 13, 14], [5])] }
set_option maxRecDepth 100000 in
def vc.spoorlaw14_sameBars (a0 : AV) (a1 : AV) (s : St) (Q : (AV → (St → Prop))) : Prop :=
  slenK a0 fun m1 =>
  slenK a1 fun m2 =>
  bsel (((m1 : Nat) : Int) != ((m2 : Nat) : Int)) (
    (Q (AV.bool false) s)
  ) (
    ∃ (I3 : (Int → (St → (Nat → Prop)))),
    (
      ∃ (m4 : Nat),
      (I3 0 s m4)
    ) ∧
    ∀ (n5 : Int) (s6 : St) (m7 : Nat),
    (I3 n5 s6 m7) →
    slenK a0 fun m8 =>
    bsel (decide (n5 < ((m8 : Nat) : Int))) (
      ∀ (s9 : St),
      (Bump s6 9 s9) →
      ixsK 2 a0 n5 fun m10 m11 =>
      ∃ (n12 : Int) (n13 : Int),
      ((ldN s9 (AV.ptr m10 m11) 2) = (some [(AV.int .i64 n12), (AV.int .u64 n13)])) ∧
      ixsK 2 a1 n5 fun m14 m15 =>
      ∃ (n16 : Int) (n17 : Int),
      ((ldN s9 (AV.ptr m14 m15) 2) = (some [(AV.int .i64 n16), (AV.int .u64 n17)])) ∧
      bsel (if (false = true) then ((n12 == n16) && ((n13 == n17) && true)) else (! ((n12 == n16) && ((n13 == n17) && true)))) (
        (Q (AV.bool false) s9)
      ) (
        ∃ (m18 : Nat),
        (m18 < m7) ∧
        (I3 (IntKind.wrap .i64 (n5 + 1)) s9 m18)
      )
    ) (
      (Q (AV.bool true) s6)
    )
  )
set_option maxRecDepth 100000 in
theorem vc.spoorlaw14_sameBars_ok {a0 : AV} {a1 : AV} {s : St} {Q : AV → St → Prop} (h : vc.spoorlaw14_sameBars a0 a1 s Q) : CallsA P F.spoorlaw14_sameBars [a0, a1] s Q :=
  fnB_ok (C := C.spoorlaw14_sameBars) hD mixes (fi := fnI Tryd.f15) (by kernel_rfl) (by kernel_rfl) (cast (by kernel_rfl : vc.spoorlaw14_sameBars a0 a1 s Q = wpC P C.spoorlaw14_sameBars 1000000 (fnI Tryd.f15).body ⟨PT.setAll .nil 0 [a0, a1], max [a0, a1].length (fnI Tryd.f15).nt, s, []⟩ (endW C.spoorlaw14_sameBars (fnI Tryd.f15).results Q)) h)
/-! ### spoor/spoorlaw14.sameTally -/
def C.spoorlaw14_sameTally : Cx := { D := D, rt := rt, its := [], lps := [] }
set_option maxRecDepth 100000 in
def vc.spoorlaw14_sameTally (a0_0 : Int) (a0_1 : Int) (a0_2 : Int) (a0_3 : Int) (a0_4 : Int) (a0_5 : Int) (a0_6 : AV) (a1_0 : Int) (a1_1 : Int) (a1_2 : Int) (a1_3 : Int) (a1_4 : Int) (a1_5 : Int) (a1_6 : AV) (s : St) (Q : (AV → (St → Prop))) : Prop :=
  ∀ (m1 : Nat) (s2 : St),
  (NewO s (cellsO [(AV.int .u64 a0_0), (AV.int .u64 a0_1), (AV.int .u64 a0_2), (AV.int .u64 a0_3), (AV.int .u64 a0_4), (AV.int .u64 a0_5), a0_6]) m1 s2) →
  ∀ (m3 : Nat) (s4 : St),
  (NewO s2 (cellsO [(AV.int .u64 a1_0), (AV.int .u64 a1_1), (AV.int .u64 a1_2), (AV.int .u64 a1_3), (AV.int .u64 a1_4), (AV.int .u64 a1_5), a1_6]) m3 s4) →
  ∃ (x5 : AV),
  ((ld1 s4 (AV.ptr m1 6)) = (some x5)) ∧
  ∃ (x6 : AV),
  ((ld1 s4 (AV.ptr m3 6)) = (some x6)) ∧
  CallsA P F.spoorlaw14_sameBars [x5, x6] s4 fun x7 s8 =>
  ∃ (c9 : Bool),
  (x7 = (AV.bool c9)) ∧
  bsel c9 (
    ∃ (n10 : Int) (n11 : Int),
    ((ldN s8 (AV.ptr m1 0) 2) = (some [(AV.int .u64 n10), (AV.int .u64 n11)])) ∧
    ∃ (n12 : Int) (n13 : Int),
    ((ldN s8 (AV.ptr m3 0) 2) = (some [(AV.int .u64 n12), (AV.int .u64 n13)])) ∧
    bsel (if (true = true) then ((n10 == n12) && ((n11 == n13) && true)) else (! ((n10 == n12) && ((n11 == n13) && true)))) (
      ∃ (n14 : Int) (n15 : Int),
      ((ldN s8 (AV.ptr m1 2) 2) = (some [(AV.int .u64 n14), (AV.int .u64 n15)])) ∧
      ∃ (n16 : Int) (n17 : Int),
      ((ldN s8 (AV.ptr m3 2) 2) = (some [(AV.int .u64 n16), (AV.int .u64 n17)])) ∧
      bsel (if (true = true) then ((n14 == n16) && ((n15 == n17) && true)) else (! ((n14 == n16) && ((n15 == n17) && true)))) (
        ∃ (n18 : Int) (n19 : Int),
        ((ldN s8 (AV.ptr m1 4) 2) = (some [(AV.int .u64 n18), (AV.int .u64 n19)])) ∧
        ∃ (n20 : Int) (n21 : Int),
        ((ldN s8 (AV.ptr m3 4) 2) = (some [(AV.int .u64 n20), (AV.int .u64 n21)])) ∧
        (Q (AV.bool (if (true = true) then ((n18 == n20) && ((n19 == n21) && true)) else (! ((n18 == n20) && ((n19 == n21) && true))))) s8)
      ) (
        (Q (AV.bool false) s8)
      )
    ) (
      (Q (AV.bool false) s8)
    )
  ) (
    (Q (AV.bool false) s8)
  )
set_option maxRecDepth 100000 in
theorem vc.spoorlaw14_sameTally_ok {a0_0 : Int} {a0_1 : Int} {a0_2 : Int} {a0_3 : Int} {a0_4 : Int} {a0_5 : Int} {a0_6 : AV} {a1_0 : Int} {a1_1 : Int} {a1_2 : Int} {a1_3 : Int} {a1_4 : Int} {a1_5 : Int} {a1_6 : AV} {s : St} {Q : AV → St → Prop} (h : vc.spoorlaw14_sameTally a0_0 a0_1 a0_2 a0_3 a0_4 a0_5 a0_6 a1_0 a1_1 a1_2 a1_3 a1_4 a1_5 a1_6 s Q) : CallsA P F.spoorlaw14_sameTally [.agg [.int .u64 a0_0, .int .u64 a0_1, .int .u64 a0_2, .int .u64 a0_3, .int .u64 a0_4, .int .u64 a0_5, a0_6], .agg [.int .u64 a1_0, .int .u64 a1_1, .int .u64 a1_2, .int .u64 a1_3, .int .u64 a1_4, .int .u64 a1_5, a1_6]] s Q :=
  fnB_ok (C := C.spoorlaw14_sameTally) hD mixes (fi := fnI Tryd.f7) (by kernel_rfl) (by kernel_rfl) (cast (by kernel_rfl : vc.spoorlaw14_sameTally a0_0 a0_1 a0_2 a0_3 a0_4 a0_5 a0_6 a1_0 a1_1 a1_2 a1_3 a1_4 a1_5 a1_6 s Q = wpC P C.spoorlaw14_sameTally 1000000 (fnI Tryd.f7).body ⟨PT.setAll .nil 0 [.agg [.int .u64 a0_0, .int .u64 a0_1, .int .u64 a0_2, .int .u64 a0_3, .int .u64 a0_4, .int .u64 a0_5, a0_6], .agg [.int .u64 a1_0, .int .u64 a1_1, .int .u64 a1_2, .int .u64 a1_3, .int .u64 a1_4, .int .u64 a1_5, a1_6]], max [.agg [.int .u64 a0_0, .int .u64 a0_1, .int .u64 a0_2, .int .u64 a0_3, .int .u64 a0_4, .int .u64 a0_5, a0_6], .agg [.int .u64 a1_0, .int .u64 a1_1, .int .u64 a1_2, .int .u64 a1_3, .int .u64 a1_4, .int .u64 a1_5, a1_6]].length (fnI Tryd.f7).nt, s, []⟩ (endW C.spoorlaw14_sameTally (fnI Tryd.f7).results Q)) h)
/-! ### spoor/spoorlaw14.may -/
def C.spoorlaw14_may : Cx := { D := D, rt := rt, its := [], lps := [] }
set_option maxRecDepth 100000 in
def vc.spoorlaw14_may (a0_0 : Int) (a0_1 : Int) (a0_2 : Int) (a0_3 : Int) (a0_4 : Int) (a0_5 : Int) (a0_6 : AV) (s : St) (Q : (AV → (St → Prop))) : Prop :=
  ∀ (m1 : Nat) (s2 : St),
  (NewO s (cellsO [(AV.int .u64 a0_0), (AV.int .u64 a0_1), (AV.int .u64 a0_2), (AV.int .u64 a0_3), (AV.int .u64 a0_4), (AV.int .u64 a0_5), a0_6]) m1 s2) →
  ∃ (x3 : AV),
  ((ld1 s2 (AV.ptr m1 6)) = (some x3)) ∧
  CallsA P F.spoorref13_Check [x3] s2 fun x4 s5 =>
  ∃ (n6 : Int),
  (x4 = (AV.int .i64 n6)) ∧
  (Q (AV.bool (n6 == 0)) s5)
set_option maxRecDepth 100000 in
theorem vc.spoorlaw14_may_ok {a0_0 : Int} {a0_1 : Int} {a0_2 : Int} {a0_3 : Int} {a0_4 : Int} {a0_5 : Int} {a0_6 : AV} {s : St} {Q : AV → St → Prop} (h : vc.spoorlaw14_may a0_0 a0_1 a0_2 a0_3 a0_4 a0_5 a0_6 s Q) : CallsA P F.spoorlaw14_may [.agg [.int .u64 a0_0, .int .u64 a0_1, .int .u64 a0_2, .int .u64 a0_3, .int .u64 a0_4, .int .u64 a0_5, a0_6]] s Q :=
  fnB_ok (C := C.spoorlaw14_may) hD mixes (fi := fnI Tryd.f5) (by kernel_rfl) (by kernel_rfl) (cast (by kernel_rfl : vc.spoorlaw14_may a0_0 a0_1 a0_2 a0_3 a0_4 a0_5 a0_6 s Q = wpC P C.spoorlaw14_may 1000000 (fnI Tryd.f5).body ⟨PT.setAll .nil 0 [.agg [.int .u64 a0_0, .int .u64 a0_1, .int .u64 a0_2, .int .u64 a0_3, .int .u64 a0_4, .int .u64 a0_5, a0_6]], max [.agg [.int .u64 a0_0, .int .u64 a0_1, .int .u64 a0_2, .int .u64 a0_3, .int .u64 a0_4, .int .u64 a0_5, a0_6]].length (fnI Tryd.f5).nt, s, []⟩ (endW C.spoorlaw14_may (fnI Tryd.f5).results Q)) h)
end
end Go.Eng.S

