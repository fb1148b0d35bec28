/-
  What is to be shown of functions of the program, and that it suffices.
-/
import Derived.Test.YteidlkjofcbcmaaSDefs
namespace Go.Eng.S
open Go Go.Eng Go.Proofs
noncomputable section
/-! ### spoor/calls.minus -/
def C.calls_minus : Cx := { D := D, rt := rt, its := [], lps := [], det := true }
set_option maxRecDepth 100000 in
def vc.calls_minus (a0_0 : Int) (a0_1 : Int) (a1_0 : Int) (a1_1 : Int) (s : St) (Q : (AV → (St → Prop))) : Prop :=
  ∀ (m1 : Nat) (s2 : St),
  (NewO s (cellsO [(AV.int .u64 a0_0), (AV.int .u64 a0_1)]) m1 s2) →
  ∀ (m3 : Nat) (s4 : St),
  (NewO s2 (cellsO [(AV.int .u64 a1_0), (AV.int .u64 a1_1)]) m3 s4) →
  ∀ (m5 : Nat) (s6 : St),
  (NewO s4 (cellsO [(AV.int .u64 0), (AV.int .u64 0)]) m5 s6) →
  ∃ (n7 : Int),
  ((ld1 s6 (AV.ptr m1 1)) = (some (AV.int .u64 n7))) ∧
  ∃ (n8 : Int),
  ((ld1 s6 (AV.ptr m3 1)) = (some (AV.int .u64 n8))) ∧
  ∃ (n9 : Int) (n10 : Int),
  ((sub64 [(AV.int .u64 n7), (AV.int .u64 n8), (AV.int .u64 0)]) = (some (AV.tuple [(AV.int .u64 n9), (AV.int .u64 n10)]))) ∧
  ∃ (n11 : Int),
  ((ld1 s6 (AV.ptr m1 0)) = (some (AV.int .u64 n11))) ∧
  ∃ (n12 : Int),
  ((ld1 s6 (AV.ptr m3 0)) = (some (AV.int .u64 n12))) ∧
  ∃ (n13 : Int) (n14 : Int),
  ((sub64 [(AV.int .u64 n11), (AV.int .u64 n12), (AV.int .u64 n10)]) = (some (AV.tuple [(AV.int .u64 n13), (AV.int .u64 n14)]))) ∧
  ∃ (s15 : St),
  ((wrN s6 (AV.ptr m5 0) [(AV.int .u64 n13), (AV.int .u64 n9)]) = (some s15)) ∧
  ∃ (n16 : Int) (n17 : Int),
  ((ldN s15 (AV.ptr m5 0) 2) = (some [(AV.int .u64 n16), (AV.int .u64 n17)])) ∧
  (Q (AV.tuple [(AV.agg [(AV.int .u64 n16), (AV.int .u64 n17)]), (AV.bool (n14 == 0))]) s15)
set_option maxRecDepth 100000 in
theorem vc.calls_minus_ok {a0_0 : Int} {a0_1 : Int} {a1_0 : Int} {a1_1 : Int} {s : St} {Q : AV → St → Prop} (h : vc.calls_minus a0_0 a0_1 a1_0 a1_1 s Q) : CallsD P F.calls_minus [.agg [.int .u64 a0_0, .int .u64 a0_1], .agg [.int .u64 a1_0, .int .u64 a1_1]] s Q :=
  fnD_ok (C := C.calls_minus) hD hX rfl mixes (fi := fnI Try.f53) (by kernel_rfl) (by kernel_rfl) (cast (by kernel_rfl : vc.calls_minus a0_0 a0_1 a1_0 a1_1 s Q = wpC P C.calls_minus 1000000 (fnI Try.f53).body ⟨PT.setAll .nil 0 [.agg [.int .u64 a0_0, .int .u64 a0_1], .agg [.int .u64 a1_0, .int .u64 a1_1]], max [.agg [.int .u64 a0_0, .int .u64 a0_1], .agg [.int .u64 a1_0, .int .u64 a1_1]].length (fnI Try.f53).nt, s, []⟩ (endW C.calls_minus (fnI Try.f53).results Q)) h)
/-! ### spoor/calls.plus -/
def C.calls_plus : Cx := { D := D, rt := rt, its := [], lps := [], det := true }
set_option maxRecDepth 100000 in
def vc.calls_plus (a0_0 : Int) (a0_1 : Int) (a1_0 : Int) (a1_1 : Int) (s : St) (Q : (AV → (St → Prop))) : Prop :=
  ∀ (m1 : Nat) (s2 : St),
  (NewO s (cellsO [(AV.int .u64 a0_0), (AV.int .u64 a0_1)]) m1 s2) →
  ∀ (m3 : Nat) (s4 : St),
  (NewO s2 (cellsO [(AV.int .u64 a1_0), (AV.int .u64 a1_1)]) m3 s4) →
  ∀ (m5 : Nat) (s6 : St),
  (NewO s4 (cellsO [(AV.int .u64 0), (AV.int .u64 0)]) m5 s6) →
  ∃ (n7 : Int),
  ((ld1 s6 (AV.ptr m1 1)) = (some (AV.int .u64 n7))) ∧
  ∃ (n8 : Int),
  ((ld1 s6 (AV.ptr m3 1)) = (some (AV.int .u64 n8))) ∧
  ∃ (n9 : Int) (n10 : Int),
  ((add64 [(AV.int .u64 n7), (AV.int .u64 n8), (AV.int .u64 0)]) = (some (AV.tuple [(AV.int .u64 n9), (AV.int .u64 n10)]))) ∧
  ∃ (n11 : Int),
  ((ld1 s6 (AV.ptr m1 0)) = (some (AV.int .u64 n11))) ∧
  ∃ (n12 : Int),
  ((ld1 s6 (AV.ptr m3 0)) = (some (AV.int .u64 n12))) ∧
  ∃ (n13 : Int) (n14 : Int),
  ((add64 [(AV.int .u64 n11), (AV.int .u64 n12), (AV.int .u64 n10)]) = (some (AV.tuple [(AV.int .u64 n13), (AV.int .u64 n14)]))) ∧
  bsel (decide (n14 > 0)) (
    ∃ (s15 : St),
    ((wrN s6 (AV.ptr m5 0) [(AV.int .u64 18446744073709551615), (AV.int .u64 18446744073709551615)]) = (some s15)) ∧
    ∃ (n16 : Int) (n17 : Int),
    ((ldN s15 (AV.ptr m5 0) 2) = (some [(AV.int .u64 n16), (AV.int .u64 n17)])) ∧
    (Q (AV.agg [(AV.int .u64 n16), (AV.int .u64 n17)]) s15)
  ) (
    ∃ (s18 : St),
    ((wrN s6 (AV.ptr m5 0) [(AV.int .u64 n13), (AV.int .u64 n9)]) = (some s18)) ∧
    ∃ (n19 : Int) (n20 : Int),
    ((ldN s18 (AV.ptr m5 0) 2) = (some [(AV.int .u64 n19), (AV.int .u64 n20)])) ∧
    (Q (AV.agg [(AV.int .u64 n19), (AV.int .u64 n20)]) s18)
  )
set_option maxRecDepth 100000 in
theorem vc.calls_plus_ok {a0_0 : Int} {a0_1 : Int} {a1_0 : Int} {a1_1 : Int} {s : St} {Q : AV → St → Prop} (h : vc.calls_plus a0_0 a0_1 a1_0 a1_1 s Q) : CallsD P F.calls_plus [.agg [.int .u64 a0_0, .int .u64 a0_1], .agg [.int .u64 a1_0, .int .u64 a1_1]] s Q :=
  fnD_ok (C := C.calls_plus) hD hX rfl mixes (fi := fnI Try.f50) (by kernel_rfl) (by kernel_rfl) (cast (by kernel_rfl : vc.calls_plus a0_0 a0_1 a1_0 a1_1 s Q = wpC P C.calls_plus 1000000 (fnI Try.f50).body ⟨PT.setAll .nil 0 [.agg [.int .u64 a0_0, .int .u64 a0_1], .agg [.int .u64 a1_0, .int .u64 a1_1]], max [.agg [.int .u64 a0_0, .int .u64 a0_1], .agg [.int .u64 a1_0, .int .u64 a1_1]].length (fnI Try.f50).nt, s, []⟩ (endW C.calls_plus (fnI Try.f50).results Q)) h)
/-! ### spoor/calls.Plus -/
def C.calls_Plus : Cx := { D := D, rt := rt, its := [], lps := [], det := true }
set_option maxRecDepth 100000 in
def vc.calls_Plus (a0_0 : Int) (a0_1 : Int) (a0_2 : Int) (a0_3 : Int) (a0_4 : Int) (a0_5 : Int) (a0_6 : AV) (a1_0 : Int) (a1_1 : Int) (a1_2 : Int) (a1_3 : Int) (a1_4 : Int) (a1_5 : Int) (a1_6 : AV) (s : St) (Q : (AV → (St → Prop))) : Prop :=
  ∀ (m1 : Nat) (s2 : St),
  (NewO s (cellsO [(AV.int .u64 a0_0), (AV.int .u64 a0_1), (AV.int .u64 a0_2), (AV.int .u64 a0_3), (AV.int .u64 a0_4), (AV.int .u64 a0_5), a0_6]) m1 s2) →
  ∀ (m3 : Nat) (s4 : St),
  (NewO s2 (cellsO [(AV.int .u64 a1_0), (AV.int .u64 a1_1), (AV.int .u64 a1_2), (AV.int .u64 a1_3), (AV.int .u64 a1_4), (AV.int .u64 a1_5), a1_6]) m3 s4) →
  ∀ (m5 : Nat) (s6 : St),
  (NewO s4 (cellsO [(AV.int .u64 0), (AV.int .u64 0), (AV.int .u64 0), (AV.int .u64 0), (AV.int .u64 0), (AV.int .u64 0), AV.nilslice]) m5 s6) →
  ∃ (x7 : AV),
  ((ld1 s6 (AV.ptr m1 6)) = (some x7)) ∧
  ∃ (x8 : AV),
  ((ld1 s6 (AV.ptr m3 6)) = (some x8)) ∧
  CallsD P F.sketch_Merge [x7, x8] s6 fun x9 s10 =>
  ∃ (x11 : AV) (n12 : Int),
  (x9 = (AV.tuple [x11, (AV.int .i64 n12)])) ∧
  bsel (n12 != 0) (
    ∃ (s13 : St),
    ((wrN s10 (AV.ptr m5 0) [(AV.int .u64 0), (AV.int .u64 0), (AV.int .u64 0), (AV.int .u64 0), (AV.int .u64 0), (AV.int .u64 0), AV.nilslice]) = (some s13)) ∧
    ∃ (n14 : Int) (n15 : Int) (n16 : Int) (n17 : Int) (n18 : Int) (n19 : Int) (x20 : AV),
    ((ldN s13 (AV.ptr m5 0) 7) = (some [(AV.int .u64 n14), (AV.int .u64 n15), (AV.int .u64 n16), (AV.int .u64 n17), (AV.int .u64 n18), (AV.int .u64 n19), x20])) ∧
    (Q (AV.tuple [(AV.agg [(AV.int .u64 n14), (AV.int .u64 n15), (AV.int .u64 n16), (AV.int .u64 n17), (AV.int .u64 n18), (AV.int .u64 n19), x20]), (AV.int .i64 n12)]) s13)
  ) (
    ∀ (s21 : St),
    (Bump s10 19 s21) →
    ∃ (n22 : Int) (n23 : Int),
    ((ldN s21 (AV.ptr m1 0) 2) = (some [(AV.int .u64 n22), (AV.int .u64 n23)])) ∧
    ∃ (n24 : Int) (n25 : Int),
    ((ldN s21 (AV.ptr m3 0) 2) = (some [(AV.int .u64 n24), (AV.int .u64 n25)])) ∧
    CallsD P F.calls_plus [(AV.agg [(AV.int .u64 n22), (AV.int .u64 n23)]), (AV.agg [(AV.int .u64 n24), (AV.int .u64 n25)])] s21 fun x26 s27 =>
    ∃ (n28 : Int) (n29 : Int),
    (x26 = (AV.agg [(AV.int .u64 n28), (AV.int .u64 n29)])) ∧
    ∃ (n30 : Int) (n31 : Int),
    ((ldN s27 (AV.ptr m1 2) 2) = (some [(AV.int .u64 n30), (AV.int .u64 n31)])) ∧
    ((ldN s21 (AV.ptr m1 2) 2) = (some [(AV.int .u64 n30), (AV.int .u64 n31)])) ∧
    ∃ (n32 : Int) (n33 : Int),
    ((ldN s27 (AV.ptr m3 2) 2) = (some [(AV.int .u64 n32), (AV.int .u64 n33)])) ∧
    ((ldN s21 (AV.ptr m3 2) 2) = (some [(AV.int .u64 n32), (AV.int .u64 n33)])) ∧
    CallsD P F.calls_plus [(AV.agg [(AV.int .u64 n30), (AV.int .u64 n31)]), (AV.agg [(AV.int .u64 n32), (AV.int .u64 n33)])] s27 fun x34 s35 =>
    ∃ (n36 : Int) (n37 : Int),
    (x34 = (AV.agg [(AV.int .u64 n36), (AV.int .u64 n37)])) ∧
    ∃ (n38 : Int) (n39 : Int),
    ((ldN s35 (AV.ptr m1 4) 2) = (some [(AV.int .u64 n38), (AV.int .u64 n39)])) ∧
    ((ldN s27 (AV.ptr m1 4) 2) = (some [(AV.int .u64 n38), (AV.int .u64 n39)])) ∧
    ((ldN s21 (AV.ptr m1 4) 2) = (some [(AV.int .u64 n38), (AV.int .u64 n39)])) ∧
    ∃ (n40 : Int) (n41 : Int),
    ((ldN s35 (AV.ptr m3 4) 2) = (some [(AV.int .u64 n40), (AV.int .u64 n41)])) ∧
    ((ldN s27 (AV.ptr m3 4) 2) = (some [(AV.int .u64 n40), (AV.int .u64 n41)])) ∧
    ((ldN s21 (AV.ptr m3 4) 2) = (some [(AV.int .u64 n40), (AV.int .u64 n41)])) ∧
    CallsD P F.calls_plus [(AV.agg [(AV.int .u64 n38), (AV.int .u64 n39)]), (AV.agg [(AV.int .u64 n40), (AV.int .u64 n41)])] s35 fun x42 s43 =>
    ∃ (n44 : Int) (n45 : Int),
    (x42 = (AV.agg [(AV.int .u64 n44), (AV.int .u64 n45)])) ∧
    (oneK x11 (∃ s46 : St, (((wrN s43 (AV.ptr m5 0) [(AV.int .u64 n28), (AV.int .u64 n29), (AV.int .u64 n36), (AV.int .u64 n37), (AV.int .u64 n44), (AV.int .u64 n45), x11]) = (some s46)) ∧ (∃ n47 : Int, (∃ n48 : Int, (∃ n49 : Int, (∃ n50 : Int, (∃ n51 : Int, (∃ n52 : Int, (∃ x53 : AV, (((ldN s46 (AV.ptr m5 0) 7) = (some [(AV.int .u64 n47), (AV.int .u64 n48), (AV.int .u64 n49), (AV.int .u64 n50), (AV.int .u64 n51), (AV.int .u64 n52), x53])) ∧ (Q (AV.tuple [(AV.agg [(AV.int .u64 n47), (AV.int .u64 n48), (AV.int .u64 n49), (AV.int .u64 n50), (AV.int .u64 n51), (AV.int .u64 n52), x53]), (AV.int .i64 0)]) s46))))))))))))
  )
set_option maxRecDepth 100000 in
theorem vc.calls_Plus_ok {a0_0 : Int} {a0_1 : Int} {a0_2 : Int} {a0_3 : Int} {a0_4 : Int} {a0_5 : Int} {a0_6 : AV} {a1_0 : Int} {a1_1 : Int} {a1_2 : Int} {a1_3 : Int} {a1_4 : Int} {a1_5 : Int} {a1_6 : AV} {s : St} {Q : AV → St → Prop} (h : vc.calls_Plus a0_0 a0_1 a0_2 a0_3 a0_4 a0_5 a0_6 a1_0 a1_1 a1_2 a1_3 a1_4 a1_5 a1_6 s Q) : CallsD P F.calls_Plus [.agg [.int .u64 a0_0, .int .u64 a0_1, .int .u64 a0_2, .int .u64 a0_3, .int .u64 a0_4, .int .u64 a0_5, a0_6], .agg [.int .u64 a1_0, .int .u64 a1_1, .int .u64 a1_2, .int .u64 a1_3, .int .u64 a1_4, .int .u64 a1_5, a1_6]] s Q :=
  fnD_ok (C := C.calls_Plus) hD hX rfl mixes (fi := fnI Try.f33) (by kernel_rfl) (by kernel_rfl) (cast (by kernel_rfl : vc.calls_Plus a0_0 a0_1 a0_2 a0_3 a0_4 a0_5 a0_6 a1_0 a1_1 a1_2 a1_3 a1_4 a1_5 a1_6 s Q = wpC P C.calls_Plus 1000000 (fnI Try.f33).body ⟨PT.setAll .nil 0 [.agg [.int .u64 a0_0, .int .u64 a0_1, .int .u64 a0_2, .int .u64 a0_3, .int .u64 a0_4, .int .u64 a0_5, a0_6], .agg [.int .u64 a1_0, .int .u64 a1_1, .int .u64 a1_2, .int .u64 a1_3, .int .u64 a1_4, .int .u64 a1_5, a1_6]], max [.agg [.int .u64 a0_0, .int .u64 a0_1, .int .u64 a0_2, .int .u64 a0_3, .int .u64 a0_4, .int .u64 a0_5, a0_6], .agg [.int .u64 a1_0, .int .u64 a1_1, .int .u64 a1_2, .int .u64 a1_3, .int .u64 a1_4, .int .u64 a1_5, a1_6]].length (fnI Try.f33).nt, s, []⟩ (endW C.calls_Plus (fnI Try.f33).results Q)) h)
/-! ### spoor/calls.Minus -/
def C.calls_Minus : Cx := { D := D, rt := rt, its := [], lps := [], det := true }
set_option maxRecDepth 100000 in
def vc.calls_Minus (a0_0 : Int) (a0_1 : Int) (a0_2 : Int) (a0_3 : Int) (a0_4 : Int) (a0_5 : Int) (a0_6 : AV) (a1_0 : Int) (a1_1 : Int) (a1_2 : Int) (a1_3 : Int) (a1_4 : Int) (a1_5 : Int) (a1_6 : AV) (s : St) (Q : (AV → (St → Prop))) : Prop :=
  ∀ (m1 : Nat) (s2 : St),
  (NewO s (cellsO [(AV.int .u64 a0_0), (AV.int .u64 a0_1), (AV.int .u64 a0_2), (AV.int .u64 a0_3), (AV.int .u64 a0_4), (AV.int .u64 a0_5), a0_6]) m1 s2) →
  ∀ (m3 : Nat) (s4 : St),
  (NewO s2 (cellsO [(AV.int .u64 a1_0), (AV.int .u64 a1_1), (AV.int .u64 a1_2), (AV.int .u64 a1_3), (AV.int .u64 a1_4), (AV.int .u64 a1_5), a1_6]) m3 s4) →
  ∀ (m5 : Nat) (s6 : St),
  (NewO s4 (cellsO [(AV.int .u64 0), (AV.int .u64 0), (AV.int .u64 0), (AV.int .u64 0), (AV.int .u64 0), (AV.int .u64 0), AV.nilslice]) m5 s6) →
  ∃ (x7 : AV),
  ((ld1 s6 (AV.ptr m1 6)) = (some x7)) ∧
  CallsD P F.sketch_Check [x7] s6 fun x8 s9 =>
  ∃ (n10 : Int),
  (x8 = (AV.int .i64 n10)) ∧
  bsel (n10 != 0) (
    ∃ (s11 : St),
    ((wrN s9 (AV.ptr m5 0) [(AV.int .u64 0), (AV.int .u64 0), (AV.int .u64 0), (AV.int .u64 0), (AV.int .u64 0), (AV.int .u64 0), AV.nilslice]) = (some s11)) ∧
    ∃ (n12 : Int) (n13 : Int) (n14 : Int) (n15 : Int) (n16 : Int) (n17 : Int) (x18 : AV),
    ((ldN s11 (AV.ptr m5 0) 7) = (some [(AV.int .u64 n12), (AV.int .u64 n13), (AV.int .u64 n14), (AV.int .u64 n15), (AV.int .u64 n16), (AV.int .u64 n17), x18])) ∧
    (Q (AV.tuple [(AV.agg [(AV.int .u64 n12), (AV.int .u64 n13), (AV.int .u64 n14), (AV.int .u64 n15), (AV.int .u64 n16), (AV.int .u64 n17), x18]), (AV.int .i64 131)]) s11)
  ) (
    ∃ (x19 : AV),
    ((ld1 s9 (AV.ptr m3 6)) = (some x19)) ∧
    CallsD P F.sketch_Check [x19] s9 fun x20 s21 =>
    ∃ (n22 : Int),
    (x20 = (AV.int .i64 n22)) ∧
    bsel (n22 != 0) (
      ∃ (s23 : St),
      ((wrN s21 (AV.ptr m5 0) [(AV.int .u64 0), (AV.int .u64 0), (AV.int .u64 0), (AV.int .u64 0), (AV.int .u64 0), (AV.int .u64 0), AV.nilslice]) = (some s23)) ∧
      ∃ (n24 : Int) (n25 : Int) (n26 : Int) (n27 : Int) (n28 : Int) (n29 : Int) (x30 : AV),
      ((ldN s23 (AV.ptr m5 0) 7) = (some [(AV.int .u64 n24), (AV.int .u64 n25), (AV.int .u64 n26), (AV.int .u64 n27), (AV.int .u64 n28), (AV.int .u64 n29), x30])) ∧
      (Q (AV.tuple [(AV.agg [(AV.int .u64 n24), (AV.int .u64 n25), (AV.int .u64 n26), (AV.int .u64 n27), (AV.int .u64 n28), (AV.int .u64 n29), x30]), (AV.int .i64 131)]) s23)
    ) (
      ∃ (n31 : Int) (n32 : Int),
      ((ldN s21 (AV.ptr m1 0) 2) = (some [(AV.int .u64 n31), (AV.int .u64 n32)])) ∧
      ∃ (n33 : Int) (n34 : Int),
      ((ldN s21 (AV.ptr m3 0) 2) = (some [(AV.int .u64 n33), (AV.int .u64 n34)])) ∧
      CallsD P F.calls_minus [(AV.agg [(AV.int .u64 n31), (AV.int .u64 n32)]), (AV.agg [(AV.int .u64 n33), (AV.int .u64 n34)])] s21 fun x35 s36 =>
      ∃ (n37 : Int) (n38 : Int) (c39 : Bool),
      (x35 = (AV.tuple [(AV.agg [(AV.int .u64 n37), (AV.int .u64 n38)]), (AV.bool c39)])) ∧
      ∀ (m40 : Nat) (s41 : St),
      (NewO s36 (cellsO [(AV.int .u64 0), (AV.int .u64 0)]) m40 s41) →
      ∃ (s42 : St),
      ((wrN s41 (AV.ptr m40 0) [(AV.int .u64 n37), (AV.int .u64 n38)]) = (some s42)) ∧
      ∃ (n43 : Int) (n44 : Int),
      ((ldN s42 (AV.ptr m1 2) 2) = (some [(AV.int .u64 n43), (AV.int .u64 n44)])) ∧
      ∃ (n45 : Int) (n46 : Int),
      ((ldN s42 (AV.ptr m3 2) 2) = (some [(AV.int .u64 n45), (AV.int .u64 n46)])) ∧
      CallsD P F.calls_minus [(AV.agg [(AV.int .u64 n43), (AV.int .u64 n44)]), (AV.agg [(AV.int .u64 n45), (AV.int .u64 n46)])] s42 fun x47 s48 =>
      ∃ (n49 : Int) (n50 : Int) (c51 : Bool),
      (x47 = (AV.tuple [(AV.agg [(AV.int .u64 n49), (AV.int .u64 n50)]), (AV.bool c51)])) ∧
      ∀ (m52 : Nat) (s53 : St),
      (NewO s48 (cellsO [(AV.int .u64 0), (AV.int .u64 0)]) m52 s53) →
      ∃ (s54 : St),
      ((wrN s53 (AV.ptr m52 0) [(AV.int .u64 n49), (AV.int .u64 n50)]) = (some s54)) ∧
      ∃ (n55 : Int) (n56 : Int),
      ((ldN s54 (AV.ptr m1 4) 2) = (some [(AV.int .u64 n55), (AV.int .u64 n56)])) ∧
      ∃ (n57 : Int) (n58 : Int),
      ((ldN s54 (AV.ptr m3 4) 2) = (some [(AV.int .u64 n57), (AV.int .u64 n58)])) ∧
      CallsD P F.calls_minus [(AV.agg [(AV.int .u64 n55), (AV.int .u64 n56)]), (AV.agg [(AV.int .u64 n57), (AV.int .u64 n58)])] s54 fun x59 s60 =>
      ∃ (n61 : Int) (n62 : Int) (c63 : Bool),
      (x59 = (AV.tuple [(AV.agg [(AV.int .u64 n61), (AV.int .u64 n62)]), (AV.bool c63)])) ∧
      ∀ (m64 : Nat) (s65 : St),
      (NewO s60 (cellsO [(AV.int .u64 0), (AV.int .u64 0)]) m64 s65) →
      ∃ (s66 : St),
      ((wrN s65 (AV.ptr m64 0) [(AV.int .u64 n61), (AV.int .u64 n62)]) = (some s66)) ∧
      ∃ (x67 : AV),
      ((ld1 s66 (AV.ptr m1 6)) = (some x67)) ∧
      ∃ (x68 : AV),
      ((ld1 s66 (AV.ptr m3 6)) = (some x68)) ∧
      CallsD P F.sketch_Less [x67, x68] s66 fun x69 s70 =>
      ∃ (x71 : AV) (n72 : Int),
      (x69 = (AV.tuple [x71, (AV.int .i64 n72)])) ∧
      bsel (!c39) (
        ∃ (s73 : St),
        ((wrN s70 (AV.ptr m5 0) [(AV.int .u64 0), (AV.int .u64 0), (AV.int .u64 0), (AV.int .u64 0), (AV.int .u64 0), (AV.int .u64 0), AV.nilslice]) = (some s73)) ∧
        ∃ (n74 : Int) (n75 : Int) (n76 : Int) (n77 : Int) (n78 : Int) (n79 : Int) (x80 : AV),
        ((ldN s73 (AV.ptr m5 0) 7) = (some [(AV.int .u64 n74), (AV.int .u64 n75), (AV.int .u64 n76), (AV.int .u64 n77), (AV.int .u64 n78), (AV.int .u64 n79), x80])) ∧
        (Q (AV.tuple [(AV.agg [(AV.int .u64 n74), (AV.int .u64 n75), (AV.int .u64 n76), (AV.int .u64 n77), (AV.int .u64 n78), (AV.int .u64 n79), x80]), (AV.int .i64 141)]) s73)
      ) (
        bsel (!c51) (
          ∃ (s81 : St),
          ((wrN s70 (AV.ptr m5 0) [(AV.int .u64 0), (AV.int .u64 0), (AV.int .u64 0), (AV.int .u64 0), (AV.int .u64 0), (AV.int .u64 0), AV.nilslice]) = (some s81)) ∧
          ∃ (n82 : Int) (n83 : Int) (n84 : Int) (n85 : Int) (n86 : Int) (n87 : Int) (x88 : AV),
          ((ldN s81 (AV.ptr m5 0) 7) = (some [(AV.int .u64 n82), (AV.int .u64 n83), (AV.int .u64 n84), (AV.int .u64 n85), (AV.int .u64 n86), (AV.int .u64 n87), x88])) ∧
          (Q (AV.tuple [(AV.agg [(AV.int .u64 n82), (AV.int .u64 n83), (AV.int .u64 n84), (AV.int .u64 n85), (AV.int .u64 n86), (AV.int .u64 n87), x88]), (AV.int .i64 141)]) s81)
        ) (
          bsel (!c63) (
            ∃ (s89 : St),
            ((wrN s70 (AV.ptr m5 0) [(AV.int .u64 0), (AV.int .u64 0), (AV.int .u64 0), (AV.int .u64 0), (AV.int .u64 0), (AV.int .u64 0), AV.nilslice]) = (some s89)) ∧
            ∃ (n90 : Int) (n91 : Int) (n92 : Int) (n93 : Int) (n94 : Int) (n95 : Int) (x96 : AV),
            ((ldN s89 (AV.ptr m5 0) 7) = (some [(AV.int .u64 n90), (AV.int .u64 n91), (AV.int .u64 n92), (AV.int .u64 n93), (AV.int .u64 n94), (AV.int .u64 n95), x96])) ∧
            (Q (AV.tuple [(AV.agg [(AV.int .u64 n90), (AV.int .u64 n91), (AV.int .u64 n92), (AV.int .u64 n93), (AV.int .u64 n94), (AV.int .u64 n95), x96]), (AV.int .i64 141)]) s89)
          ) (
            bsel (n72 != 0) (
              ∃ (s97 : St),
              ((wrN s70 (AV.ptr m5 0) [(AV.int .u64 0), (AV.int .u64 0), (AV.int .u64 0), (AV.int .u64 0), (AV.int .u64 0), (AV.int .u64 0), AV.nilslice]) = (some s97)) ∧
              ∃ (n98 : Int) (n99 : Int) (n100 : Int) (n101 : Int) (n102 : Int) (n103 : Int) (x104 : AV),
              ((ldN s97 (AV.ptr m5 0) 7) = (some [(AV.int .u64 n98), (AV.int .u64 n99), (AV.int .u64 n100), (AV.int .u64 n101), (AV.int .u64 n102), (AV.int .u64 n103), x104])) ∧
              (Q (AV.tuple [(AV.agg [(AV.int .u64 n98), (AV.int .u64 n99), (AV.int .u64 n100), (AV.int .u64 n101), (AV.int .u64 n102), (AV.int .u64 n103), x104]), (AV.int .i64 141)]) s97)
            ) (
              ∃ (n105 : Int) (n106 : Int),
              ((ldN s70 (AV.ptr m40 0) 2) = (some [(AV.int .u64 n105), (AV.int .u64 n106)])) ∧
              ∃ (n107 : Int) (n108 : Int),
              ((ldN s70 (AV.ptr m52 0) 2) = (some [(AV.int .u64 n107), (AV.int .u64 n108)])) ∧
              ∃ (n109 : Int) (n110 : Int),
              ((ldN s70 (AV.ptr m64 0) 2) = (some [(AV.int .u64 n109), (AV.int .u64 n110)])) ∧
              (oneK x71 (∃ s111 : St, (((wrN s70 (AV.ptr m5 0) [(AV.int .u64 n105), (AV.int .u64 n106), (AV.int .u64 n107), (AV.int .u64 n108), (AV.int .u64 n109), (AV.int .u64 n110), x71]) = (some s111)) ∧ (∃ n112 : Int, (∃ n113 : Int, (∃ n114 : Int, (∃ n115 : Int, (∃ n116 : Int, (∃ n117 : Int, (∃ x118 : AV, (((ldN s111 (AV.ptr m5 0) 7) = (some [(AV.int .u64 n112), (AV.int .u64 n113), (AV.int .u64 n114), (AV.int .u64 n115), (AV.int .u64 n116), (AV.int .u64 n117), x118])) ∧ (Q (AV.tuple [(AV.agg [(AV.int .u64 n112), (AV.int .u64 n113), (AV.int .u64 n114), (AV.int .u64 n115), (AV.int .u64 n116), (AV.int .u64 n117), x118]), (AV.int .i64 0)]) s111))))))))))))
            )
          )
        )
      )
    )
  )
set_option maxRecDepth 100000 in
theorem vc.calls_Minus_ok {a0_0 : Int} {a0_1 : Int} {a0_2 : Int} {a0_3 : Int} {a0_4 : Int} {a0_5 : Int} {a0_6 : AV} {a1_0 : Int} {a1_1 : Int} {a1_2 : Int} {a1_3 : Int} {a1_4 : Int} {a1_5 : Int} {a1_6 : AV} {s : St} {Q : AV → St → Prop} (h : vc.calls_Minus a0_0 a0_1 a0_2 a0_3 a0_4 a0_5 a0_6 a1_0 a1_1 a1_2 a1_3 a1_4 a1_5 a1_6 s Q) : CallsD P F.calls_Minus [.agg [.int .u64 a0_0, .int .u64 a0_1, .int .u64 a0_2, .int .u64 a0_3, .int .u64 a0_4, .int .u64 a0_5, a0_6], .agg [.int .u64 a1_0, .int .u64 a1_1, .int .u64 a1_2, .int .u64 a1_3, .int .u64 a1_4, .int .u64 a1_5, a1_6]] s Q :=
  fnD_ok (C := C.calls_Minus) hD hX rfl mixes (fi := fnI Try.f35) (by kernel_rfl) (by kernel_rfl) (cast (by kernel_rfl : vc.calls_Minus a0_0 a0_1 a0_2 a0_3 a0_4 a0_5 a0_6 a1_0 a1_1 a1_2 a1_3 a1_4 a1_5 a1_6 s Q = wpC P C.calls_Minus 1000000 (fnI Try.f35).body ⟨PT.setAll .nil 0 [.agg [.int .u64 a0_0, .int .u64 a0_1, .int .u64 a0_2, .int .u64 a0_3, .int .u64 a0_4, .int .u64 a0_5, a0_6], .agg [.int .u64 a1_0, .int .u64 a1_1, .int .u64 a1_2, .int .u64 a1_3, .int .u64 a1_4, .int .u64 a1_5, a1_6]], max [.agg [.int .u64 a0_0, .int .u64 a0_1, .int .u64 a0_2, .int .u64 a0_3, .int .u64 a0_4, .int .u64 a0_5, a0_6], .agg [.int .u64 a1_0, .int .u64 a1_1, .int .u64 a1_2, .int .u64 a1_3, .int .u64 a1_4, .int .u64 a1_5, a1_6]].length (fnI Try.f35).nt, s, []⟩ (endW C.calls_Minus (fnI Try.f35).results Q)) h)
end
end Go.Eng.S

