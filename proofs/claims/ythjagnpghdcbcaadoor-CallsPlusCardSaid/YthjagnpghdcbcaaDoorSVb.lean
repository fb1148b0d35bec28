/-
  What is to be shown of functions of the program, and that it suffices.
-/
import Derived.Test.YthjagnpghdcbcaaDoorSDefs
namespace Go.Eng.S
open Go Go.Eng Go.Proofs
noncomputable section
/-! ### spoor/calls.plus -/
def C.calls_plus : Cx := { D := D, rt := rt, its := [], lps := [] }
set_option maxRecDepth 100000 in
def vc.calls_plus (a0_0 : Int) (a0_1 : Int) (a1_0 : Int) (a1_1 : Int) (s : St) (Q : (AV → (St → Prop))) : Prop :=
  ∀ (m1 : Nat) (s2 : St),
  (NewO s (cellsO [(AV.int .u64 a0_0), (AV.int .u64 a0_1)]) m1 s2) →
  ∀ (m3 : Nat) (s4 : St),
  (NewO s2 (cellsO [(AV.int .u64 a1_0), (AV.int .u64 a1_1)]) m3 s4) →
  ∀ (m5 : Nat) (s6 : St),
  (NewO s4 (cellsO [(AV.int .u64 0), (AV.int .u64 0)]) m5 s6) →
  ∃ (n7 : Int),
  ((ld1 s6 (AV.ptr m1 1)) = (some (AV.int .u64 n7))) ∧
  ∃ (n8 : Int),
  ((ld1 s6 (AV.ptr m3 1)) = (some (AV.int .u64 n8))) ∧
  ∃ (n9 : Int) (n10 : Int),
  ((add64 [(AV.int .u64 n7), (AV.int .u64 n8), (AV.int .u64 0)]) = (some (AV.tuple [(AV.int .u64 n9), (AV.int .u64 n10)]))) ∧
  ∃ (n11 : Int),
  ((ld1 s6 (AV.ptr m1 0)) = (some (AV.int .u64 n11))) ∧
  ∃ (n12 : Int),
  ((ld1 s6 (AV.ptr m3 0)) = (some (AV.int .u64 n12))) ∧
  ∃ (n13 : Int) (n14 : Int),
  ((add64 [(AV.int .u64 n11), (AV.int .u64 n12), (AV.int .u64 n10)]) = (some (AV.tuple [(AV.int .u64 n13), (AV.int .u64 n14)]))) ∧
  bsel (decide (n14 > 0)) (
    ∃ (s15 : St),
    ((wrN s6 (AV.ptr m5 0) [(AV.int .u64 18446744073709551615), (AV.int .u64 18446744073709551615)]) = (some s15)) ∧
    ∃ (n16 : Int) (n17 : Int),
    ((ldN s15 (AV.ptr m5 0) 2) = (some [(AV.int .u64 n16), (AV.int .u64 n17)])) ∧
    (Q (AV.agg [(AV.int .u64 n16), (AV.int .u64 n17)]) s15)
  ) (
    ∃ (s18 : St),
    ((wrN s6 (AV.ptr m5 0) [(AV.int .u64 n13), (AV.int .u64 n9)]) = (some s18)) ∧
    ∃ (n19 : Int) (n20 : Int),
    ((ldN s18 (AV.ptr m5 0) 2) = (some [(AV.int .u64 n19), (AV.int .u64 n20)])) ∧
    (Q (AV.agg [(AV.int .u64 n19), (AV.int .u64 n20)]) s18)
  )
set_option maxRecDepth 100000 in
theorem vc.calls_plus_ok {a0_0 : Int} {a0_1 : Int} {a1_0 : Int} {a1_1 : Int} {s : St} {Q : AV → St → Prop} (h : vc.calls_plus a0_0 a0_1 a1_0 a1_1 s Q) : CallsA P F.calls_plus [.agg [.int .u64 a0_0, .int .u64 a0_1], .agg [.int .u64 a1_0, .int .u64 a1_1]] s Q :=
  fnB_ok (C := C.calls_plus) hD mixes (fi := fnI Tryd.f14) (by kernel_rfl) (by kernel_rfl) (cast (by kernel_rfl : vc.calls_plus a0_0 a0_1 a1_0 a1_1 s Q = wpC P C.calls_plus 1000000 (fnI Tryd.f14).body ⟨PT.setAll .nil 0 [.agg [.int .u64 a0_0, .int .u64 a0_1], .agg [.int .u64 a1_0, .int .u64 a1_1]], max [.agg [.int .u64 a0_0, .int .u64 a0_1], .agg [.int .u64 a1_0, .int .u64 a1_1]].length (fnI Tryd.f14).nt, s, []⟩ (endW C.calls_plus (fnI Tryd.f14).results Q)) h)
/-! ### spoor/calls.Plus -/
def C.calls_Plus : Cx := { D := D, rt := rt, its := [], lps := [] }
set_option maxRecDepth 100000 in
def vc.calls_Plus (a0_0 : Int) (a0_1 : Int) (a0_2 : Int) (a0_3 : Int) (a0_4 : Int) (a0_5 : Int) (a0_6 : AV) (a1_0 : Int) (a1_1 : Int) (a1_2 : Int) (a1_3 : Int) (a1_4 : Int) (a1_5 : Int) (a1_6 : AV) (s : St) (Q : (AV → (St → Prop))) : Prop :=
  ∀ (m1 : Nat) (s2 : St),
  (NewO s (cellsO [(AV.int .u64 a0_0), (AV.int .u64 a0_1), (AV.int .u64 a0_2), (AV.int .u64 a0_3), (AV.int .u64 a0_4), (AV.int .u64 a0_5), a0_6]) m1 s2) →
  ∀ (m3 : Nat) (s4 : St),
  (NewO s2 (cellsO [(AV.int .u64 a1_0), (AV.int .u64 a1_1), (AV.int .u64 a1_2), (AV.int .u64 a1_3), (AV.int .u64 a1_4), (AV.int .u64 a1_5), a1_6]) m3 s4) →
  ∀ (m5 : Nat) (s6 : St),
  (NewO s4 (cellsO [(AV.int .u64 0), (AV.int .u64 0), (AV.int .u64 0), (AV.int .u64 0), (AV.int .u64 0), (AV.int .u64 0), AV.nilslice]) m5 s6) →
  ∃ (x7 : AV),
  ((ld1 s6 (AV.ptr m1 6)) = (some x7)) ∧
  ∃ (x8 : AV),
  ((ld1 s6 (AV.ptr m3 6)) = (some x8)) ∧
  CallsA P F.sketch_Merge [x7, x8] s6 fun x9 s10 =>
  ∃ (x11 : AV) (n12 : Int),
  (x9 = (AV.tuple [x11, (AV.int .i64 n12)])) ∧
  bsel (n12 != 0) (
    ∃ (s13 : St),
    ((wrN s10 (AV.ptr m5 0) [(AV.int .u64 0), (AV.int .u64 0), (AV.int .u64 0), (AV.int .u64 0), (AV.int .u64 0), (AV.int .u64 0), AV.nilslice]) = (some s13)) ∧
    ∃ (n14 : Int) (n15 : Int) (n16 : Int) (n17 : Int) (n18 : Int) (n19 : Int) (x20 : AV),
    ((ldN s13 (AV.ptr m5 0) 7) = (some [(AV.int .u64 n14), (AV.int .u64 n15), (AV.int .u64 n16), (AV.int .u64 n17), (AV.int .u64 n18), (AV.int .u64 n19), x20])) ∧
    (Q (AV.tuple [(AV.agg [(AV.int .u64 n14), (AV.int .u64 n15), (AV.int .u64 n16), (AV.int .u64 n17), (AV.int .u64 n18), (AV.int .u64 n19), x20]), (AV.int .i64 n12)]) s13)
  ) (
    ∀ (s21 : St),
    (Bump s10 19 s21) →
    ∃ (n22 : Int) (n23 : Int),
    ((ldN s21 (AV.ptr m1 0) 2) = (some [(AV.int .u64 n22), (AV.int .u64 n23)])) ∧
    ∃ (n24 : Int) (n25 : Int),
    ((ldN s21 (AV.ptr m3 0) 2) = (some [(AV.int .u64 n24), (AV.int .u64 n25)])) ∧
    ∃ (n26 : Int) (n27 : Int) (s28 : St),
    (
      CallsA P F.calls_plus [(AV.agg [(AV.int .u64 n22), (AV.int .u64 n23)]), (AV.agg [(AV.int .u64 n24), (AV.int .u64 n25)])] s21 fun x29 s30 =>
      (x29 = (AV.agg [(AV.int .u64 n26), (AV.int .u64 n27)])) ∧
      (s30 = s28)
    ) ∧
    ∃ (n31 : Int) (n32 : Int),
    ((ldN s28 (AV.ptr m1 2) 2) = (some [(AV.int .u64 n31), (AV.int .u64 n32)])) ∧
    ((ldN s21 (AV.ptr m1 2) 2) = (some [(AV.int .u64 n31), (AV.int .u64 n32)])) ∧
    ∃ (n33 : Int) (n34 : Int),
    ((ldN s28 (AV.ptr m3 2) 2) = (some [(AV.int .u64 n33), (AV.int .u64 n34)])) ∧
    ((ldN s21 (AV.ptr m3 2) 2) = (some [(AV.int .u64 n33), (AV.int .u64 n34)])) ∧
    ∃ (n35 : Int) (n36 : Int) (s37 : St),
    (
      CallsA P F.calls_plus [(AV.agg [(AV.int .u64 n31), (AV.int .u64 n32)]), (AV.agg [(AV.int .u64 n33), (AV.int .u64 n34)])] s28 fun x38 s39 =>
      (x38 = (AV.agg [(AV.int .u64 n35), (AV.int .u64 n36)])) ∧
      (s39 = s37)
    ) ∧
    ∃ (n40 : Int) (n41 : Int),
    ((ldN s37 (AV.ptr m1 4) 2) = (some [(AV.int .u64 n40), (AV.int .u64 n41)])) ∧
    ((ldN s28 (AV.ptr m1 4) 2) = (some [(AV.int .u64 n40), (AV.int .u64 n41)])) ∧
    ((ldN s21 (AV.ptr m1 4) 2) = (some [(AV.int .u64 n40), (AV.int .u64 n41)])) ∧
    ∃ (n42 : Int) (n43 : Int),
    ((ldN s37 (AV.ptr m3 4) 2) = (some [(AV.int .u64 n42), (AV.int .u64 n43)])) ∧
    ((ldN s28 (AV.ptr m3 4) 2) = (some [(AV.int .u64 n42), (AV.int .u64 n43)])) ∧
    ((ldN s21 (AV.ptr m3 4) 2) = (some [(AV.int .u64 n42), (AV.int .u64 n43)])) ∧
    ∃ (n44 : Int) (n45 : Int) (s46 : St),
    (
      CallsA P F.calls_plus [(AV.agg [(AV.int .u64 n40), (AV.int .u64 n41)]), (AV.agg [(AV.int .u64 n42), (AV.int .u64 n43)])] s37 fun x47 s48 =>
      (x47 = (AV.agg [(AV.int .u64 n44), (AV.int .u64 n45)])) ∧
      (s48 = s46)
    ) ∧
    (oneK x11 (∃ s49 : St, (((wrN s46 (AV.ptr m5 0) [(AV.int .u64 n26), (AV.int .u64 n27), (AV.int .u64 n35), (AV.int .u64 n36), (AV.int .u64 n44), (AV.int .u64 n45), x11]) = (some s49)) ∧ (∃ n50 : Int, (∃ n51 : Int, (∃ n52 : Int, (∃ n53 : Int, (∃ n54 : Int, (∃ n55 : Int, (∃ x56 : AV, (((ldN s49 (AV.ptr m5 0) 7) = (some [(AV.int .u64 n50), (AV.int .u64 n51), (AV.int .u64 n52), (AV.int .u64 n53), (AV.int .u64 n54), (AV.int .u64 n55), x56])) ∧ (Q (AV.tuple [(AV.agg [(AV.int .u64 n50), (AV.int .u64 n51), (AV.int .u64 n52), (AV.int .u64 n53), (AV.int .u64 n54), (AV.int .u64 n55), x56]), (AV.int .i64 0)]) s49))))))))))))
  )
set_option maxRecDepth 100000 in
theorem vc.calls_Plus_ok {a0_0 : Int} {a0_1 : Int} {a0_2 : Int} {a0_3 : Int} {a0_4 : Int} {a0_5 : Int} {a0_6 : AV} {a1_0 : Int} {a1_1 : Int} {a1_2 : Int} {a1_3 : Int} {a1_4 : Int} {a1_5 : Int} {a1_6 : AV} {s : St} {Q : AV → St → Prop} (h : vc.calls_Plus a0_0 a0_1 a0_2 a0_3 a0_4 a0_5 a0_6 a1_0 a1_1 a1_2 a1_3 a1_4 a1_5 a1_6 s Q) : CallsA P F.calls_Plus [.agg [.int .u64 a0_0, .int .u64 a0_1, .int .u64 a0_2, .int .u64 a0_3, .int .u64 a0_4, .int .u64 a0_5, a0_6], .agg [.int .u64 a1_0, .int .u64 a1_1, .int .u64 a1_2, .int .u64 a1_3, .int .u64 a1_4, .int .u64 a1_5, a1_6]] s Q :=
  fnB_ok (C := C.calls_Plus) hD mixes (fi := fnI Tryd.f6) (by kernel_rfl) (by kernel_rfl) (cast (by kernel_rfl : vc.calls_Plus a0_0 a0_1 a0_2 a0_3 a0_4 a0_5 a0_6 a1_0 a1_1 a1_2 a1_3 a1_4 a1_5 a1_6 s Q = wpC P C.calls_Plus 1000000 (fnI Tryd.f6).body ⟨PT.setAll .nil 0 [.agg [.int .u64 a0_0, .int .u64 a0_1, .int .u64 a0_2, .int .u64 a0_3, .int .u64 a0_4, .int .u64 a0_5, a0_6], .agg [.int .u64 a1_0, .int .u64 a1_1, .int .u64 a1_2, .int .u64 a1_3, .int .u64 a1_4, .int .u64 a1_5, a1_6]], max [.agg [.int .u64 a0_0, .int .u64 a0_1, .int .u64 a0_2, .int .u64 a0_3, .int .u64 a0_4, .int .u64 a0_5, a0_6], .agg [.int .u64 a1_0, .int .u64 a1_1, .int .u64 a1_2, .int .u64 a1_3, .int .u64 a1_4, .int .u64 a1_5, a1_6]].length (fnI Tryd.f6).nt, s, []⟩ (endW C.calls_Plus (fnI Tryd.f6).results Q)) h)
end
end Go.Eng.S

