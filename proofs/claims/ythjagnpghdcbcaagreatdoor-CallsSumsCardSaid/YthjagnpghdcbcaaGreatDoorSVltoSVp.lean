/-
  What is to be shown of functions of the program, and that it suffices.
  What is to be shown of functions of the program, and that it suffices.
  What is to be shown of functions of the program, and that it suffices.
-/
import Derived.Test.YthjagnpghdcbcaaGreatDoorSDefs
namespace Go.Eng.S
open Go Go.Eng Go.Proofs
noncomputable section
end
end Go.Eng.S

namespace Go.Eng.S
open Go Go.Eng Go.Proofs
noncomputable section
end
end Go.Eng.S

namespace Go.Eng.S
open Go Go.Eng Go.Proofs
noncomputable section
def C.spoorref14_Plus : Cx := { D := D, rt := rt, its := [], lps := [], det := true }
set_option maxRecDepth 100000 in
def vc.spoorref14_Plus (a0_0 : Int) (a0_1 : Int) (a0_2 : Int) (a0_3 : Int) (a0_4 : Int) (a0_5 : Int) (a0_6 : AV) (a1_0 : Int) (a1_1 : Int) (a1_2 : Int) (a1_3 : Int) (a1_4 : Int) (a1_5 : Int) (a1_6 : AV) (s : St) (Q : (AV → (St → Prop))) : Prop :=
 ∀ (m1 : Nat) (s2 : St),
 (NewO s (cellsO [(AV.int .u64 a0_0), (AV.int .u64 a0_1), (AV.int .u64 a0_2), (AV.int .u64 a0_3), (AV.int .u64 a0_4), (AV.int .u64 a0_5), a0_6]) m1 s2) →
 ∀ (m3 : Nat) (s4 : St),
 (NewO s2 (cellsO [(AV.int .u64 a1_0), (AV.int .u64 a1_1), (AV.int .u64 a1_2), (AV.int .u64 a1_3), (AV.int .u64 a1_4), (AV.int .u64 a1_5), a1_6]) m3 s4) →
 ∀ (m5 : Nat) (s6 : St),
 (NewO s4 (cellsO [(AV.int .u64 0), (AV.int .u64 0), (AV.int .u64 0), (AV.int .u64 0), (AV.int .u64 0), (AV.int .u64 0), AV.nilslice]) m5 s6) →
 ∃ (x7 : AV),
 ((ld1 s6 (AV.ptr m1 6)) = (some x7)) ∧
 ∃ (x8 : AV),
 ((ld1 s6 (AV.ptr m3 6)) = (some x8)) ∧
 CallsD P F.spoorref13_Merge [x7, x8] s6 fun x9 s10 =>
 ∃ (x11 : AV) (n12 : Int),
 (x9 = (AV.tuple [x11, (AV.int .i64 n12)])) ∧
 bsel (n12 != 0) (
  ∃ (s13 : St),
  ((wrN s10 (AV.ptr m5 0) [(AV.int .u64 0), (AV.int .u64 0), (AV.int .u64 0), (AV.int .u64 0), (AV.int .u64 0), (AV.int .u64 0), AV.nilslice]) = (some s13)) ∧
  ∃ (n14 : Int) (n15 : Int) (n16 : Int) (n17 : Int) (n18 : Int) (n19 : Int) (x20 : AV),
  ((ldN s13 (AV.ptr m5 0) 7) = (some [(AV.int .u64 n14), (AV.int .u64 n15), (AV.int .u64 n16), (AV.int .u64 n17), (AV.int .u64 n18), (AV.int .u64 n19), x20])) ∧
  (Q (AV.tuple [(AV.agg [(AV.int .u64 n14), (AV.int .u64 n15), (AV.int .u64 n16), (AV.int .u64 n17), (AV.int .u64 n18), (AV.int .u64 n19), x20]), (AV.int .i64 n12)]) s13)
 ) (
  ∀ (s21 : St),
  (Bump s10 19 s21) →
  ∃ (n22 : Int) (n23 : Int),
  ((ldN s21 (AV.ptr m1 0) 2) = (some [(AV.int .u64 n22), (AV.int .u64 n23)])) ∧
  ∃ (n24 : Int) (n25 : Int),
  ((ldN s21 (AV.ptr m3 0) 2) = (some [(AV.int .u64 n24), (AV.int .u64 n25)])) ∧
  CallsD P F.spoorref14_Add [(AV.agg [(AV.int .u64 n22), (AV.int .u64 n23)]), (AV.agg [(AV.int .u64 n24), (AV.int .u64 n25)])] s21 fun x26 s27 =>
  ∃ (n28 : Int) (n29 : Int),
  (x26 = (AV.agg [(AV.int .u64 n28), (AV.int .u64 n29)])) ∧
  ∃ (n30 : Int) (n31 : Int),
  ((ldN s27 (AV.ptr m1 2) 2) = (some [(AV.int .u64 n30), (AV.int .u64 n31)])) ∧
  ((ldN s21 (AV.ptr m1 2) 2) = (some [(AV.int .u64 n30), (AV.int .u64 n31)])) ∧
  ∃ (n32 : Int) (n33 : Int),
  ((ldN s27 (AV.ptr m3 2) 2) = (some [(AV.int .u64 n32), (AV.int .u64 n33)])) ∧
  ((ldN s21 (AV.ptr m3 2) 2) = (some [(AV.int .u64 n32), (AV.int .u64 n33)])) ∧
  CallsD P F.spoorref14_Add [(AV.agg [(AV.int .u64 n30), (AV.int .u64 n31)]), (AV.agg [(AV.int .u64 n32), (AV.int .u64 n33)])] s27 fun x34 s35 =>
  ∃ (n36 : Int) (n37 : Int),
  (x34 = (AV.agg [(AV.int .u64 n36), (AV.int .u64 n37)])) ∧
  ∃ (n38 : Int) (n39 : Int),
  ((ldN s35 (AV.ptr m1 4) 2) = (some [(AV.int .u64 n38), (AV.int .u64 n39)])) ∧
  ((ldN s27 (AV.ptr m1 4) 2) = (some [(AV.int .u64 n38), (AV.int .u64 n39)])) ∧
  ((ldN s21 (AV.ptr m1 4) 2) = (some [(AV.int .u64 n38), (AV.int .u64 n39)])) ∧
  ∃ (n40 : Int) (n41 : Int),
  ((ldN s35 (AV.ptr m3 4) 2) = (some [(AV.int .u64 n40), (AV.int .u64 n41)])) ∧
  ((ldN s27 (AV.ptr m3 4) 2) = (some [(AV.int .u64 n40), (AV.int .u64 n41)])) ∧
  ((ldN s21 (AV.ptr m3 4) 2) = (some [(AV.int .u64 n40), (AV.int .u64 n41)])) ∧
  CallsD P F.spoorref14_Add [(AV.agg [(AV.int .u64 n38), (AV.int .u64 n39)]), (AV.agg [(AV.int .u64 n40), (AV.int .u64 n41)])] s35 fun x42 s43 =>
  ∃ (n44 : Int) (n45 : Int),
  (x42 = (AV.agg [(AV.int .u64 n44), (AV.int .u64 n45)])) ∧
  (oneK x11 (∃ s46 : St, (((wrN s43 (AV.ptr m5 0) [(AV.int .u64 n28), (AV.int .u64 n29), (AV.int .u64 n36), (AV.int .u64 n37), (AV.int .u64 n44), (AV.int .u64 n45), x11]) = (some s46)) ∧ (∃ n47 : Int, (∃ n48 : Int, (∃ n49 : Int, (∃ n50 : Int, (∃ n51 : Int, (∃ n52 : Int, (∃ x53 : AV, (((ldN s46 (AV.ptr m5 0) 7) = (some [(AV.int .u64 n47), (AV.int .u64 n48), (AV.int .u64 n49), (AV.int .u64 n50), (AV.int .u64 n51), (AV.int .u64 n52), x53])) ∧ (Q (AV.tuple [(AV.agg [(AV.int .u64 n47), (AV.int .u64 n48), (AV.int .u64 n49), (AV.int .u64 n50), (AV.int .u64 n51), (AV.int .u64 n52), x53]), (AV.int .i64 0)]) s46))))))))))))
 )
set_option maxRecDepth 100000 in
theorem vc.spoorref14_Plus_ok {a0_0 : Int} {a0_1 : Int} {a0_2 : Int} {a0_3 : Int} {a0_4 : Int} {a0_5 : Int} {a0_6 : AV} {a1_0 : Int} {a1_1 : Int} {a1_2 : Int} {a1_3 : Int} {a1_4 : Int} {a1_5 : Int} {a1_6 : AV} {s : St} {Q : AV → St → Prop} (h : vc.spoorref14_Plus a0_0 a0_1 a0_2 a0_3 a0_4 a0_5 a0_6 a1_0 a1_1 a1_2 a1_3 a1_4 a1_5 a1_6 s Q) : CallsD P F.spoorref14_Plus [.agg [.int .u64 a0_0, .int .u64 a0_1, .int .u64 a0_2, .int .u64 a0_3, .int .u64 a0_4, .int .u64 a0_5, a0_6], .agg [.int .u64 a1_0, .int .u64 a1_1, .int .u64 a1_2, .int .u64 a1_3, .int .u64 a1_4, .int .u64 a1_5, a1_6]] s Q :=
 fnD_ok (C := C.spoorref14_Plus) hD hX rfl mixes (fi := fnI Tryz.f12) (by kernel_rfl) (by kernel_rfl) (cast (by kernel_rfl : vc.spoorref14_Plus a0_0 a0_1 a0_2 a0_3 a0_4 a0_5 a0_6 a1_0 a1_1 a1_2 a1_3 a1_4 a1_5 a1_6 s Q = wpC P C.spoorref14_Plus 1000000 (fnI Tryz.f12).body ⟨PT.setAll .nil 0 [.agg [.int .u64 a0_0, .int .u64 a0_1, .int .u64 a0_2, .int .u64 a0_3, .int .u64 a0_4, .int .u64 a0_5, a0_6], .agg [.int .u64 a1_0, .int .u64 a1_1, .int .u64 a1_2, .int .u64 a1_3, .int .u64 a1_4, .int .u64 a1_5, a1_6]], max [.agg [.int .u64 a0_0, .int .u64 a0_1, .int .u64 a0_2, .int .u64 a0_3, .int .u64 a0_4, .int .u64 a0_5, a0_6], .agg [.int .u64 a1_0, .int .u64 a1_1, .int .u64 a1_2, .int .u64 a1_3, .int .u64 a1_4, .int .u64 a1_5, a1_6]].length (fnI Tryz.f12).nt, s, []⟩ (endW C.spoorref14_Plus (fnI Tryz.f12).results Q)) h)
def C.spoorref14_Minus : Cx := { D := D, rt := rt, its := [], lps := [], det := true }
set_option maxRecDepth 100000 in
def vc.spoorref14_Minus (a0_0 : Int) (a0_1 : Int) (a0_2 : Int) (a0_3 : Int) (a0_4 : Int) (a0_5 : Int) (a0_6 : AV) (a1_0 : Int) (a1_1 : Int) (a1_2 : Int) (a1_3 : Int) (a1_4 : Int) (a1_5 : Int) (a1_6 : AV) (s : St) (Q : (AV → (St → Prop))) : Prop :=
 ∀ (m1 : Nat) (s2 : St),
 (NewO s (cellsO [(AV.int .u64 a0_0), (AV.int .u64 a0_1), (AV.int .u64 a0_2), (AV.int .u64 a0_3), (AV.int .u64 a0_4), (AV.int .u64 a0_5), a0_6]) m1 s2) →
 ∀ (m3 : Nat) (s4 : St),
 (NewO s2 (cellsO [(AV.int .u64 a1_0), (AV.int .u64 a1_1), (AV.int .u64 a1_2), (AV.int .u64 a1_3), (AV.int .u64 a1_4), (AV.int .u64 a1_5), a1_6]) m3 s4) →
 ∀ (m5 : Nat) (s6 : St),
 (NewO s4 (cellsO [(AV.int .u64 0), (AV.int .u64 0), (AV.int .u64 0), (AV.int .u64 0), (AV.int .u64 0), (AV.int .u64 0), AV.nilslice]) m5 s6) →
 ∃ (x7 : AV),
 ((ld1 s6 (AV.ptr m1 6)) = (some x7)) ∧
 CallsD P F.spoorref13_Check [x7] s6 fun x8 s9 =>
 ∃ (n10 : Int),
 (x8 = (AV.int .i64 n10)) ∧
 ∃ (x11 : AV),
 ((ld1 s9 (AV.ptr m3 6)) = (some x11)) ∧
 CallsD P F.spoorref13_Check [x11] s9 fun x12 s13 =>
 ∃ (n14 : Int),
 (x12 = (AV.int .i64 n14)) ∧
 bsel (n10 != 0) (
  ∃ (s15 : St),
  ((wrN s13 (AV.ptr m5 0) [(AV.int .u64 0), (AV.int .u64 0), (AV.int .u64 0), (AV.int .u64 0), (AV.int .u64 0), (AV.int .u64 0), AV.nilslice]) = (some s15)) ∧
  ∃ (n16 : Int) (n17 : Int) (n18 : Int) (n19 : Int) (n20 : Int) (n21 : Int) (x22 : AV),
  ((ldN s15 (AV.ptr m5 0) 7) = (some [(AV.int .u64 n16), (AV.int .u64 n17), (AV.int .u64 n18), (AV.int .u64 n19), (AV.int .u64 n20), (AV.int .u64 n21), x22])) ∧
  (Q (AV.tuple [(AV.agg [(AV.int .u64 n16), (AV.int .u64 n17), (AV.int .u64 n18), (AV.int .u64 n19), (AV.int .u64 n20), (AV.int .u64 n21), x22]), (AV.int .i64 131)]) s15)
 ) (
  bsel (n14 != 0) (
   ∃ (s23 : St),
   ((wrN s13 (AV.ptr m5 0) [(AV.int .u64 0), (AV.int .u64 0), (AV.int .u64 0), (AV.int .u64 0), (AV.int .u64 0), (AV.int .u64 0), AV.nilslice]) = (some s23)) ∧
   ∃ (n24 : Int) (n25 : Int) (n26 : Int) (n27 : Int) (n28 : Int) (n29 : Int) (x30 : AV),
   ((ldN s23 (AV.ptr m5 0) 7) = (some [(AV.int .u64 n24), (AV.int .u64 n25), (AV.int .u64 n26), (AV.int .u64 n27), (AV.int .u64 n28), (AV.int .u64 n29), x30])) ∧
   (Q (AV.tuple [(AV.agg [(AV.int .u64 n24), (AV.int .u64 n25), (AV.int .u64 n26), (AV.int .u64 n27), (AV.int .u64 n28), (AV.int .u64 n29), x30]), (AV.int .i64 131)]) s23)
  ) (
   ∃ (x31 : AV),
   ((ld1 s13 (AV.ptr m1 6)) = (some x31)) ∧
   ∃ (x32 : AV),
   ((ld1 s13 (AV.ptr m3 6)) = (some x32)) ∧
   CallsD P F.spoorref13_Less [x31, x32] s13 fun x33 s34 =>
   ∃ (x35 : AV) (n36 : Int),
   (x33 = (AV.tuple [x35, (AV.int .i64 n36)])) ∧
   ∃ (n37 : Int) (n38 : Int),
   ((ldN s34 (AV.ptr m1 0) 2) = (some [(AV.int .u64 n37), (AV.int .u64 n38)])) ∧
   ∃ (n39 : Int) (n40 : Int),
   ((ldN s34 (AV.ptr m3 0) 2) = (some [(AV.int .u64 n39), (AV.int .u64 n40)])) ∧
   CallsD P F.spoorref14_below [(AV.agg [(AV.int .u64 n37), (AV.int .u64 n38)]), (AV.agg [(AV.int .u64 n39), (AV.int .u64 n40)])] s34 fun x41 s42 =>
   ∃ (c43 : Bool),
   (x41 = (AV.bool c43)) ∧
   ∃ (n44 : Int) (n45 : Int),
   ((ldN s42 (AV.ptr m1 2) 2) = (some [(AV.int .u64 n44), (AV.int .u64 n45)])) ∧
   ∃ (n46 : Int) (n47 : Int),
   ((ldN s42 (AV.ptr m3 2) 2) = (some [(AV.int .u64 n46), (AV.int .u64 n47)])) ∧
   CallsD P F.spoorref14_below [(AV.agg [(AV.int .u64 n44), (AV.int .u64 n45)]), (AV.agg [(AV.int .u64 n46), (AV.int .u64 n47)])] s42 fun x48 s49 =>
   ∃ (c50 : Bool),
   (x48 = (AV.bool c50)) ∧
   ∃ (n51 : Int) (n52 : Int),
   ((ldN s49 (AV.ptr m1 4) 2) = (some [(AV.int .u64 n51), (AV.int .u64 n52)])) ∧
   ∃ (n53 : Int) (n54 : Int),
   ((ldN s49 (AV.ptr m3 4) 2) = (some [(AV.int .u64 n53), (AV.int .u64 n54)])) ∧
   CallsD P F.spoorref14_below [(AV.agg [(AV.int .u64 n51), (AV.int .u64 n52)]), (AV.agg [(AV.int .u64 n53), (AV.int .u64 n54)])] s49 fun x55 s56 =>
   ∃ (c57 : Bool),
   (x55 = (AV.bool c57)) ∧
   bsel (n36 != 0) (
    ∃ (s58 : St),
    ((wrN s56 (AV.ptr m5 0) [(AV.int .u64 0), (AV.int .u64 0), (AV.int .u64 0), (AV.int .u64 0), (AV.int .u64 0), (AV.int .u64 0), AV.nilslice]) = (some s58)) ∧
    ∃ (n59 : Int) (n60 : Int) (n61 : Int) (n62 : Int) (n63 : Int) (n64 : Int) (x65 : AV),
    ((ldN s58 (AV.ptr m5 0) 7) = (some [(AV.int .u64 n59), (AV.int .u64 n60), (AV.int .u64 n61), (AV.int .u64 n62), (AV.int .u64 n63), (AV.int .u64 n64), x65])) ∧
    (Q (AV.tuple [(AV.agg [(AV.int .u64 n59), (AV.int .u64 n60), (AV.int .u64 n61), (AV.int .u64 n62), (AV.int .u64 n63), (AV.int .u64 n64), x65]), (AV.int .i64 141)]) s58)
   ) (
    bsel c43 (
     ∃ (s66 : St),
     ((wrN s56 (AV.ptr m5 0) [(AV.int .u64 0), (AV.int .u64 0), (AV.int .u64 0), (AV.int .u64 0), (AV.int .u64 0), (AV.int .u64 0), AV.nilslice]) = (some s66)) ∧
     ∃ (n67 : Int) (n68 : Int) (n69 : Int) (n70 : Int) (n71 : Int) (n72 : Int) (x73 : AV),
     ((ldN s66 (AV.ptr m5 0) 7) = (some [(AV.int .u64 n67), (AV.int .u64 n68), (AV.int .u64 n69), (AV.int .u64 n70), (AV.int .u64 n71), (AV.int .u64 n72), x73])) ∧
     (Q (AV.tuple [(AV.agg [(AV.int .u64 n67), (AV.int .u64 n68), (AV.int .u64 n69), (AV.int .u64 n70), (AV.int .u64 n71), (AV.int .u64 n72), x73]), (AV.int .i64 141)]) s66)
    ) (
     bsel c50 (
      ∃ (s74 : St),
      ((wrN s56 (AV.ptr m5 0) [(AV.int .u64 0), (AV.int .u64 0), (AV.int .u64 0), (AV.int .u64 0), (AV.int .u64 0), (AV.int .u64 0), AV.nilslice]) = (some s74)) ∧
      ∃ (n75 : Int) (n76 : Int) (n77 : Int) (n78 : Int) (n79 : Int) (n80 : Int) (x81 : AV),
      ((ldN s74 (AV.ptr m5 0) 7) = (some [(AV.int .u64 n75), (AV.int .u64 n76), (AV.int .u64 n77), (AV.int .u64 n78), (AV.int .u64 n79), (AV.int .u64 n80), x81])) ∧
      (Q (AV.tuple [(AV.agg [(AV.int .u64 n75), (AV.int .u64 n76), (AV.int .u64 n77), (AV.int .u64 n78), (AV.int .u64 n79), (AV.int .u64 n80), x81]), (AV.int .i64 141)]) s74)
     ) (
      bsel c57 (
       ∃ (s82 : St),
       ((wrN s56 (AV.ptr m5 0) [(AV.int .u64 0), (AV.int .u64 0), (AV.int .u64 0), (AV.int .u64 0), (AV.int .u64 0), (AV.int .u64 0), AV.nilslice]) = (some s82)) ∧
       ∃ (n83 : Int) (n84 : Int) (n85 : Int) (n86 : Int) (n87 : Int) (n88 : Int) (x89 : AV),
       ((ldN s82 (AV.ptr m5 0) 7) = (some [(AV.int .u64 n83), (AV.int .u64 n84), (AV.int .u64 n85), (AV.int .u64 n86), (AV.int .u64 n87), (AV.int .u64 n88), x89])) ∧
       (Q (AV.tuple [(AV.agg [(AV.int .u64 n83), (AV.int .u64 n84), (AV.int .u64 n85), (AV.int .u64 n86), (AV.int .u64 n87), (AV.int .u64 n88), x89]), (AV.int .i64 141)]) s82)
      ) (
       ∀ (s90 : St),
       (Bump s56 19 s90) →
       ∃ (n91 : Int) (n92 : Int),
       ((ldN s90 (AV.ptr m1 0) 2) = (some [(AV.int .u64 n91), (AV.int .u64 n92)])) ∧
       ∃ (n93 : Int) (n94 : Int),
       ((ldN s90 (AV.ptr m3 0) 2) = (some [(AV.int .u64 n93), (AV.int .u64 n94)])) ∧
       CallsD P F.spoorref14_sub [(AV.agg [(AV.int .u64 n91), (AV.int .u64 n92)]), (AV.agg [(AV.int .u64 n93), (AV.int .u64 n94)])] s90 fun x95 s96 =>
       ∃ (n97 : Int) (n98 : Int),
       (x95 = (AV.agg [(AV.int .u64 n97), (AV.int .u64 n98)])) ∧
       ∃ (n99 : Int) (n100 : Int),
       ((ldN s96 (AV.ptr m1 2) 2) = (some [(AV.int .u64 n99), (AV.int .u64 n100)])) ∧
       ((ldN s90 (AV.ptr m1 2) 2) = (some [(AV.int .u64 n99), (AV.int .u64 n100)])) ∧
       ∃ (n101 : Int) (n102 : Int),
       ((ldN s96 (AV.ptr m3 2) 2) = (some [(AV.int .u64 n101), (AV.int .u64 n102)])) ∧
       ((ldN s90 (AV.ptr m3 2) 2) = (some [(AV.int .u64 n101), (AV.int .u64 n102)])) ∧
       CallsD P F.spoorref14_sub [(AV.agg [(AV.int .u64 n99), (AV.int .u64 n100)]), (AV.agg [(AV.int .u64 n101), (AV.int .u64 n102)])] s96 fun x103 s104 =>
       ∃ (n105 : Int) (n106 : Int),
       (x103 = (AV.agg [(AV.int .u64 n105), (AV.int .u64 n106)])) ∧
       ∃ (n107 : Int) (n108 : Int),
       ((ldN s104 (AV.ptr m1 4) 2) = (some [(AV.int .u64 n107), (AV.int .u64 n108)])) ∧
       ((ldN s96 (AV.ptr m1 4) 2) = (some [(AV.int .u64 n107), (AV.int .u64 n108)])) ∧
       ((ldN s90 (AV.ptr m1 4) 2) = (some [(AV.int .u64 n107), (AV.int .u64 n108)])) ∧
       ∃ (n109 : Int) (n110 : Int),
       ((ldN s104 (AV.ptr m3 4) 2) = (some [(AV.int .u64 n109), (AV.int .u64 n110)])) ∧
       ((ldN s96 (AV.ptr m3 4) 2) = (some [(AV.int .u64 n109), (AV.int .u64 n110)])) ∧
       ((ldN s90 (AV.ptr m3 4) 2) = (some [(AV.int .u64 n109), (AV.int .u64 n110)])) ∧
       CallsD P F.spoorref14_sub [(AV.agg [(AV.int .u64 n107), (AV.int .u64 n108)]), (AV.agg [(AV.int .u64 n109), (AV.int .u64 n110)])] s104 fun x111 s112 =>
       ∃ (n113 : Int) (n114 : Int),
       (x111 = (AV.agg [(AV.int .u64 n113), (AV.int .u64 n114)])) ∧
       (oneK x35 (∃ s115 : St, (((wrN s112 (AV.ptr m5 0) [(AV.int .u64 n97), (AV.int .u64 n98), (AV.int .u64 n105), (AV.int .u64 n106), (AV.int .u64 n113), (AV.int .u64 n114), x35]) = (some s115)) ∧ (∃ n116 : Int, (∃ n117 : Int, (∃ n118 : Int, (∃ n119 : Int, (∃ n120 : Int, (∃ n121 : Int, (∃ x122 : AV, (((ldN s115 (AV.ptr m5 0) 7) = (some [(AV.int .u64 n116), (AV.int .u64 n117), (AV.int .u64 n118), (AV.int .u64 n119), (AV.int .u64 n120), (AV.int .u64 n121), x122])) ∧ (Q (AV.tuple [(AV.agg [(AV.int .u64 n116), (AV.int .u64 n117), (AV.int .u64 n118), (AV.int .u64 n119), (AV.int .u64 n120), (AV.int .u64 n121), x122]), (AV.int .i64 0)]) s115))))))))))))
      )
     )
    )
   )
  )
 )
set_option maxRecDepth 100000 in
theorem vc.spoorref14_Minus_ok {a0_0 : Int} {a0_1 : Int} {a0_2 : Int} {a0_3 : Int} {a0_4 : Int} {a0_5 : Int} {a0_6 : AV} {a1_0 : Int} {a1_1 : Int} {a1_2 : Int} {a1_3 : Int} {a1_4 : Int} {a1_5 : Int} {a1_6 : AV} {s : St} {Q : AV → St → Prop} (h : vc.spoorref14_Minus a0_0 a0_1 a0_2 a0_3 a0_4 a0_5 a0_6 a1_0 a1_1 a1_2 a1_3 a1_4 a1_5 a1_6 s Q) : CallsD P F.spoorref14_Minus [.agg [.int .u64 a0_0, .int .u64 a0_1, .int .u64 a0_2, .int .u64 a0_3, .int .u64 a0_4, .int .u64 a0_5, a0_6], .agg [.int .u64 a1_0, .int .u64 a1_1, .int .u64 a1_2, .int .u64 a1_3, .int .u64 a1_4, .int .u64 a1_5, a1_6]] s Q :=
 fnD_ok (C := C.spoorref14_Minus) hD hX rfl mixes (fi := fnI Tryz.f13) (by kernel_rfl) (by kernel_rfl) (cast (by kernel_rfl : vc.spoorref14_Minus a0_0 a0_1 a0_2 a0_3 a0_4 a0_5 a0_6 a1_0 a1_1 a1_2 a1_3 a1_4 a1_5 a1_6 s Q = wpC P C.spoorref14_Minus 1000000 (fnI Tryz.f13).body ⟨PT.setAll .nil 0 [.agg [.int .u64 a0_0, .int .u64 a0_1, .int .u64 a0_2, .int .u64 a0_3, .int .u64 a0_4, .int .u64 a0_5, a0_6], .agg [.int .u64 a1_0, .int .u64 a1_1, .int .u64 a1_2, .int .u64 a1_3, .int .u64 a1_4, .int .u64 a1_5, a1_6]], max [.agg [.int .u64 a0_0, .int .u64 a0_1, .int .u64 a0_2, .int .u64 a0_3, .int .u64 a0_4, .int .u64 a0_5, a0_6], .agg [.int .u64 a1_0, .int .u64 a1_1, .int .u64 a1_2, .int .u64 a1_3, .int .u64 a1_4, .int .u64 a1_5, a1_6]].length (fnI Tryz.f13).nt, s, []⟩ (endW C.spoorref14_Minus (fnI Tryz.f13).results Q)) h)
def C.spoorref14_One : Cx := { D := D, rt := rt, its := [], lps := [], det := true }
set_option maxRecDepth 100000 in
def vc.spoorref14_One (a0_0 : Int) (a0_1 : ByteArray) (a0_2 : ByteArray) (a0_3 : Bool) (a0_4 : Int) (s : St) (Q : (AV → (St → Prop))) : Prop :=
 ∀ (m1 : Nat) (s2 : St),
 (NewO s (cellsO [(AV.int .i64 a0_0), (AV.str a0_1), (AV.str a0_2), (AV.bool a0_3), (AV.int .u64 a0_4)]) m1 s2) →
 ∀ (m3 : Nat) (s4 : St),
 (NewO s2 (cellsO [(AV.int .u64 0), (AV.int .u64 0), (AV.int .u64 0), (AV.int .u64 0), (AV.int .u64 0), (AV.int .u64 0), AV.nilslice]) m3 s4) →
 ∀ (s5 : St),
 (Bump s4 12 s5) →
 ∃ (n6 : Int),
 ((ld1 s5 (AV.ptr m1 4)) = (some (AV.int .u64 n6))) ∧
 ∃ (n7 : Int),
 ((ld1 s5 (AV.ptr m1 4)) = (some (AV.int .u64 n7))) ∧
 CallsD P F.spoorref13_Index [(AV.int .u64 n7)] s5 fun x8 s9 =>
 ∃ (n10 : Int),
 (x8 = (AV.int .i64 n10)) ∧
 ((ld1 s9 (AV.ptr m1 4)) = (some (AV.int .u64 n6))) ∧
 ∃ (s11 : St),
 (
  ((wrN (hsetS (hsetS s9 ((St.nx s4) + 10) (cellsO [(AV.int .u64 0), (AV.int .u64 0), (AV.int .u64 0), (AV.int .u64 0), (AV.int .u64 0), (AV.int .u64 0), AV.nilslice])) ((St.nx s4) + 8) (cellsO [(AV.int .i64 n10), (AV.int .u64 1)])) (AV.ptr ((St.nx s4) + 10) 0) [(AV.int .u64 0), (AV.int .u64 1), (AV.int .u64 0), (AV.int .u64 0), (AV.int .u64 0), (AV.int .u64 n6), (AV.slice ((St.nx s4) + 8) 0 1 (ACap.exact 1))]) = (some s11))
 ) ∧
 ∃ (c12 : Bool),
 ((ld1 s11 (AV.ptr m1 3)) = (some (AV.bool c12))) ∧
 bsel c12 (
  ∃ (s13 : St),
  ((wrN s11 (AV.ptr ((St.nx s4) + 10) 3) [(AV.int .u64 1)]) = (some s13)) ∧
  ∃ (n14 : Int) (n15 : Int) (n16 : Int) (n17 : Int) (n18 : Int) (n19 : Int) (x20 : AV),
  ((ldN s13 (AV.ptr ((St.nx s4) + 10) 0) 7) = (some [(AV.int .u64 n14), (AV.int .u64 n15), (AV.int .u64 n16), (AV.int .u64 n17), (AV.int .u64 n18), (AV.int .u64 n19), x20])) ∧
  ∃ (s21 : St),
  ((wrN s13 (AV.ptr m3 0) [(AV.int .u64 n14), (AV.int .u64 n15), (AV.int .u64 n16), (AV.int .u64 n17), (AV.int .u64 n18), (AV.int .u64 n19), x20]) = (some s21)) ∧
  ∃ (n22 : Int) (n23 : Int) (n24 : Int) (n25 : Int) (n26 : Int) (n27 : Int) (x28 : AV),
  ((ldN s21 (AV.ptr m3 0) 7) = (some [(AV.int .u64 n22), (AV.int .u64 n23), (AV.int .u64 n24), (AV.int .u64 n25), (AV.int .u64 n26), (AV.int .u64 n27), x28])) ∧
  (Q (AV.agg [(AV.int .u64 n22), (AV.int .u64 n23), (AV.int .u64 n24), (AV.int .u64 n25), (AV.int .u64 n26), (AV.int .u64 n27), x28]) s21)
 ) (
  ∃ (n29 : Int) (n30 : Int) (n31 : Int) (n32 : Int) (n33 : Int) (n34 : Int) (x35 : AV),
  ((ldN s11 (AV.ptr ((St.nx s4) + 10) 0) 7) = (some [(AV.int .u64 n29), (AV.int .u64 n30), (AV.int .u64 n31), (AV.int .u64 n32), (AV.int .u64 n33), (AV.int .u64 n34), x35])) ∧
  ∃ (s36 : St),
  ((wrN s11 (AV.ptr m3 0) [(AV.int .u64 n29), (AV.int .u64 n30), (AV.int .u64 n31), (AV.int .u64 n32), (AV.int .u64 n33), (AV.int .u64 n34), x35]) = (some s36)) ∧
  ∃ (n37 : Int) (n38 : Int) (n39 : Int) (n40 : Int) (n41 : Int) (n42 : Int) (x43 : AV),
  ((ldN s36 (AV.ptr m3 0) 7) = (some [(AV.int .u64 n37), (AV.int .u64 n38), (AV.int .u64 n39), (AV.int .u64 n40), (AV.int .u64 n41), (AV.int .u64 n42), x43])) ∧
  (Q (AV.agg [(AV.int .u64 n37), (AV.int .u64 n38), (AV.int .u64 n39), (AV.int .u64 n40), (AV.int .u64 n41), (AV.int .u64 n42), x43]) s36)
 )
set_option maxRecDepth 100000 in
theorem vc.spoorref14_One_ok {a0_0 : Int} {a0_1 : ByteArray} {a0_2 : ByteArray} {a0_3 : Bool} {a0_4 : Int} {s : St} {Q : AV → St → Prop} (h : vc.spoorref14_One a0_0 a0_1 a0_2 a0_3 a0_4 s Q) : CallsD P F.spoorref14_One [.agg [.int .i64 a0_0, .str a0_1, .str a0_2, .bool a0_3, .int .u64 a0_4]] s Q :=
 fnD_ok (C := C.spoorref14_One) hD hX rfl mixes (fi := fnI Tryz.f14) (by kernel_rfl) (by kernel_rfl) (cast (by kernel_rfl : vc.spoorref14_One a0_0 a0_1 a0_2 a0_3 a0_4 s Q = wpC P C.spoorref14_One 1000000 (fnI Tryz.f14).body ⟨PT.setAll .nil 0 [.agg [.int .i64 a0_0, .str a0_1, .str a0_2, .bool a0_3, .int .u64 a0_4]], max [.agg [.int .i64 a0_0, .str a0_1, .str a0_2, .bool a0_3, .int .u64 a0_4]].length (fnI Tryz.f14).nt, s, []⟩ (endW C.spoorref14_One (fnI Tryz.f14).results Q)) h)
def C.calls_Cap : Cx := { D := D, rt := rt, its := [], lps := [], det := true }
set_option maxRecDepth 100000 in
def vc.calls_Cap (a0_0 : Int) (a0_1 : Int) (s : St) (Q : (AV → (St → Prop))) : Prop :=
 ∀ (m1 : Nat) (s2 : St),
 (NewO s (cellsO [(AV.int .u64 a0_0), (AV.int .u64 a0_1)]) m1 s2) →
 ∃ (n3 : Int) (n4 : Int),
 ((ldN s2 (AV.ptr m1 0) 2) = (some [(AV.int .u64 n3), (AV.int .u64 n4)])) ∧
 ∃ (n5 : Int),
 ((ld1 s2 (AV.ptr m1 1)) = (some (AV.int .u64 n5))) ∧
 bsel (if (false = true) then ((n3 == 0) && ((n4 == n5) && true)) else (! ((n3 == 0) && ((n4 == n5) && true)))) (
  (Q (AV.int .u64 18446744073709551615) s2)
 ) (
  ∃ (n6 : Int),
  ((ld1 s2 (AV.ptr m1 1)) = (some (AV.int .u64 n6))) ∧
  (Q (AV.int .u64 n6) s2)
 )
set_option maxRecDepth 100000 in
theorem vc.calls_Cap_ok {a0_0 : Int} {a0_1 : Int} {s : St} {Q : AV → St → Prop} (h : vc.calls_Cap a0_0 a0_1 s Q) : CallsD P F.calls_Cap [.agg [.int .u64 a0_0, .int .u64 a0_1]] s Q :=
 fnD_ok (C := C.calls_Cap) hD hX rfl mixes (fi := fnI Tryz.f16) (by kernel_rfl) (by kernel_rfl) (cast (by kernel_rfl : vc.calls_Cap a0_0 a0_1 s Q = wpC P C.calls_Cap 1000000 (fnI Tryz.f16).body ⟨PT.setAll .nil 0 [.agg [.int .u64 a0_0, .int .u64 a0_1]], max [.agg [.int .u64 a0_0, .int .u64 a0_1]].length (fnI Tryz.f16).nt, s, []⟩ (endW C.calls_Cap (fnI Tryz.f16).results Q)) h)
def C.spoorref14_Cap : Cx := { D := D, rt := rt, its := [], lps := [], det := true }
set_option maxRecDepth 100000 in
def vc.spoorref14_Cap (a0_0 : Int) (a0_1 : Int) (s : St) (Q : (AV → (St → Prop))) : Prop :=
 ∀ (m1 : Nat) (s2 : St),
 (NewO s (cellsO [(AV.int .u64 a0_0), (AV.int .u64 a0_1)]) m1 s2) →
 ∃ (n3 : Int),
 ((ld1 s2 (AV.ptr m1 0)) = (some (AV.int .u64 n3))) ∧
 bsel (decide (n3 > 0)) (
  (Q (AV.int .u64 18446744073709551615) s2)
 ) (
  ∃ (n4 : Int),
  ((ld1 s2 (AV.ptr m1 1)) = (some (AV.int .u64 n4))) ∧
  (Q (AV.int .u64 n4) s2)
 )
set_option maxRecDepth 100000 in
theorem vc.spoorref14_Cap_ok {a0_0 : Int} {a0_1 : Int} {s : St} {Q : AV → St → Prop} (h : vc.spoorref14_Cap a0_0 a0_1 s Q) : CallsD P F.spoorref14_Cap [.agg [.int .u64 a0_0, .int .u64 a0_1]] s Q :=
 fnD_ok (C := C.spoorref14_Cap) hD hX rfl mixes (fi := fnI Tryz.f17) (by kernel_rfl) (by kernel_rfl) (cast (by kernel_rfl : vc.spoorref14_Cap a0_0 a0_1 s Q = wpC P C.spoorref14_Cap 1000000 (fnI Tryz.f17).body ⟨PT.setAll .nil 0 [.agg [.int .u64 a0_0, .int .u64 a0_1]], max [.agg [.int .u64 a0_0, .int .u64 a0_1]].length (fnI Tryz.f17).nt, s, []⟩ (endW C.spoorref14_Cap (fnI Tryz.f17).results Q)) h)
def C.spoorref14_Add : Cx := { D := D, rt := rt, its := [], lps := [], det := true }
set_option maxRecDepth 100000 in
def vc.spoorref14_Add (a0_0 : Int) (a0_1 : Int) (a1_0 : Int) (a1_1 : Int) (s : St) (Q : (AV → (St → Prop))) : Prop :=
 ∀ (m1 : Nat) (s2 : St),
 (NewO s (cellsO [(AV.int .u64 a0_0), (AV.int .u64 a0_1)]) m1 s2) →
 ∀ (m3 : Nat) (s4 : St),
 (NewO s2 (cellsO [(AV.int .u64 a1_0), (AV.int .u64 a1_1)]) m3 s4) →
 ∀ (m5 : Nat) (s6 : St),
 (NewO s4 (cellsO [(AV.int .u64 0), (AV.int .u64 0)]) m5 s6) →
 ∃ (n7 : Int),
 ((ld1 s6 (AV.ptr m1 1)) = (some (AV.int .u64 n7))) ∧
 ∃ (n8 : Int),
 ((ld1 s6 (AV.ptr m3 1)) = (some (AV.int .u64 n8))) ∧
 ∃ (n9 : Int),
 ((ld1 s6 (AV.ptr m1 1)) = (some (AV.int .u64 n9))) ∧
 bsel (decide ((IntKind.wrap .u64 (n7 + n8)) < n9)) (
  ∃ (n10 : Int),
  ((ld1 s6 (AV.ptr m1 0)) = (some (AV.int .u64 n10))) ∧
  ∃ (n11 : Int),
  ((ld1 s6 (AV.ptr m3 0)) = (some (AV.int .u64 n11))) ∧
  ∃ (n12 : Int),
  ((ld1 s6 (AV.ptr m1 0)) = (some (AV.int .u64 n12))) ∧
  bsel (decide ((IntKind.wrap .u64 (n10 + n11)) < n12)) (
   ∃ (s13 : St),
   ((wrN s6 (AV.ptr m5 0) [(AV.int .u64 18446744073709551615), (AV.int .u64 18446744073709551615)]) = (some s13)) ∧
   ∃ (n14 : Int) (n15 : Int),
   ((ldN s13 (AV.ptr m5 0) 2) = (some [(AV.int .u64 n14), (AV.int .u64 n15)])) ∧
   (Q (AV.agg [(AV.int .u64 n14), (AV.int .u64 n15)]) s13)
  ) (
   bsel (decide ((IntKind.wrap .u64 ((IntKind.wrap .u64 (n10 + n11)) + 1)) < 1)) (
    ∃ (s16 : St),
    ((wrN s6 (AV.ptr m5 0) [(AV.int .u64 18446744073709551615), (AV.int .u64 18446744073709551615)]) = (some s16)) ∧
    ∃ (n17 : Int) (n18 : Int),
    ((ldN s16 (AV.ptr m5 0) 2) = (some [(AV.int .u64 n17), (AV.int .u64 n18)])) ∧
    (Q (AV.agg [(AV.int .u64 n17), (AV.int .u64 n18)]) s16)
   ) (
    ∃ (s19 : St),
    ((wrN s6 (AV.ptr m5 0) [(AV.int .u64 (IntKind.wrap .u64 ((IntKind.wrap .u64 (n10 + n11)) + 1))), (AV.int .u64 (IntKind.wrap .u64 (n7 + n8)))]) = (some s19)) ∧
    ∃ (n20 : Int) (n21 : Int),
    ((ldN s19 (AV.ptr m5 0) 2) = (some [(AV.int .u64 n20), (AV.int .u64 n21)])) ∧
    (Q (AV.agg [(AV.int .u64 n20), (AV.int .u64 n21)]) s19)
   )
  )
 ) (
  ∃ (n22 : Int),
  ((ld1 s6 (AV.ptr m1 0)) = (some (AV.int .u64 n22))) ∧
  ∃ (n23 : Int),
  ((ld1 s6 (AV.ptr m3 0)) = (some (AV.int .u64 n23))) ∧
  ∃ (n24 : Int),
  ((ld1 s6 (AV.ptr m1 0)) = (some (AV.int .u64 n24))) ∧
  bsel (decide ((IntKind.wrap .u64 (n22 + n23)) < n24)) (
   ∃ (s25 : St),
   ((wrN s6 (AV.ptr m5 0) [(AV.int .u64 18446744073709551615), (AV.int .u64 18446744073709551615)]) = (some s25)) ∧
   ∃ (n26 : Int) (n27 : Int),
   ((ldN s25 (AV.ptr m5 0) 2) = (some [(AV.int .u64 n26), (AV.int .u64 n27)])) ∧
   (Q (AV.agg [(AV.int .u64 n26), (AV.int .u64 n27)]) s25)
  ) (
   bsel (decide ((IntKind.wrap .u64 ((IntKind.wrap .u64 (n22 + n23)) + 0)) < 0)) (
    ∃ (s28 : St),
    ((wrN s6 (AV.ptr m5 0) [(AV.int .u64 18446744073709551615), (AV.int .u64 18446744073709551615)]) = (some s28)) ∧
    ∃ (n29 : Int) (n30 : Int),
    ((ldN s28 (AV.ptr m5 0) 2) = (some [(AV.int .u64 n29), (AV.int .u64 n30)])) ∧
    (Q (AV.agg [(AV.int .u64 n29), (AV.int .u64 n30)]) s28)
   ) (
    ∃ (s31 : St),
    ((wrN s6 (AV.ptr m5 0) [(AV.int .u64 (IntKind.wrap .u64 ((IntKind.wrap .u64 (n22 + n23)) + 0))), (AV.int .u64 (IntKind.wrap .u64 (n7 + n8)))]) = (some s31)) ∧
    ∃ (n32 : Int) (n33 : Int),
    ((ldN s31 (AV.ptr m5 0) 2) = (some [(AV.int .u64 n32), (AV.int .u64 n33)])) ∧
    (Q (AV.agg [(AV.int .u64 n32), (AV.int .u64 n33)]) s31)
   )
  )
 )
set_option maxRecDepth 100000 in
theorem vc.spoorref14_Add_ok {a0_0 : Int} {a0_1 : Int} {a1_0 : Int} {a1_1 : Int} {s : St} {Q : AV → St → Prop} (h : vc.spoorref14_Add a0_0 a0_1 a1_0 a1_1 s Q) : CallsD P F.spoorref14_Add [.agg [.int .u64 a0_0, .int .u64 a0_1], .agg [.int .u64 a1_0, .int .u64 a1_1]] s Q :=
 fnD_ok (C := C.spoorref14_Add) hD hX rfl mixes (fi := fnI Tryz.f39) (by kernel_rfl) (by kernel_rfl) (cast (by kernel_rfl : vc.spoorref14_Add a0_0 a0_1 a1_0 a1_1 s Q = wpC P C.spoorref14_Add 1000000 (fnI Tryz.f39).body ⟨PT.setAll .nil 0 [.agg [.int .u64 a0_0, .int .u64 a0_1], .agg [.int .u64 a1_0, .int .u64 a1_1]], max [.agg [.int .u64 a0_0, .int .u64 a0_1], .agg [.int .u64 a1_0, .int .u64 a1_1]].length (fnI Tryz.f39).nt, s, []⟩ (endW C.spoorref14_Add (fnI Tryz.f39).results Q)) h)
def C.spoorref14_below : Cx := { D := D, rt := rt, its := [], lps := [], det := true }
set_option maxRecDepth 100000 in
def vc.spoorref14_below (a0_0 : Int) (a0_1 : Int) (a1_0 : Int) (a1_1 : Int) (s : St) (Q : (AV → (St → Prop))) : Prop :=
 ∀ (m1 : Nat) (s2 : St),
 (NewO s (cellsO [(AV.int .u64 a0_0), (AV.int .u64 a0_1)]) m1 s2) →
 ∀ (m3 : Nat) (s4 : St),
 (NewO s2 (cellsO [(AV.int .u64 a1_0), (AV.int .u64 a1_1)]) m3 s4) →
 ∃ (n5 : Int),
 ((ld1 s4 (AV.ptr m1 0)) = (some (AV.int .u64 n5))) ∧
 ∃ (n6 : Int),
 ((ld1 s4 (AV.ptr m3 0)) = (some (AV.int .u64 n6))) ∧
 bsel (decide (n5 < n6)) (
  (Q (AV.bool true) s4)
 ) (
  ∃ (n7 : Int),
  ((ld1 s4 (AV.ptr m1 0)) = (some (AV.int .u64 n7))) ∧
  ∃ (n8 : Int),
  ((ld1 s4 (AV.ptr m3 0)) = (some (AV.int .u64 n8))) ∧
  bsel (n7 == n8) (
   ∃ (n9 : Int),
   ((ld1 s4 (AV.ptr m1 1)) = (some (AV.int .u64 n9))) ∧
   ∃ (n10 : Int),
   ((ld1 s4 (AV.ptr m3 1)) = (some (AV.int .u64 n10))) ∧
   (Q (AV.bool (decide (n9 < n10))) s4)
  ) (
   (Q (AV.bool false) s4)
  )
 )
set_option maxRecDepth 100000 in
theorem vc.spoorref14_below_ok {a0_0 : Int} {a0_1 : Int} {a1_0 : Int} {a1_1 : Int} {s : St} {Q : AV → St → Prop} (h : vc.spoorref14_below a0_0 a0_1 a1_0 a1_1 s Q) : CallsD P F.spoorref14_below [.agg [.int .u64 a0_0, .int .u64 a0_1], .agg [.int .u64 a1_0, .int .u64 a1_1]] s Q :=
 fnD_ok (C := C.spoorref14_below) hD hX rfl mixes (fi := fnI Tryz.f42) (by kernel_rfl) (by kernel_rfl) (cast (by kernel_rfl : vc.spoorref14_below a0_0 a0_1 a1_0 a1_1 s Q = wpC P C.spoorref14_below 1000000 (fnI Tryz.f42).body ⟨PT.setAll .nil 0 [.agg [.int .u64 a0_0, .int .u64 a0_1], .agg [.int .u64 a1_0, .int .u64 a1_1]], max [.agg [.int .u64 a0_0, .int .u64 a0_1], .agg [.int .u64 a1_0, .int .u64 a1_1]].length (fnI Tryz.f42).nt, s, []⟩ (endW C.spoorref14_below (fnI Tryz.f42).results Q)) h)
def C.spoorref14_sub : Cx := { D := D, rt := rt, its := [], lps := [], det := true }
set_option maxRecDepth 100000 in
def vc.spoorref14_sub (a0_0 : Int) (a0_1 : Int) (a1_0 : Int) (a1_1 : Int) (s : St) (Q : (AV → (St → Prop))) : Prop :=
 ∀ (m1 : Nat) (s2 : St),
 (NewO s (cellsO [(AV.int .u64 a0_0), (AV.int .u64 a0_1)]) m1 s2) →
 ∀ (m3 : Nat) (s4 : St),
 (NewO s2 (cellsO [(AV.int .u64 a1_0), (AV.int .u64 a1_1)]) m3 s4) →
 ∀ (m5 : Nat) (s6 : St),
 (NewO s4 (cellsO [(AV.int .u64 0), (AV.int .u64 0)]) m5 s6) →
 ∃ (n7 : Int),
 ((ld1 s6 (AV.ptr m1 0)) = (some (AV.int .u64 n7))) ∧
 ∃ (n8 : Int),
 ((ld1 s6 (AV.ptr m3 0)) = (some (AV.int .u64 n8))) ∧
 ∃ (n9 : Int),
 ((ld1 s6 (AV.ptr m1 1)) = (some (AV.int .u64 n9))) ∧
 ∃ (n10 : Int),
 ((ld1 s6 (AV.ptr m3 1)) = (some (AV.int .u64 n10))) ∧
 bsel (decide (n9 < n10)) (
  ∃ (n11 : Int),
  ((ld1 s6 (AV.ptr m1 1)) = (some (AV.int .u64 n11))) ∧
  ∃ (n12 : Int),
  ((ld1 s6 (AV.ptr m3 1)) = (some (AV.int .u64 n12))) ∧
  ∃ (s13 : St),
  ((wrN s6 (AV.ptr m5 0) [(AV.int .u64 (IntKind.wrap .u64 ((IntKind.wrap .u64 (n7 - n8)) - 1))), (AV.int .u64 (IntKind.wrap .u64 (n11 - n12)))]) = (some s13)) ∧
  ∃ (n14 : Int) (n15 : Int),
  ((ldN s13 (AV.ptr m5 0) 2) = (some [(AV.int .u64 n14), (AV.int .u64 n15)])) ∧
  (Q (AV.agg [(AV.int .u64 n14), (AV.int .u64 n15)]) s13)
 ) (
  ∃ (n16 : Int),
  ((ld1 s6 (AV.ptr m1 1)) = (some (AV.int .u64 n16))) ∧
  ∃ (n17 : Int),
  ((ld1 s6 (AV.ptr m3 1)) = (some (AV.int .u64 n17))) ∧
  ∃ (s18 : St),
  ((wrN s6 (AV.ptr m5 0) [(AV.int .u64 (IntKind.wrap .u64 (n7 - n8))), (AV.int .u64 (IntKind.wrap .u64 (n16 - n17)))]) = (some s18)) ∧
  ∃ (n19 : Int) (n20 : Int),
  ((ldN s18 (AV.ptr m5 0) 2) = (some [(AV.int .u64 n19), (AV.int .u64 n20)])) ∧
  (Q (AV.agg [(AV.int .u64 n19), (AV.int .u64 n20)]) s18)
 )
set_option maxRecDepth 100000 in
theorem vc.spoorref14_sub_ok {a0_0 : Int} {a0_1 : Int} {a1_0 : Int} {a1_1 : Int} {s : St} {Q : AV → St → Prop} (h : vc.spoorref14_sub a0_0 a0_1 a1_0 a1_1 s Q) : CallsD P F.spoorref14_sub [.agg [.int .u64 a0_0, .int .u64 a0_1], .agg [.int .u64 a1_0, .int .u64 a1_1]] s Q :=
 fnD_ok (C := C.spoorref14_sub) hD hX rfl mixes (fi := fnI Tryz.f43) (by kernel_rfl) (by kernel_rfl) (cast (by kernel_rfl : vc.spoorref14_sub a0_0 a0_1 a1_0 a1_1 s Q = wpC P C.spoorref14_sub 1000000 (fnI Tryz.f43).body ⟨PT.setAll .nil 0 [.agg [.int .u64 a0_0, .int .u64 a0_1], .agg [.int .u64 a1_0, .int .u64 a1_1]], max [.agg [.int .u64 a0_0, .int .u64 a0_1], .agg [.int .u64 a1_0, .int .u64 a1_1]].length (fnI Tryz.f43).nt, s, []⟩ (endW C.spoorref14_sub (fnI Tryz.f43).results Q)) h)
def C.spoorref13_Index : Cx := { D := D, rt := rt, its := [], lps := [(0, [3, 17, 16, 14, 15, 4, 12, 13], [3, 4]), (2, [5, 26, 25, 23, 24, 6, 19, 20, 21, 22], [5, 6])], det := true }
set_option maxRecDepth 100000 in
def vc.spoorref13_Index (a0 : Int) (s : St) (Q : (AV → (St → Prop))) : Prop :=
 bsel (decide (a0 < 64)) (
  (Q (AV.int .i64 (IntKind.wrap .i64 a0)) s)
 ) (
  ∃ (I1 : (Int → (Int → (St → (Nat → Prop))))),
  (
   ∃ (m2 : Nat),
   (I1 0 a0 s m2)
  ) ∧
  ∀ (n3 : Int) (n4 : Int) (s5 : St) (m6 : Nat),
  (I1 n3 n4 s5 m6) →
  bsel (decide (n4 > 1)) (
   ((2 : Int) ≠ 0) ∧
   ∃ (m7 : Nat),
   (m7 < m6) ∧
   (I1 (IntKind.wrap .i64 (n3 + 1)) (IntKind.wrap .u64 (Int.tdiv n4 2)) s5 m7)
  ) (
   ∃ (I8 : (Int → (Int → (St → (Nat → Prop))))),
   (
    ∃ (m9 : Nat),
    (I8 a0 0 s5 m9)
   ) ∧
   ∀ (n10 : Int) (n11 : Int) (s12 : St) (m13 : Nat),
   (I8 n10 n11 s12 m13) →
   bsel (decide (n11 < (IntKind.wrap .i64 (n3 - 5)))) (
    ((2 : Int) ≠ 0) ∧
    ∃ (m14 : Nat),
    (m14 < m13) ∧
    (I8 (IntKind.wrap .u64 (Int.tdiv n10 2)) (IntKind.wrap .i64 (n11 + 1)) s12 m14)
   ) (
    (Q (AV.int .i64 (IntKind.wrap .i64 ((IntKind.wrap .i64 ((IntKind.wrap .i64 (64 + (IntKind.wrap .i64 (32 * (IntKind.wrap .i64 (n3 - 6)))))) + (IntKind.wrap .i64 n10))) - 32))) s12)
   )
  )
 )
set_option maxRecDepth 100000 in
theorem vc.spoorref13_Index_ok {a0 : Int} {s : St} {Q : AV → St → Prop} (h : vc.spoorref13_Index a0 s Q) : CallsD P F.spoorref13_Index [.int .u64 a0] s Q :=
 fnD_ok (C := C.spoorref13_Index) hD hX rfl mixes (fi := fnI Tryz.f44) (by kernel_rfl) (by kernel_rfl) (cast (by kernel_rfl : vc.spoorref13_Index a0 s Q = wpC P C.spoorref13_Index 1000000 (fnI Tryz.f44).body ⟨PT.setAll .nil 0 [.int .u64 a0], max [.int .u64 a0].length (fnI Tryz.f44).nt, s, []⟩ (endW C.spoorref13_Index (fnI Tryz.f44).results Q)) h)
def C.spoorref13_plus : Cx := { D := D, rt := rt, its := [], lps := [], det := true }
set_option maxRecDepth 100000 in
def vc.spoorref13_plus (a0 : Int) (a1 : Int) (s : St) (Q : (AV → (St → Prop))) : Prop :=
 bsel (decide (a0 > (IntKind.wrap .u64 (18446744073709551615 - a1)))) (
  (Q (AV.int .u64 18446744073709551615) s)
 ) (
  (Q (AV.int .u64 (IntKind.wrap .u64 (a0 + a1))) s)
 )
set_option maxRecDepth 100000 in
theorem vc.spoorref13_plus_ok {a0 : Int} {a1 : Int} {s : St} {Q : AV → St → Prop} (h : vc.spoorref13_plus a0 a1 s Q) : CallsD P F.spoorref13_plus [.int .u64 a0, .int .u64 a1] s Q :=
 fnD_ok (C := C.spoorref13_plus) hD hX rfl mixes (fi := fnI Tryz.f67) (by kernel_rfl) (by kernel_rfl) (cast (by kernel_rfl : vc.spoorref13_plus a0 a1 s Q = wpC P C.spoorref13_plus 1000000 (fnI Tryz.f67).body ⟨PT.setAll .nil 0 [.int .u64 a0, .int .u64 a1], max [.int .u64 a0, .int .u64 a1].length (fnI Tryz.f67).nt, s, []⟩ (endW C.spoorref13_plus (fnI Tryz.f67).results Q)) h)
end
end Go.Eng.S

