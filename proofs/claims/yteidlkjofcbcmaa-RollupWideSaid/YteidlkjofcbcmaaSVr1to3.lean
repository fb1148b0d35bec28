/-
  What is to be shown of functions of the program, and that it suffices.
  What is to be shown of functions of the program, and that it suffices.
  What is to be shown of functions of the program, and that it suffices.
-/
import Derived.Test.YteidlkjofcbcmaaSDefs
namespace Go.Eng.S
open Go Go.Eng Go.Proofs
noncomputable section
def C.rollup_New : Cx := { D := D, rt := rt, its := [], lps := [], det := true }
set_option maxRecDepth 100000 in
def vc.rollup_New (a0 : Int) (s : St) (Q : (AV → (St → Prop))) : Prop :=
 bsel (decide (a0 < 2)) (
  (Q (AV.tuple [AV.nilptr, (AV.int .i64 1)]) s)
 ) (
  bsel (decide (a0 > 16)) (
   (Q (AV.tuple [AV.nilptr, (AV.int .i64 1)]) s)
  ) (
   ∀ (m1 : Nat) (s2 : St),
   (NewO s mapO m1 s2) →
   ∀ (m3 : Nat) (s4 : St),
   (NewO s2 (cellsO [(AV.int .i64 a0), (AV.map m1)]) m3 s4) →
   (Q (AV.tuple [(AV.ptr m3 0), (AV.int .i64 0)]) s4)
  )
 )
set_option maxRecDepth 100000 in
theorem vc.rollup_New_ok {a0 : Int} {s : St} {Q : AV → St → Prop} (h : vc.rollup_New a0 s Q) : CallsD P F.rollup_New [.int .i64 a0] s Q :=
 fnD_ok (C := C.rollup_New) hD hX rfl mixes (fi := fnI Try.f20) (by kernel_rfl) (by kernel_rfl) (cast (by kernel_rfl : vc.rollup_New a0 s Q = wpC P C.rollup_New 1000000 (fnI Try.f20).body ⟨PT.setAll .nil 0 [.int .i64 a0], max [.int .i64 a0].length (fnI Try.f20).nt, s, []⟩ (endW C.rollup_New (fnI Try.f20).results Q)) h)
def C.rollup_nothing : Cx := { D := D, rt := rt, its := [], lps := [], det := true }
set_option maxRecDepth 100000 in
def vc.rollup_nothing (a0_0 : Int) (a0_1 : Int) (a0_2 : Int) (a0_3 : Int) (a0_4 : Int) (a0_5 : Int) (a0_6 : AV) (s : St) (Q : (AV → (St → Prop))) : Prop :=
 ∀ (m1 : Nat) (s2 : St),
 (NewO s (cellsO [(AV.int .u64 a0_0), (AV.int .u64 a0_1), (AV.int .u64 a0_2), (AV.int .u64 a0_3), (AV.int .u64 a0_4), (AV.int .u64 a0_5), a0_6]) m1 s2) →
 ∃ (n3 : Int) (n4 : Int),
 ((ldN s2 (AV.ptr m1 0) 2) = (some [(AV.int .u64 n3), (AV.int .u64 n4)])) ∧
 bsel (if (true = true) then ((n3 == 0) && ((n4 == 0) && true)) else (! ((n3 == 0) && ((n4 == 0) && true)))) (
  ∃ (n5 : Int) (n6 : Int),
  ((ldN s2 (AV.ptr m1 2) 2) = (some [(AV.int .u64 n5), (AV.int .u64 n6)])) ∧
  bsel (if (true = true) then ((n5 == 0) && ((n6 == 0) && true)) else (! ((n5 == 0) && ((n6 == 0) && true)))) (
   ∃ (n7 : Int) (n8 : Int),
   ((ldN s2 (AV.ptr m1 4) 2) = (some [(AV.int .u64 n7), (AV.int .u64 n8)])) ∧
   bsel (if (true = true) then ((n7 == 0) && ((n8 == 0) && true)) else (! ((n7 == 0) && ((n8 == 0) && true)))) (
    ∃ (x9 : AV),
    ((ld1 s2 (AV.ptr m1 6)) = (some x9)) ∧
    slenK x9 fun m10 =>
    (Q (AV.bool (((m10 : Nat) : Int) == 0)) s2)
   ) (
    (Q (AV.bool false) s2)
   )
  ) (
   (Q (AV.bool false) s2)
  )
 ) (
  (Q (AV.bool false) s2)
 )
set_option maxRecDepth 100000 in
theorem vc.rollup_nothing_ok {a0_0 : Int} {a0_1 : Int} {a0_2 : Int} {a0_3 : Int} {a0_4 : Int} {a0_5 : Int} {a0_6 : AV} {s : St} {Q : AV → St → Prop} (h : vc.rollup_nothing a0_0 a0_1 a0_2 a0_3 a0_4 a0_5 a0_6 s Q) : CallsD P F.rollup_nothing [.agg [.int .u64 a0_0, .int .u64 a0_1, .int .u64 a0_2, .int .u64 a0_3, .int .u64 a0_4, .int .u64 a0_5, a0_6]] s Q :=
 fnD_ok (C := C.rollup_nothing) hD hX rfl mixes (fi := fnI Try.f51) (by kernel_rfl) (by kernel_rfl) (cast (by kernel_rfl : vc.rollup_nothing a0_0 a0_1 a0_2 a0_3 a0_4 a0_5 a0_6 s Q = wpC P C.rollup_nothing 1000000 (fnI Try.f51).body ⟨PT.setAll .nil 0 [.agg [.int .u64 a0_0, .int .u64 a0_1, .int .u64 a0_2, .int .u64 a0_3, .int .u64 a0_4, .int .u64 a0_5, a0_6]], max [.agg [.int .u64 a0_0, .int .u64 a0_1, .int .u64 a0_2, .int .u64 a0_3, .int .u64 a0_4, .int .u64 a0_5, a0_6]].length (fnI Try.f51).nt, s, []⟩ (endW C.rollup_nothing (fnI Try.f51).results Q)) h)
def C.p_rollup_Rollup_set : Cx := { D := D, rt := rt, its := [], lps := [], det := true }
set_option maxRecDepth 100000 in
def vc.p_rollup_Rollup_set (a0 : AV) (a1 : Int) (a2_0 : ByteArray) (a2_1 : ByteArray) (a3_0 : Int) (a3_1 : Int) (a3_2 : Int) (a3_3 : Int) (a3_4 : Int) (a3_5 : Int) (a3_6 : AV) (s : St) (Q : (AV → (St → Prop))) : Prop :=
 ∀ (m1 : Nat) (s2 : St),
 (NewO s (cellsO [(AV.str a2_0), (AV.str a2_1)]) m1 s2) →
 ∀ (m3 : Nat) (s4 : St),
 (NewO s2 (cellsO [(AV.int .u64 a3_0), (AV.int .u64 a3_1), (AV.int .u64 a3_2), (AV.int .u64 a3_3), (AV.int .u64 a3_4), (AV.int .u64 a3_5), a3_6]) m3 s4) →
 ptrK a0 0 fun m5 m6 =>
 ∃ (x7 : AV),
 ((ld1 s4 (AV.ptr m5 (m6 + 1))) = (some x7)) ∧
 ∃ (x8 : AV),
 ((lookupA D s4 T.map_int64_rollup_edges x7 (AV.int .i64 a1) false) = (some x8)) ∧
 ∃ (n9 : Int) (n10 : Int) (n11 : Int) (n12 : Int) (n13 : Int) (n14 : Int) (x15 : AV),
 ((ldN s4 (AV.ptr m3 0) 7) = (some [(AV.int .u64 n9), (AV.int .u64 n10), (AV.int .u64 n11), (AV.int .u64 n12), (AV.int .u64 n13), (AV.int .u64 n14), x15])) ∧
 CallsD P F.rollup_nothing [(AV.agg [(AV.int .u64 n9), (AV.int .u64 n10), (AV.int .u64 n11), (AV.int .u64 n12), (AV.int .u64 n13), (AV.int .u64 n14), x15])] s4 fun x16 s17 =>
 ∃ (c18 : Bool),
 (x16 = (AV.bool c18)) ∧
 bsel c18 (
  ∃ (t19 : ByteArray) (t20 : ByteArray),
  ((ldN s17 (AV.ptr m1 0) 2) = (some [(AV.str t19), (AV.str t20)])) ∧
  ∃ (s21 : St),
  ((deleteA D s17 T.rollup_edges x8 (AV.agg [(AV.str t19), (AV.str t20)])) = (some ((AV.tuple []), s21))) ∧
  ∃ (l22 : (List (AV × (AV × Nat)))),
  ((entriesA s21 x8) = (some l22)) ∧
  bsel ((((List.length l22) : Nat) : Int) == 0) (
   ptrK a0 0 fun m23 m24 =>
   ∃ (x25 : AV),
   ((ld1 s21 (AV.ptr m23 (m24 + 1))) = (some x25)) ∧
   ∃ (s26 : St),
   ((deleteA D s21 T.map_int64_rollup_edges x25 (AV.int .i64 a1)) = (some ((AV.tuple []), s26))) ∧
   (Q (AV.tuple []) s26)
  ) (
   (Q (AV.tuple []) s21)
  )
 ) (
  nilK (TD.map 45 51) x8 true fun c27 =>
  bsel c27 (
   ∀ (m28 : Nat) (s29 : St),
   (NewO s17 mapO m28 s29) →
   ptrK a0 0 fun m30 m31 =>
   ∃ (x32 : AV),
   ((ld1 s29 (AV.ptr m30 (m31 + 1))) = (some x32)) ∧
   ∃ (s33 : St),
   ((mapUpdA D s29 T.map_int64_rollup_edges x32 (AV.int .i64 a1) (AV.map m28)) = (some s33)) ∧
   ∃ (t34 : ByteArray) (t35 : ByteArray),
   ((ldN s33 (AV.ptr m1 0) 2) = (some [(AV.str t34), (AV.str t35)])) ∧
   ∃ (n36 : Int) (n37 : Int) (n38 : Int) (n39 : Int) (n40 : Int) (n41 : Int) (x42 : AV),
   ((ldN s33 (AV.ptr m3 0) 7) = (some [(AV.int .u64 n36), (AV.int .u64 n37), (AV.int .u64 n38), (AV.int .u64 n39), (AV.int .u64 n40), (AV.int .u64 n41), x42])) ∧
   ∃ (s43 : St),
   ((mapUpdA D s33 T.rollup_edges (AV.map m28) (AV.agg [(AV.str t34), (AV.str t35)]) (AV.agg [(AV.int .u64 n36), (AV.int .u64 n37), (AV.int .u64 n38), (AV.int .u64 n39), (AV.int .u64 n40), (AV.int .u64 n41), x42])) = (some s43)) ∧
   (Q (AV.tuple []) s43)
  ) (
   ∃ (t44 : ByteArray) (t45 : ByteArray),
   ((ldN s17 (AV.ptr m1 0) 2) = (some [(AV.str t44), (AV.str t45)])) ∧
   ∃ (n46 : Int) (n47 : Int) (n48 : Int) (n49 : Int) (n50 : Int) (n51 : Int) (x52 : AV),
   ((ldN s17 (AV.ptr m3 0) 7) = (some [(AV.int .u64 n46), (AV.int .u64 n47), (AV.int .u64 n48), (AV.int .u64 n49), (AV.int .u64 n50), (AV.int .u64 n51), x52])) ∧
   ∃ (s53 : St),
   ((mapUpdA D s17 T.rollup_edges x8 (AV.agg [(AV.str t44), (AV.str t45)]) (AV.agg [(AV.int .u64 n46), (AV.int .u64 n47), (AV.int .u64 n48), (AV.int .u64 n49), (AV.int .u64 n50), (AV.int .u64 n51), x52])) = (some s53)) ∧
   (Q (AV.tuple []) s53)
  )
 )
set_option maxRecDepth 100000 in
theorem vc.p_rollup_Rollup_set_ok {a0 : AV} {a1 : Int} {a2_0 : ByteArray} {a2_1 : ByteArray} {a3_0 : Int} {a3_1 : Int} {a3_2 : Int} {a3_3 : Int} {a3_4 : Int} {a3_5 : Int} {a3_6 : AV} {s : St} {Q : AV → St → Prop} (h : vc.p_rollup_Rollup_set a0 a1 a2_0 a2_1 a3_0 a3_1 a3_2 a3_3 a3_4 a3_5 a3_6 s Q) : CallsD P F.p_rollup_Rollup_set [a0, .int .i64 a1, .agg [.str a2_0, .str a2_1], .agg [.int .u64 a3_0, .int .u64 a3_1, .int .u64 a3_2, .int .u64 a3_3, .int .u64 a3_4, .int .u64 a3_5, a3_6]] s Q :=
 fnD_ok (C := C.p_rollup_Rollup_set) hD hX rfl mixes (fi := fnI Try.f34) (by kernel_rfl) (by kernel_rfl) (cast (by kernel_rfl : vc.p_rollup_Rollup_set a0 a1 a2_0 a2_1 a3_0 a3_1 a3_2 a3_3 a3_4 a3_5 a3_6 s Q = wpC P C.p_rollup_Rollup_set 1000000 (fnI Try.f34).body ⟨PT.setAll .nil 0 [a0, .int .i64 a1, .agg [.str a2_0, .str a2_1], .agg [.int .u64 a3_0, .int .u64 a3_1, .int .u64 a3_2, .int .u64 a3_3, .int .u64 a3_4, .int .u64 a3_5, a3_6]], max [a0, .int .i64 a1, .agg [.str a2_0, .str a2_1], .agg [.int .u64 a3_0, .int .u64 a3_1, .int .u64 a3_2, .int .u64 a3_3, .int .u64 a3_4, .int .u64 a3_5, a3_6]].length (fnI Try.f34).nt, s, []⟩ (endW C.p_rollup_Rollup_set (fnI Try.f34).results Q)) h)
def C.p_rollup_Rollup_Put : Cx := { D := D, rt := rt, its := [], lps := [], det := true }
set_option maxRecDepth 100000 in
def vc.p_rollup_Rollup_Put (a0 : AV) (a1 : Int) (a2_0 : ByteArray) (a2_1 : ByteArray) (a3_0 : Int) (a3_1 : Int) (a3_2 : Int) (a3_3 : Int) (a3_4 : Int) (a3_5 : Int) (a3_6 : AV) (s : St) (Q : (AV → (St → Prop))) : Prop :=
 ∀ (m1 : Nat) (s2 : St),
 (NewO s (cellsO [(AV.str a2_0), (AV.str a2_1)]) m1 s2) →
 ∀ (m3 : Nat) (s4 : St),
 (NewO s2 (cellsO [(AV.int .u64 a3_0), (AV.int .u64 a3_1), (AV.int .u64 a3_2), (AV.int .u64 a3_3), (AV.int .u64 a3_4), (AV.int .u64 a3_5), a3_6]) m3 s4) →
 bsel (decide (a1 < 0)) (
  (Q (AV.int .i64 151) s4)
 ) (
  bsel (decide (a1 ≥ 2097152)) (
   (Q (AV.int .i64 151) s4)
  ) (
   ∀ (s5 : St),
   (Bump s4 16 s5) →
   ptrK a0 0 fun m6 m7 =>
   ∃ (x8 : AV),
   ((ld1 s5 (AV.ptr m6 (m7 + 1))) = (some x8)) ∧
   ∃ (x9 : AV),
   ((lookupA D s5 T.map_int64_rollup_edges x8 (AV.int .i64 a1) false) = (some x9)) ∧
   ∃ (t10 : ByteArray) (t11 : ByteArray),
   ((ldN s5 (AV.ptr m1 0) 2) = (some [(AV.str t10), (AV.str t11)])) ∧
   ∃ (n12 : Int) (n13 : Int) (n14 : Int) (n15 : Int) (n16 : Int) (n17 : Int) (x18 : AV),
   ((lookupA D s5 T.rollup_edges x9 (AV.agg [(AV.str t10), (AV.str t11)]) false) = (some (AV.agg [(AV.int .u64 n12), (AV.int .u64 n13), (AV.int .u64 n14), (AV.int .u64 n15), (AV.int .u64 n16), (AV.int .u64 n17), x18]))) ∧
   ∃ (n19 : Int) (n20 : Int) (n21 : Int) (n22 : Int) (n23 : Int) (n24 : Int) (x25 : AV),
   ((ldN s5 (AV.ptr m3 0) 7) = (some [(AV.int .u64 n19), (AV.int .u64 n20), (AV.int .u64 n21), (AV.int .u64 n22), (AV.int .u64 n23), (AV.int .u64 n24), x25])) ∧
   CallsD P F.calls_Plus [(AV.agg [(AV.int .u64 n12), (AV.int .u64 n13), (AV.int .u64 n14), (AV.int .u64 n15), (AV.int .u64 n16), (AV.int .u64 n17), x18]), (AV.agg [(AV.int .u64 n19), (AV.int .u64 n20), (AV.int .u64 n21), (AV.int .u64 n22), (AV.int .u64 n23), (AV.int .u64 n24), x25])] s5 fun x26 s27 =>
   ∃ (n28 : Int) (n29 : Int) (n30 : Int) (n31 : Int) (n32 : Int) (n33 : Int) (x34 : AV) (n35 : Int),
   (x26 = (AV.tuple [(AV.agg [(AV.int .u64 n28), (AV.int .u64 n29), (AV.int .u64 n30), (AV.int .u64 n31), (AV.int .u64 n32), (AV.int .u64 n33), x34]), (AV.int .i64 n35)])) ∧
   ∃ (s36 : St),
   (
    ((wrN (hsetS s27 ((St.nx s4) + 13) (cellsO [(AV.int .u64 0), (AV.int .u64 0), (AV.int .u64 0), (AV.int .u64 0), (AV.int .u64 0), (AV.int .u64 0), AV.nilslice])) (AV.ptr ((St.nx s4) + 13) 0) [(AV.int .u64 n28), (AV.int .u64 n29), (AV.int .u64 n30), (AV.int .u64 n31), (AV.int .u64 n32), (AV.int .u64 n33), x34]) = (some s36))
   ) ∧
   bsel (n35 != 0) (
    (Q (AV.int .i64 n35) s36)
   ) (
    ∃ (t37 : ByteArray) (t38 : ByteArray),
    ((ldN s36 (AV.ptr m1 0) 2) = (some [(AV.str t37), (AV.str t38)])) ∧
    ∃ (n39 : Int) (n40 : Int) (n41 : Int) (n42 : Int) (n43 : Int) (n44 : Int) (x45 : AV),
    ((ldN s36 (AV.ptr ((St.nx s4) + 13) 0) 7) = (some [(AV.int .u64 n39), (AV.int .u64 n40), (AV.int .u64 n41), (AV.int .u64 n42), (AV.int .u64 n43), (AV.int .u64 n44), x45])) ∧
    CallsD P F.p_rollup_Rollup_set [a0, (AV.int .i64 a1), (AV.agg [(AV.str t37), (AV.str t38)]), (AV.agg [(AV.int .u64 n39), (AV.int .u64 n40), (AV.int .u64 n41), (AV.int .u64 n42), (AV.int .u64 n43), (AV.int .u64 n44), x45])] s36 fun x46 s47 =>
    (x46 = (AV.tuple [])) ∧
    (Q (AV.int .i64 0) s47)
   )
  )
 )
set_option maxRecDepth 100000 in
theorem vc.p_rollup_Rollup_Put_ok {a0 : AV} {a1 : Int} {a2_0 : ByteArray} {a2_1 : ByteArray} {a3_0 : Int} {a3_1 : Int} {a3_2 : Int} {a3_3 : Int} {a3_4 : Int} {a3_5 : Int} {a3_6 : AV} {s : St} {Q : AV → St → Prop} (h : vc.p_rollup_Rollup_Put a0 a1 a2_0 a2_1 a3_0 a3_1 a3_2 a3_3 a3_4 a3_5 a3_6 s Q) : CallsD P F.p_rollup_Rollup_Put [a0, .int .i64 a1, .agg [.str a2_0, .str a2_1], .agg [.int .u64 a3_0, .int .u64 a3_1, .int .u64 a3_2, .int .u64 a3_3, .int .u64 a3_4, .int .u64 a3_5, a3_6]] s Q :=
 fnD_ok (C := C.p_rollup_Rollup_Put) hD hX rfl mixes (fi := fnI Try.f18) (by kernel_rfl) (by kernel_rfl) (cast (by kernel_rfl : vc.p_rollup_Rollup_Put a0 a1 a2_0 a2_1 a3_0 a3_1 a3_2 a3_3 a3_4 a3_5 a3_6 s Q = wpC P C.p_rollup_Rollup_Put 1000000 (fnI Try.f18).body ⟨PT.setAll .nil 0 [a0, .int .i64 a1, .agg [.str a2_0, .str a2_1], .agg [.int .u64 a3_0, .int .u64 a3_1, .int .u64 a3_2, .int .u64 a3_3, .int .u64 a3_4, .int .u64 a3_5, a3_6]], max [a0, .int .i64 a1, .agg [.str a2_0, .str a2_1], .agg [.int .u64 a3_0, .int .u64 a3_1, .int .u64 a3_2, .int .u64 a3_3, .int .u64 a3_4, .int .u64 a3_5, a3_6]].length (fnI Try.f18).nt, s, []⟩ (endW C.p_rollup_Rollup_Put (fnI Try.f18).results Q)) h)
end
end Go.Eng.S

namespace Go.Eng.S
open Go Go.Eng Go.Proofs
noncomputable section
def C.rollup_order : Cx := { D := D, rt := rt, its := [], lps := [], det := true }
set_option maxRecDepth 100000 in
def vc.rollup_order (a0_0 : ByteArray) (a0_1 : ByteArray) (a0_2 : Int) (a0_3 : Int) (a0_4 : Int) (a0_5 : Int) (a0_6 : Int) (a0_7 : Int) (a0_8 : AV) (a1_0 : ByteArray) (a1_1 : ByteArray) (a1_2 : Int) (a1_3 : Int) (a1_4 : Int) (a1_5 : Int) (a1_6 : Int) (a1_7 : Int) (a1_8 : AV) (s : St) (Q : (AV → (St → Prop))) : Prop :=
 ∀ (m1 : Nat) (s2 : St),
 (NewO s (cellsO [(AV.str a0_0), (AV.str a0_1), (AV.int .u64 a0_2), (AV.int .u64 a0_3), (AV.int .u64 a0_4), (AV.int .u64 a0_5), (AV.int .u64 a0_6), (AV.int .u64 a0_7), a0_8]) m1 s2) →
 ∀ (m3 : Nat) (s4 : St),
 (NewO s2 (cellsO [(AV.str a1_0), (AV.str a1_1), (AV.int .u64 a1_2), (AV.int .u64 a1_3), (AV.int .u64 a1_4), (AV.int .u64 a1_5), (AV.int .u64 a1_6), (AV.int .u64 a1_7), a1_8]) m3 s4) →
 ∀ (s5 : St),
 (Bump s4 17 s5) →
 ∃ (t6 : ByteArray),
 ((ld1 s5 (AV.ptr m1 0)) = (some (AV.str t6))) ∧
 ∃ (t7 : ByteArray),
 ((ld1 s5 (AV.ptr m3 0)) = (some (AV.str t7))) ∧
 CallsD P F.cmp_Compare_string [(AV.str t6), (AV.str t7)] s5 fun x8 s9 =>
 ∃ (n10 : Int),
 (x8 = (AV.int .i64 n10)) ∧
 ∃ (t11 : ByteArray),
 ((ld1 s9 (AV.ptr m1 1)) = (some (AV.str t11))) ∧
 ((ld1 s5 (AV.ptr m1 1)) = (some (AV.str t11))) ∧
 ∃ (t12 : ByteArray),
 ((ld1 s9 (AV.ptr m3 1)) = (some (AV.str t12))) ∧
 ((ld1 s5 (AV.ptr m3 1)) = (some (AV.str t12))) ∧
 CallsD P F.cmp_Compare_string [(AV.str t11), (AV.str t12)] s9 fun x13 s14 =>
 ∃ (n15 : Int),
 (x13 = (AV.int .i64 n15)) ∧
 CallsD P F.cmp_Or_int [(AV.slice ((St.nx s4) + 14) 0 2 (ACap.exact 2))] (hsetS s14 ((St.nx s4) + 14) (cellsO [(AV.int .i64 n10), (AV.int .i64 n15)])) fun x16 s17 =>
 ∃ (n18 : Int),
 (x16 = (AV.int .i64 n18)) ∧
 (Q (AV.int .i64 n18) s17)
set_option maxRecDepth 100000 in
theorem vc.rollup_order_ok {a0_0 : ByteArray} {a0_1 : ByteArray} {a0_2 : Int} {a0_3 : Int} {a0_4 : Int} {a0_5 : Int} {a0_6 : Int} {a0_7 : Int} {a0_8 : AV} {a1_0 : ByteArray} {a1_1 : ByteArray} {a1_2 : Int} {a1_3 : Int} {a1_4 : Int} {a1_5 : Int} {a1_6 : Int} {a1_7 : Int} {a1_8 : AV} {s : St} {Q : AV → St → Prop} (h : vc.rollup_order a0_0 a0_1 a0_2 a0_3 a0_4 a0_5 a0_6 a0_7 a0_8 a1_0 a1_1 a1_2 a1_3 a1_4 a1_5 a1_6 a1_7 a1_8 s Q) : CallsD P F.rollup_order [.agg [.str a0_0, .str a0_1, .int .u64 a0_2, .int .u64 a0_3, .int .u64 a0_4, .int .u64 a0_5, .int .u64 a0_6, .int .u64 a0_7, a0_8], .agg [.str a1_0, .str a1_1, .int .u64 a1_2, .int .u64 a1_3, .int .u64 a1_4, .int .u64 a1_5, .int .u64 a1_6, .int .u64 a1_7, a1_8]] s Q :=
 fnD_ok (C := C.rollup_order) hD hX rfl mixes (fi := fnI Try.f46) (by kernel_rfl) (by kernel_rfl) (cast (by kernel_rfl : vc.rollup_order a0_0 a0_1 a0_2 a0_3 a0_4 a0_5 a0_6 a0_7 a0_8 a1_0 a1_1 a1_2 a1_3 a1_4 a1_5 a1_6 a1_7 a1_8 s Q = wpC P C.rollup_order 1000000 (fnI Try.f46).body ⟨PT.setAll .nil 0 [.agg [.str a0_0, .str a0_1, .int .u64 a0_2, .int .u64 a0_3, .int .u64 a0_4, .int .u64 a0_5, .int .u64 a0_6, .int .u64 a0_7, a0_8], .agg [.str a1_0, .str a1_1, .int .u64 a1_2, .int .u64 a1_3, .int .u64 a1_4, .int .u64 a1_5, .int .u64 a1_6, .int .u64 a1_7, a1_8]], max [.agg [.str a0_0, .str a0_1, .int .u64 a0_2, .int .u64 a0_3, .int .u64 a0_4, .int .u64 a0_5, .int .u64 a0_6, .int .u64 a0_7, a0_8], .agg [.str a1_0, .str a1_1, .int .u64 a1_2, .int .u64 a1_3, .int .u64 a1_4, .int .u64 a1_5, .int .u64 a1_6, .int .u64 a1_7, a1_8]].length (fnI Try.f46).nt, s, []⟩ (endW C.rollup_order (fnI Try.f46).results Q)) h)
def C.cmp_Or_int : Cx := { D := D, rt := rt, its := [], lps := [(0, [8, 16, 14, 13, 12, 15, 2, 10, 11, 5, 9], [8])], det := true }
set_option maxRecDepth 100000 in
def vc.cmp_Or_int (a0 : AV) (s : St) (Q : (AV → (St → Prop))) : Prop :=
 slenK a0 fun m1 =>
 ∃ (I2 : (Int → (St → (Nat → Prop)))),
 (
  ∃ (m3 : Nat),
  (I2 0 s m3)
 ) ∧
 ∀ (n4 : Int) (s5 : St) (m6 : Nat),
 (I2 n4 s5 m6) →
 bsel (decide (n4 < ((m1 : Nat) : Int))) (
  ixsK 1 a0 n4 fun m7 m8 =>
  ∃ (n9 : Int),
  ((ld1 s5 (AV.ptr m7 m8)) = (some (AV.int .i64 n9))) ∧
  bsel (n9 != 0) (
   (Q (AV.int .i64 n9) s5)
  ) (
   ∃ (m10 : Nat),
   (m10 < m6) ∧
   (I2 (IntKind.wrap .i64 (n4 + 1)) s5 m10)
  )
 ) (
  (Q (AV.int .i64 0) s5)
 )
set_option maxRecDepth 100000 in
theorem vc.cmp_Or_int_ok {a0 : AV} {s : St} {Q : AV → St → Prop} (h : vc.cmp_Or_int a0 s Q) : CallsD P F.cmp_Or_int [a0] s Q :=
 fnD_ok (C := C.cmp_Or_int) hD hX rfl mixes (fi := fnI Try.f56) (by kernel_rfl) (by kernel_rfl) (cast (by kernel_rfl : vc.cmp_Or_int a0 s Q = wpC P C.cmp_Or_int 1000000 (fnI Try.f56).body ⟨PT.setAll .nil 0 [a0], max [a0].length (fnI Try.f56).nt, s, []⟩ (endW C.cmp_Or_int (fnI Try.f56).results Q)) h)
def C.cmp_Compare_string : Cx := { D := D, rt := rt, its := [], lps := [], det := true }
set_option maxRecDepth 100000 in
def vc.cmp_Compare_string (a0 : ByteArray) (a1 : ByteArray) (s : St) (Q : (AV → (St → Prop))) : Prop :=
 CallsD P F.cmp_isNaN_string [(AV.str a0)] s fun x1 s2 =>
 ∃ (c3 : Bool),
 (x1 = (AV.bool c3)) ∧
 CallsD P F.cmp_isNaN_string [(AV.str a1)] s2 fun x4 s5 =>
 ∃ (c6 : Bool),
 (x4 = (AV.bool c6)) ∧
 bsel c3 (
  bsel c6 (
   (Q (AV.int .i64 0) s5)
  ) (
   (Q (AV.int .i64 (-1)) s5)
  )
 ) (
  bsel c6 (
   (Q (AV.int .i64 1) s5)
  ) (
   bsel (bytesLt (Array.toList (ByteArray.data a0)) (Array.toList (ByteArray.data a1))) (
    (Q (AV.int .i64 (-1)) s5)
   ) (
    bsel (! ((bytesLt (Array.toList (ByteArray.data a0)) (Array.toList (ByteArray.data a1))) || (bytesEq (Array.toList (ByteArray.data a0)) (Array.toList (ByteArray.data a1))))) (
     (Q (AV.int .i64 1) s5)
    ) (
     (Q (AV.int .i64 0) s5)
    )
   )
  )
 )
set_option maxRecDepth 100000 in
theorem vc.cmp_Compare_string_ok {a0 : ByteArray} {a1 : ByteArray} {s : St} {Q : AV → St → Prop} (h : vc.cmp_Compare_string a0 a1 s Q) : CallsD P F.cmp_Compare_string [.str a0, .str a1] s Q :=
 fnD_ok (C := C.cmp_Compare_string) hD hX rfl mixes (fi := fnI Try.f61) (by kernel_rfl) (by kernel_rfl) (cast (by kernel_rfl : vc.cmp_Compare_string a0 a1 s Q = wpC P C.cmp_Compare_string 1000000 (fnI Try.f61).body ⟨PT.setAll .nil 0 [.str a0, .str a1], max [.str a0, .str a1].length (fnI Try.f61).nt, s, []⟩ (endW C.cmp_Compare_string (fnI Try.f61).results Q)) h)
def C.cmp_isNaN_string : Cx := { D := D, rt := rt, its := [], lps := [], det := true }
set_option maxRecDepth 100000 in
def vc.cmp_isNaN_string (a0 : ByteArray) (s : St) (Q : (AV → (St → Prop))) : Prop :=
 (Q (AV.bool (! (bytesEq (Array.toList (ByteArray.data a0)) (Array.toList (ByteArray.data a0))))) s)
set_option maxRecDepth 100000 in
theorem vc.cmp_isNaN_string_ok {a0 : ByteArray} {s : St} {Q : AV → St → Prop} (h : vc.cmp_isNaN_string a0 s Q) : CallsD P F.cmp_isNaN_string [.str a0] s Q :=
 fnD_ok (C := C.cmp_isNaN_string) hD hX rfl mixes (fi := fnI Try.f90) (by kernel_rfl) (by kernel_rfl) (cast (by kernel_rfl : vc.cmp_isNaN_string a0 s Q = wpC P C.cmp_isNaN_string 1000000 (fnI Try.f90).body ⟨PT.setAll .nil 0 [.str a0], max [.str a0].length (fnI Try.f90).nt, s, []⟩ (endW C.cmp_isNaN_string (fnI Try.f90).results Q)) h)
def C.p_rollup_Rollup_sum : Cx := { D := D, rt := rt, its := [(20, 81), (35, 87), (52, 87)], lps := [(0, [33, 32, 31, 30, 29, 28, 27, 26, 37, 36, 11, 10, 40, 39, 38, 42, 43, 44, 45, 46, 47, 48, 41, 49, 50, 34, 35, 23, 24, 25, 8, 9, 21, 22], []), (2, [50, 49, 41, 48, 47, 46, 45, 44, 43, 42, 38, 39, 40, 10, 11, 36, 37], []), (4, [12, 63, 62, 61, 60, 59, 58, 55, 56, 57, 13, 14, 53, 54], [12])] }
set_option maxRecDepth 100000 in
def vc.p_rollup_Rollup_sum (a0 : AV) (a1 : Int) (a2 : Int) (s : St) (Q : (AV → (St → Prop))) : Prop :=
 ∀ (m1 : Nat) (s2 : St),
 (NewO s mapO m1 s2) →
 ptrK a0 0 fun m3 m4 =>
 ∃ (x5 : AV),
 ((ld1 s2 (AV.ptr m3 (m4 + 1))) = (some x5)) ∧
 ∃ (m6 : Nat) (s7 : St),
 ((rangeA D s2 T.map_int64_rollup_edges x5) = (some ((AV.ptr m6 0), s7))) ∧
 ∃ (I8 : (St → (Nat → Prop))),
 (
  ∃ (m9 : Nat),
  (I8 s7 m9)
 ) ∧
 ∀ (s10 : St) (m11 : Nat),
 (I8 s10 m11) →
 ∃ (l12 : (List (AV × St))),
 ((nextA s10 (AV.ptr m6 0) false) = (some l12)) ∧
 ∀ (x13 : AV) (s14 : St),
 ((x13, s14) ∈ l12) →
 (((x13 = (AV.tuple [(AV.bool false)])) ∧ (∃ m15 : Nat, (∃ s16 : St, (((rangeA D s14 T.rollup_edges (AV.map m1)) = (some ((AV.ptr m15 0), s16))) ∧ (∃ I17 : (AV → (St → (Nat → Prop))), ((∃ m18 : Nat, (I17 AV.nilslice s16 m18)) ∧ (∀ x19 : AV, (∀ s20 : St, (∀ m21 : Nat, ((I17 x19 s20 m21) → (∃ l22 : (List (AV × St)), (((nextA s20 (AV.ptr m15 0) false) = (some l22)) ∧ (∀ x23 : AV, (∀ s24 : St, (((x23, s24) ∈ l22) → (((x23 = (AV.tuple [(AV.bool false)])) ∧ (CallsA P F.slices_SortFunc_sl_api_EdgeTally_api_EdgeTally [x19, (AV.func F.rollup_order [] [])] s24 (fun x25 => (fun s26 => ((x25 = (AV.tuple [])) ∧ (Q x19 s26)))))) ∨ (∃ t27 : ByteArray, (∃ t28 : ByteArray, (∃ n29 : Int, (∃ n30 : Int, (∃ n31 : Int, (∃ n32 : Int, (∃ n33 : Int, (∃ n34 : Int, (∃ x35 : AV, ((x23 = (AV.tuple [(AV.bool true), (AV.agg [(AV.str t27), (AV.str t28)]), (AV.agg [(AV.int .u64 n29), (AV.int .u64 n30), (AV.int .u64 n31), (AV.int .u64 n32), (AV.int .u64 n33), (AV.int .u64 n34), x35])])) ∧ (∃ t36 : ByteArray, (∃ t37 : ByteArray, (∃ n38 : Int, (∃ n39 : Int, (∃ n40 : Int, (∃ n41 : Int, (∃ n42 : Int, (∃ n43 : Int, (∃ x44 : AV, (((entryA s24 (AV.ptr m15 0)) = (some (AV.tuple [(AV.agg [(AV.str t36), (AV.str t37)]), (AV.agg [(AV.int .u64 n38), (AV.int .u64 n39), (AV.int .u64 n40), (AV.int .u64 n41), (AV.int .u64 n42), (AV.int .u64 n43), x44])]))) ∧ (∀ m45 : Nat, (∀ s46 : St, ((NewO s24 (cellsO [(AV.str ByteArray.empty), (AV.str ByteArray.empty)]) m45 s46) → (∀ m47 : Nat, (∀ s48 : St, ((NewO s46 (cellsO [(AV.int .u64 0), (AV.int .u64 0), (AV.int .u64 0), (AV.int .u64 0), (AV.int .u64 0), (AV.int .u64 0), AV.nilslice]) m47 s48) → (∃ s49 : St, (((wrN s48 (AV.ptr m45 0) [(AV.str t36), (AV.str t37)]) = (some s49)) ∧ (∃ s50 : St, (((wrN s49 (AV.ptr m47 0) [(AV.int .u64 n38), (AV.int .u64 n39), (AV.int .u64 n40), (AV.int .u64 n41), (AV.int .u64 n42), (AV.int .u64 n43), x44]) = (some s50)) ∧ (∃ t51 : ByteArray, (∃ t52 : ByteArray, (((ldN s50 (AV.ptr m45 0) 2) = (some [(AV.str t51), (AV.str t52)])) ∧ (∃ n53 : Int, (∃ n54 : Int, (∃ n55 : Int, (∃ n56 : Int, (∃ n57 : Int, (∃ n58 : Int, (∃ x59 : AV, (((ldN s50 (AV.ptr m47 0) 7) = (some [(AV.int .u64 n53), (AV.int .u64 n54), (AV.int .u64 n55), (AV.int .u64 n56), (AV.int .u64 n57), (AV.int .u64 n58), x59])) ∧ (∀ m60 : Nat, (∀ s61 : St, ((NewO s50 (cellsO [(AV.str t51), (AV.str t52), (AV.int .u64 n53), (AV.int .u64 n54), (AV.int .u64 n55), (AV.int .u64 n56), (AV.int .u64 n57), (AV.int .u64 n58), x59]) m60 s61) → (∃ x62 : AV, (∃ s63 : St, (((appendX D s61 T.sl_api_EdgeTally T.sl_api_EdgeTally x19 (AV.slice m60 0 1 (ACap.exact 1))) = (some (x62, s63))) ∧ (∃ m64 : Nat, ((m64 < m21) ∧ (I17 x62 s63 m64)))))))))))))))))))))))))))))))))))))))))))))))))))))))))))))))))) ∨ (∃ n65 : Int, (∃ x66 : AV, ((x13 = (AV.tuple [(AV.bool true), (AV.int .i64 n65), x66])) ∧ (∃ n67 : Int, (∃ x68 : AV, (((entryA s14 (AV.ptr m6 0)) = (some (AV.tuple [(AV.int .i64 n67), x68]))) ∧ (bsel (decide (n67 < a1)) (∃ m69 : Nat, ((m69 < m11) ∧ (I8 s14 m69))) (bsel (decide (n67 ≥ a2)) (∃ m70 : Nat, ((m70 < m11) ∧ (I8 s14 m70))) (∃ m71 : Nat, (∃ s72 : St, (((rangeA D s14 T.rollup_edges x68) = (some ((AV.ptr m71 0), s72))) ∧ (∃ I73 : (St → (Nat → Prop)), ((∃ m74 : Nat, (I73 s72 m74)) ∧ (∀ s75 : St, (∀ m76 : Nat, ((I73 s75 m76) → (∃ l77 : (List (AV × St)), (((nextA s75 (AV.ptr m71 0) false) = (some l77)) ∧ (∀ x78 : AV, (∀ s79 : St, (((x78, s79) ∈ l77) → (((x78 = (AV.tuple [(AV.bool false)])) ∧ (∃ m80 : Nat, ((m80 < m11) ∧ (I8 s79 m80)))) ∨ (∃ t81 : ByteArray, (∃ t82 : ByteArray, (∃ n83 : Int, (∃ n84 : Int, (∃ n85 : Int, (∃ n86 : Int, (∃ n87 : Int, (∃ n88 : Int, (∃ x89 : AV, ((x78 = (AV.tuple [(AV.bool true), (AV.agg [(AV.str t81), (AV.str t82)]), (AV.agg [(AV.int .u64 n83), (AV.int .u64 n84), (AV.int .u64 n85), (AV.int .u64 n86), (AV.int .u64 n87), (AV.int .u64 n88), x89])])) ∧ (∃ t90 : ByteArray, (∃ t91 : ByteArray, (∃ n92 : Int, (∃ n93 : Int, (∃ n94 : Int, (∃ n95 : Int, (∃ n96 : Int, (∃ n97 : Int, (∃ x98 : AV, (((entryA s79 (AV.ptr m71 0)) = (some (AV.tuple [(AV.agg [(AV.str t90), (AV.str t91)]), (AV.agg [(AV.int .u64 n92), (AV.int .u64 n93), (AV.int .u64 n94), (AV.int .u64 n95), (AV.int .u64 n96), (AV.int .u64 n97), x98])]))) ∧ (∀ m99 : Nat, (∀ s100 : St, ((NewO s79 (cellsO [(AV.str ByteArray.empty), (AV.str ByteArray.empty)]) m99 s100) → (∀ m101 : Nat, (∀ s102 : St, ((NewO s100 (cellsO [(AV.int .u64 0), (AV.int .u64 0), (AV.int .u64 0), (AV.int .u64 0), (AV.int .u64 0), (AV.int .u64 0), AV.nilslice]) m101 s102) → (∃ s103 : St, (((wrN s102 (AV.ptr m99 0) [(AV.str t90), (AV.str t91)]) = (some s103)) ∧ (∃ s104 : St, (((wrN s103 (AV.ptr m101 0) [(AV.int .u64 n92), (AV.int .u64 n93), (AV.int .u64 n94), (AV.int .u64 n95), (AV.int .u64 n96), (AV.int .u64 n97), x98]) = (some s104)) ∧ (∀ s105 : St, ((Bump s104 11 s105) → (∃ t106 : ByteArray, (∃ t107 : ByteArray, (((ldN s105 (AV.ptr m99 0) 2) = (some [(AV.str t106), (AV.str t107)])) ∧ (∃ t108 : ByteArray, (∃ t109 : ByteArray, (((ldN s105 (AV.ptr m99 0) 2) = (some [(AV.str t108), (AV.str t109)])) ∧ (∃ n110 : Int, (∃ n111 : Int, (∃ n112 : Int, (∃ n113 : Int, (∃ n114 : Int, (∃ n115 : Int, (∃ x116 : AV, (((lookupA D s105 T.rollup_edges (AV.map m1) (AV.agg [(AV.str t108), (AV.str t109)]) false) = (some (AV.agg [(AV.int .u64 n110), (AV.int .u64 n111), (AV.int .u64 n112), (AV.int .u64 n113), (AV.int .u64 n114), (AV.int .u64 n115), x116]))) ∧ (∃ n117 : Int, (∃ n118 : Int, (∃ n119 : Int, (∃ n120 : Int, (∃ n121 : Int, (∃ n122 : Int, (∃ x123 : AV, (((ldN s105 (AV.ptr m101 0) 7) = (some [(AV.int .u64 n117), (AV.int .u64 n118), (AV.int .u64 n119), (AV.int .u64 n120), (AV.int .u64 n121), (AV.int .u64 n122), x123])) ∧ (CallsD P F.calls_Plus [(AV.agg [(AV.int .u64 n110), (AV.int .u64 n111), (AV.int .u64 n112), (AV.int .u64 n113), (AV.int .u64 n114), (AV.int .u64 n115), x116]), (AV.agg [(AV.int .u64 n117), (AV.int .u64 n118), (AV.int .u64 n119), (AV.int .u64 n120), (AV.int .u64 n121), (AV.int .u64 n122), x123])] s105 (fun x124 => (fun s125 => (∃ n126 : Int, (∃ n127 : Int, (∃ n128 : Int, (∃ n129 : Int, (∃ n130 : Int, (∃ n131 : Int, (∃ x132 : AV, (∃ n133 : Int, ((x124 = (AV.tuple [(AV.agg [(AV.int .u64 n126), (AV.int .u64 n127), (AV.int .u64 n128), (AV.int .u64 n129), (AV.int .u64 n130), (AV.int .u64 n131), x132]), (AV.int .i64 n133)])) ∧ (((ldN s125 (AV.ptr m99 0) 2) = (some [(AV.str t106), (AV.str t107)])) ∧ (∃ s134 : St, (((mapUpdA D s125 T.rollup_edges (AV.map m1) (AV.agg [(AV.str t106), (AV.str t107)]) (AV.agg [(AV.int .u64 n126), (AV.int .u64 n127), (AV.int .u64 n128), (AV.int .u64 n129), (AV.int .u64 n130), (AV.int .u64 n131), x132])) = (some s134)) ∧ (∃ m135 : Nat, ((m135 < m76) ∧ (I73 s134 m135)))))))))))))))))))))))))))))))))))))))))))))))))))))))))))))))))))))))))))))))))))))))))))))))
set_option maxRecDepth 100000 in
theorem vc.p_rollup_Rollup_sum_ok {a0 : AV} {a1 : Int} {a2 : Int} {s : St} {Q : AV → St → Prop} (h : vc.p_rollup_Rollup_sum a0 a1 a2 s Q) : CallsA P F.p_rollup_Rollup_sum [a0, .int .i64 a1, .int .i64 a2] s Q :=
 fnB_ok (C := C.p_rollup_Rollup_sum) hD hX mixes (fi := fnI Try.f29) (by kernel_rfl) (by kernel_rfl) (cast (by kernel_rfl : vc.p_rollup_Rollup_sum a0 a1 a2 s Q = wpC P C.p_rollup_Rollup_sum 1000000 (fnI Try.f29).body ⟨PT.setAll .nil 0 [a0, .int .i64 a1, .int .i64 a2], max [a0, .int .i64 a1, .int .i64 a2].length (fnI Try.f29).nt, s, []⟩ (endW C.p_rollup_Rollup_sum (fnI Try.f29).results Q)) h)
def C.p_rollup_Rollup_Range : Cx := { D := D, rt := rt, its := [], lps := [] }
set_option maxRecDepth 100000 in
def vc.p_rollup_Rollup_Range (a0 : AV) (a1 : Int) (a2 : Int) (s : St) (Q : (AV → (St → Prop))) : Prop :=
 bsel (decide (a1 < 0)) (
  (Q (AV.tuple [AV.nilslice, (AV.int .i64 151)]) s)
 ) (
  bsel (decide (a1 > a2)) (
   (Q (AV.tuple [AV.nilslice, (AV.int .i64 151)]) s)
  ) (
   bsel (decide (a2 > 2097152)) (
    (Q (AV.tuple [AV.nilslice, (AV.int .i64 151)]) s)
   ) (
    CallsA P F.p_rollup_Rollup_sum [a0, (AV.int .i64 a1), (AV.int .i64 a2)] s fun x1 s2 =>
    ∃ (x3 : AV),
    (x1 = x3) ∧
    (Q (AV.tuple [x3, (AV.int .i64 0)]) s2)
   )
  )
 )
set_option maxRecDepth 100000 in
theorem vc.p_rollup_Rollup_Range_ok {a0 : AV} {a1 : Int} {a2 : Int} {s : St} {Q : AV → St → Prop} (h : vc.p_rollup_Rollup_Range a0 a1 a2 s Q) : CallsA P F.p_rollup_Rollup_Range [a0, .int .i64 a1, .int .i64 a2] s Q :=
 fnB_ok (C := C.p_rollup_Rollup_Range) hD hX mixes (fi := fnI Try.f11) (by kernel_rfl) (by kernel_rfl) (cast (by kernel_rfl : vc.p_rollup_Rollup_Range a0 a1 a2 s Q = wpC P C.p_rollup_Rollup_Range 1000000 (fnI Try.f11).body ⟨PT.setAll .nil 0 [a0, .int .i64 a1, .int .i64 a2], max [a0, .int .i64 a1, .int .i64 a2].length (fnI Try.f11).nt, s, []⟩ (endW C.p_rollup_Rollup_Range (fnI Try.f11).results Q)) h)
def C.spoorlaw15_edges : Cx := { D := D, rt := rt, its := [], lps := [] }
set_option maxRecDepth 100000 in
def vc.spoorlaw15_edges (a0 : AV) (a1 : Int) (a2 : Int) (s : St) (Q : (AV → (St → Prop))) : Prop :=
 CallsA P F.p_rollup_Rollup_Range [a0, (AV.int .i64 a1), (AV.int .i64 a2)] s fun x1 s2 =>
 ∃ (x3 : AV) (n4 : Int),
 (x1 = (AV.tuple [x3, (AV.int .i64 n4)])) ∧
 (Q x3 s2)
set_option maxRecDepth 100000 in
theorem vc.spoorlaw15_edges_ok {a0 : AV} {a1 : Int} {a2 : Int} {s : St} {Q : AV → St → Prop} (h : vc.spoorlaw15_edges a0 a1 a2 s Q) : CallsA P F.spoorlaw15_edges [a0, .int .i64 a1, .int .i64 a2] s Q :=
 fnB_ok (C := C.spoorlaw15_edges) hD hX mixes (fi := fnI Try.f14) (by kernel_rfl) (by kernel_rfl) (cast (by kernel_rfl : vc.spoorlaw15_edges a0 a1 a2 s Q = wpC P C.spoorlaw15_edges 1000000 (fnI Try.f14).body ⟨PT.setAll .nil 0 [a0, .int .i64 a1, .int .i64 a2], max [a0, .int .i64 a1, .int .i64 a2].length (fnI Try.f14).nt, s, []⟩ (endW C.spoorlaw15_edges (fnI Try.f14).results Q)) h)
end
end Go.Eng.S

namespace Go.Eng.S
open Go Go.Eng Go.Proofs
noncomputable section
def C.spoorref15_EdgeLess : Cx := { D := D, rt := rt, its := [], lps := [], det := true }
set_option maxRecDepth 100000 in
def vc.spoorref15_EdgeLess (a0_0 : ByteArray) (a0_1 : ByteArray) (a1_0 : ByteArray) (a1_1 : ByteArray) (s : St) (Q : (AV → (St → Prop))) : Prop :=
 ∀ (m1 : Nat) (s2 : St),
 (NewO s (cellsO [(AV.str a0_0), (AV.str a0_1)]) m1 s2) →
 ∀ (m3 : Nat) (s4 : St),
 (NewO s2 (cellsO [(AV.str a1_0), (AV.str a1_1)]) m3 s4) →
 ∃ (t5 : ByteArray),
 ((ld1 s4 (AV.ptr m1 0)) = (some (AV.str t5))) ∧
 ∃ (t6 : ByteArray),
 ((ld1 s4 (AV.ptr m3 0)) = (some (AV.str t6))) ∧
 bsel (! (bytesEq (Array.toList (ByteArray.data t5)) (Array.toList (ByteArray.data t6)))) (
  ∃ (t7 : ByteArray),
  ((ld1 s4 (AV.ptr m1 0)) = (some (AV.str t7))) ∧
  ∃ (t8 : ByteArray),
  ((ld1 s4 (AV.ptr m3 0)) = (some (AV.str t8))) ∧
  (Q (AV.bool (bytesLt (Array.toList (ByteArray.data t7)) (Array.toList (ByteArray.data t8)))) s4)
 ) (
  ∃ (t9 : ByteArray),
  ((ld1 s4 (AV.ptr m1 1)) = (some (AV.str t9))) ∧
  ∃ (t10 : ByteArray),
  ((ld1 s4 (AV.ptr m3 1)) = (some (AV.str t10))) ∧
  (Q (AV.bool (bytesLt (Array.toList (ByteArray.data t9)) (Array.toList (ByteArray.data t10)))) s4)
 )
set_option maxRecDepth 100000 in
theorem vc.spoorref15_EdgeLess_ok {a0_0 : ByteArray} {a0_1 : ByteArray} {a1_0 : ByteArray} {a1_1 : ByteArray} {s : St} {Q : AV → St → Prop} (h : vc.spoorref15_EdgeLess a0_0 a0_1 a1_0 a1_1 s Q) : CallsD P F.spoorref15_EdgeLess [.agg [.str a0_0, .str a0_1], .agg [.str a1_0, .str a1_1]] s Q :=
 fnD_ok (C := C.spoorref15_EdgeLess) hD hX rfl mixes (fi := fnI Try.f42) (by kernel_rfl) (by kernel_rfl) (cast (by kernel_rfl : vc.spoorref15_EdgeLess a0_0 a0_1 a1_0 a1_1 s Q = wpC P C.spoorref15_EdgeLess 1000000 (fnI Try.f42).body ⟨PT.setAll .nil 0 [.agg [.str a0_0, .str a0_1], .agg [.str a1_0, .str a1_1]], max [.agg [.str a0_0, .str a0_1], .agg [.str a1_0, .str a1_1]].length (fnI Try.f42).nt, s, []⟩ (endW C.spoorref15_EdgeLess (fnI Try.f42).results Q)) h)
def C.spoorref15_Copy : Cx := { D := D, rt := rt, its := [], lps := [], det := true }
set_option maxRecDepth 100000 in
def vc.spoorref15_Copy (a0_0 : Int) (a0_1 : Int) (a0_2 : Int) (a0_3 : Int) (a0_4 : Int) (a0_5 : Int) (a0_6 : AV) (s : St) (Q : (AV → (St → Prop))) : Prop :=
 ∀ (m1 : Nat) (s2 : St),
 (NewO s (cellsO [(AV.int .u64 a0_0), (AV.int .u64 a0_1), (AV.int .u64 a0_2), (AV.int .u64 a0_3), (AV.int .u64 a0_4), (AV.int .u64 a0_5), a0_6]) m1 s2) →
 ∀ (m3 : Nat) (s4 : St),
 (NewO s2 (cellsO [(AV.int .u64 0), (AV.int .u64 0), (AV.int .u64 0), (AV.int .u64 0), (AV.int .u64 0), (AV.int .u64 0), AV.nilslice]) m3 s4) →
 ∃ (x5 : AV),
 ((ld1 s4 (AV.ptr m1 6)) = (some x5)) ∧
 ∃ (x6 : AV) (s7 : St),
 ((appendX D s4 T.sl_api_Bar T.sl_api_Bar AV.nilslice x5) = (some (x6, s7))) ∧
 (oneK x6 (∃ s8 : St, (((wrN s7 (AV.ptr m1 6) [x6]) = (some s8)) ∧ (∃ n9 : Int, (∃ n10 : Int, (∃ n11 : Int, (∃ n12 : Int, (∃ n13 : Int, (∃ n14 : Int, (∃ x15 : AV, (((ldN s8 (AV.ptr m1 0) 7) = (some [(AV.int .u64 n9), (AV.int .u64 n10), (AV.int .u64 n11), (AV.int .u64 n12), (AV.int .u64 n13), (AV.int .u64 n14), x15])) ∧ (∃ s16 : St, (((wrN s8 (AV.ptr m3 0) [(AV.int .u64 n9), (AV.int .u64 n10), (AV.int .u64 n11), (AV.int .u64 n12), (AV.int .u64 n13), (AV.int .u64 n14), x15]) = (some s16)) ∧ (∃ n17 : Int, (∃ n18 : Int, (∃ n19 : Int, (∃ n20 : Int, (∃ n21 : Int, (∃ n22 : Int, (∃ x23 : AV, (((ldN s16 (AV.ptr m3 0) 7) = (some [(AV.int .u64 n17), (AV.int .u64 n18), (AV.int .u64 n19), (AV.int .u64 n20), (AV.int .u64 n21), (AV.int .u64 n22), x23])) ∧ (Q (AV.agg [(AV.int .u64 n17), (AV.int .u64 n18), (AV.int .u64 n19), (AV.int .u64 n20), (AV.int .u64 n21), (AV.int .u64 n22), x23]) s16))))))))))))))))))))))
set_option maxRecDepth 100000 in
theorem vc.spoorref15_Copy_ok {a0_0 : Int} {a0_1 : Int} {a0_2 : Int} {a0_3 : Int} {a0_4 : Int} {a0_5 : Int} {a0_6 : AV} {s : St} {Q : AV → St → Prop} (h : vc.spoorref15_Copy a0_0 a0_1 a0_2 a0_3 a0_4 a0_5 a0_6 s Q) : CallsD P F.spoorref15_Copy [.agg [.int .u64 a0_0, .int .u64 a0_1, .int .u64 a0_2, .int .u64 a0_3, .int .u64 a0_4, .int .u64 a0_5, a0_6]] s Q :=
 fnD_ok (C := C.spoorref15_Copy) hD hX rfl mixes (fi := fnI Try.f48) (by kernel_rfl) (by kernel_rfl) (cast (by kernel_rfl : vc.spoorref15_Copy a0_0 a0_1 a0_2 a0_3 a0_4 a0_5 a0_6 s Q = wpC P C.spoorref15_Copy 1000000 (fnI Try.f48).body ⟨PT.setAll .nil 0 [.agg [.int .u64 a0_0, .int .u64 a0_1, .int .u64 a0_2, .int .u64 a0_3, .int .u64 a0_4, .int .u64 a0_5, a0_6]], max [.agg [.int .u64 a0_0, .int .u64 a0_1, .int .u64 a0_2, .int .u64 a0_3, .int .u64 a0_4, .int .u64 a0_5, a0_6]].length (fnI Try.f48).nt, s, []⟩ (endW C.spoorref15_Copy (fnI Try.f48).results Q)) h)
def C.spoorref15_with : Cx := { D := D, rt := rt, its := [], lps := [(0, [9, 19, 18, 17, 16, 7, 28, 27, 29, 8, 20, 21, 22, 23, 24, 25, 26, 13, 14, 15], [7, 8])], det := true }
set_option maxRecDepth 100000 in
def vc.spoorref15_with (a0 : AV) (a1_0 : ByteArray) (a1_1 : ByteArray) (a2_0 : Int) (a2_1 : Int) (a2_2 : Int) (a2_3 : Int) (a2_4 : Int) (a2_5 : Int) (a2_6 : AV) (s : St) (Q : (AV → (St → Prop))) : Prop :=
 ∀ (m1 : Nat) (s2 : St),
 (NewO s (cellsO [(AV.str a1_0), (AV.str a1_1)]) m1 s2) →
 ∀ (m3 : Nat) (s4 : St),
 (NewO s2 (cellsO [(AV.int .u64 a2_0), (AV.int .u64 a2_1), (AV.int .u64 a2_2), (AV.int .u64 a2_3), (AV.int .u64 a2_4), (AV.int .u64 a2_5), a2_6]) m3 s4) →
 slenK a0 fun m5 =>
 ∃ (I6 : (Int → (Int → (St → (Nat → Prop))))),
 (
  ∃ (m7 : Nat),
  (I6 0 ((m5 : Nat) : Int) s4 m7)
 ) ∧
 ∀ (n8 : Int) (n9 : Int) (s10 : St) (m11 : Nat),
 (I6 n8 n9 s10 m11) →
 bsel (decide (n8 < n9)) (
  ((2 : Int) ≠ 0) ∧
  ∀ (s12 : St),
  (Bump s10 7 s12) →
  ixsK 9 a0 (IntKind.wrap .i64 (Int.tdiv (IntKind.wrap .i64 (n8 + n9)) 2)) fun m13 m14 =>
  ∃ (t15 : ByteArray) (t16 : ByteArray),
  ((ldN s12 (AV.ptr m13 m14) 2) = (some [(AV.str t15), (AV.str t16)])) ∧
  ∃ (t17 : ByteArray) (t18 : ByteArray),
  ((ldN s12 (AV.ptr m1 0) 2) = (some [(AV.str t17), (AV.str t18)])) ∧
  CallsD P F.spoorref15_EdgeLess [(AV.agg [(AV.str t15), (AV.str t16)]), (AV.agg [(AV.str t17), (AV.str t18)])] s12 fun x19 s20 =>
  ∃ (c21 : Bool),
  (x19 = (AV.bool c21)) ∧
  bsel c21 (
   ∃ (m22 : Nat),
   (m22 < m11) ∧
   (I6 (IntKind.wrap .i64 ((IntKind.wrap .i64 (Int.tdiv (IntKind.wrap .i64 (n8 + n9)) 2)) + 1)) n9 s20 m22)
  ) (
   ∃ (m23 : Nat),
   (m23 < m11) ∧
   (I6 n8 (IntKind.wrap .i64 (Int.tdiv (IntKind.wrap .i64 (n8 + n9)) 2)) s20 m23)
  )
 ) (
  ∀ (s24 : St),
  (Bump s10 13 s24) →
  slenK a0 fun m25 =>
  bsel (decide (n8 < ((m25 : Nat) : Int))) (
   ixsK 9 a0 n8 fun m26 m27 =>
   ∃ (t28 : ByteArray) (t29 : ByteArray),
   ((ldN s24 (AV.ptr m26 m27) 2) = (some [(AV.str t28), (AV.str t29)])) ∧
   ∃ (t30 : ByteArray) (t31 : ByteArray),
   ((ldN s24 (AV.ptr m1 0) 2) = (some [(AV.str t30), (AV.str t31)])) ∧
   bsel (if (true = true) then ((bytesEq (Array.toList (ByteArray.data t28)) (Array.toList (ByteArray.data t30))) && ((bytesEq (Array.toList (ByteArray.data t29)) (Array.toList (ByteArray.data t31))) && true)) else (! ((bytesEq (Array.toList (ByteArray.data t28)) (Array.toList (ByteArray.data t30))) && ((bytesEq (Array.toList (ByteArray.data t29)) (Array.toList (ByteArray.data t31))) && true)))) (
    ∀ (s32 : St),
    (Bump s24 15 s32) →
    ixsK 9 a0 n8 fun m33 m34 =>
    ∃ (n35 : Int) (n36 : Int) (n37 : Int) (n38 : Int) (n39 : Int) (n40 : Int) (x41 : AV),
    ((ldN s32 (AV.ptr m33 (m34 + 2)) 7) = (some [(AV.int .u64 n35), (AV.int .u64 n36), (AV.int .u64 n37), (AV.int .u64 n38), (AV.int .u64 n39), (AV.int .u64 n40), x41])) ∧
    ∃ (n42 : Int) (n43 : Int) (n44 : Int) (n45 : Int) (n46 : Int) (n47 : Int) (x48 : AV),
    ((ldN s32 (AV.ptr m3 0) 7) = (some [(AV.int .u64 n42), (AV.int .u64 n43), (AV.int .u64 n44), (AV.int .u64 n45), (AV.int .u64 n46), (AV.int .u64 n47), x48])) ∧
    CallsD P F.spoorref14_Plus [(AV.agg [(AV.int .u64 n35), (AV.int .u64 n36), (AV.int .u64 n37), (AV.int .u64 n38), (AV.int .u64 n39), (AV.int .u64 n40), x41]), (AV.agg [(AV.int .u64 n42), (AV.int .u64 n43), (AV.int .u64 n44), (AV.int .u64 n45), (AV.int .u64 n46), (AV.int .u64 n47), x48])] s32 fun x49 s50 =>
    ∃ (n51 : Int) (n52 : Int) (n53 : Int) (n54 : Int) (n55 : Int) (n56 : Int) (x57 : AV) (n58 : Int),
    (x49 = (AV.tuple [(AV.agg [(AV.int .u64 n51), (AV.int .u64 n52), (AV.int .u64 n53), (AV.int .u64 n54), (AV.int .u64 n55), (AV.int .u64 n56), x57]), (AV.int .i64 n58)])) ∧
    ixsK 9 a0 n8 fun m59 m60 =>
    ∃ (s61 : St),
    ((wrN s50 (AV.ptr m59 (m60 + 2)) [(AV.int .u64 n51), (AV.int .u64 n52), (AV.int .u64 n53), (AV.int .u64 n54), (AV.int .u64 n55), (AV.int .u64 n56), x57]) = (some s61)) ∧
    (Q a0 s61)
   ) (
    optK (sliceV 9 a0 none (some (AV.int .i64 n8)) none) fun x62 =>
    ∃ (x63 : AV) (s64 : St),
    ((appendX D s24 T.sl_api_EdgeTally T.sl_api_EdgeTally AV.nilslice x62) = (some (x63, s64))) ∧
    ∀ (s65 : St),
    (Bump s64 8 s65) →
    ∃ (t66 : ByteArray) (t67 : ByteArray),
    ((ldN s65 (AV.ptr m1 0) 2) = (some [(AV.str t66), (AV.str t67)])) ∧
    ∃ (n68 : Int) (n69 : Int) (n70 : Int) (n71 : Int) (n72 : Int) (n73 : Int) (x74 : AV),
    ((ldN s65 (AV.ptr m3 0) 7) = (some [(AV.int .u64 n68), (AV.int .u64 n69), (AV.int .u64 n70), (AV.int .u64 n71), (AV.int .u64 n72), (AV.int .u64 n73), x74])) ∧
    CallsD P F.spoorref15_Copy [(AV.agg [(AV.int .u64 n68), (AV.int .u64 n69), (AV.int .u64 n70), (AV.int .u64 n71), (AV.int .u64 n72), (AV.int .u64 n73), x74])] s65 fun x75 s76 =>
    ∃ (n77 : Int) (n78 : Int) (n79 : Int) (n80 : Int) (n81 : Int) (n82 : Int) (x83 : AV),
    (x75 = (AV.agg [(AV.int .u64 n77), (AV.int .u64 n78), (AV.int .u64 n79), (AV.int .u64 n80), (AV.int .u64 n81), (AV.int .u64 n82), x83])) ∧
    ((ldN s76 (AV.ptr m1 0) 2) = (some [(AV.str t66), (AV.str t67)])) ∧
    ∃ (x84 : AV) (s85 : St),
    (
     ((appendX D (hsetS s76 ((St.nx s64) + 5) (cellsO [(AV.str t66), (AV.str t67), (AV.int .u64 n77), (AV.int .u64 n78), (AV.int .u64 n79), (AV.int .u64 n80), (AV.int .u64 n81), (AV.int .u64 n82), x83])) T.sl_api_EdgeTally T.sl_api_EdgeTally x63 (AV.slice ((St.nx s64) + 5) 0 1 (ACap.exact 1))) = (some (x84, s85)))
    ) ∧
    optK (sliceV 9 a0 (some (AV.int .i64 n8)) none none) fun x86 =>
    ∃ (x87 : AV) (s88 : St),
    ((appendX D s85 T.sl_api_EdgeTally T.sl_api_EdgeTally x84 x86) = (some (x87, s88))) ∧
    (Q x87 s88)
   )
  ) (
   optK (sliceV 9 a0 none (some (AV.int .i64 n8)) none) fun x89 =>
   ∃ (x90 : AV) (s91 : St),
   ((appendX D s24 T.sl_api_EdgeTally T.sl_api_EdgeTally AV.nilslice x89) = (some (x90, s91))) ∧
   ∀ (s92 : St),
   (Bump s91 8 s92) →
   ∃ (t93 : ByteArray) (t94 : ByteArray),
   ((ldN s92 (AV.ptr m1 0) 2) = (some [(AV.str t93), (AV.str t94)])) ∧
   ∃ (n95 : Int) (n96 : Int) (n97 : Int) (n98 : Int) (n99 : Int) (n100 : Int) (x101 : AV),
   ((ldN s92 (AV.ptr m3 0) 7) = (some [(AV.int .u64 n95), (AV.int .u64 n96), (AV.int .u64 n97), (AV.int .u64 n98), (AV.int .u64 n99), (AV.int .u64 n100), x101])) ∧
   CallsD P F.spoorref15_Copy [(AV.agg [(AV.int .u64 n95), (AV.int .u64 n96), (AV.int .u64 n97), (AV.int .u64 n98), (AV.int .u64 n99), (AV.int .u64 n100), x101])] s92 fun x102 s103 =>
   ∃ (n104 : Int) (n105 : Int) (n106 : Int) (n107 : Int) (n108 : Int) (n109 : Int) (x110 : AV),
   (x102 = (AV.agg [(AV.int .u64 n104), (AV.int .u64 n105), (AV.int .u64 n106), (AV.int .u64 n107), (AV.int .u64 n108), (AV.int .u64 n109), x110])) ∧
   ((ldN s103 (AV.ptr m1 0) 2) = (some [(AV.str t93), (AV.str t94)])) ∧
   ∃ (x111 : AV) (s112 : St),
   (
    ((appendX D (hsetS s103 ((St.nx s91) + 5) (cellsO [(AV.str t93), (AV.str t94), (AV.int .u64 n104), (AV.int .u64 n105), (AV.int .u64 n106), (AV.int .u64 n107), (AV.int .u64 n108), (AV.int .u64 n109), x110])) T.sl_api_EdgeTally T.sl_api_EdgeTally x90 (AV.slice ((St.nx s91) + 5) 0 1 (ACap.exact 1))) = (some (x111, s112)))
   ) ∧
   optK (sliceV 9 a0 (some (AV.int .i64 n8)) none none) fun x113 =>
   ∃ (x114 : AV) (s115 : St),
   ((appendX D s112 T.sl_api_EdgeTally T.sl_api_EdgeTally x111 x113) = (some (x114, s115))) ∧
   (Q x114 s115)
  )
 )
set_option maxRecDepth 100000 in
theorem vc.spoorref15_with_ok {a0 : AV} {a1_0 : ByteArray} {a1_1 : ByteArray} {a2_0 : Int} {a2_1 : Int} {a2_2 : Int} {a2_3 : Int} {a2_4 : Int} {a2_5 : Int} {a2_6 : AV} {s : St} {Q : AV → St → Prop} (h : vc.spoorref15_with a0 a1_0 a1_1 a2_0 a2_1 a2_2 a2_3 a2_4 a2_5 a2_6 s Q) : CallsD P F.spoorref15_with [a0, .agg [.str a1_0, .str a1_1], .agg [.int .u64 a2_0, .int .u64 a2_1, .int .u64 a2_2, .int .u64 a2_3, .int .u64 a2_4, .int .u64 a2_5, a2_6]] s Q :=
 fnD_ok (C := C.spoorref15_with) hD hX rfl mixes (fi := fnI Try.f32) (by kernel_rfl) (by kernel_rfl) (cast (by kernel_rfl : vc.spoorref15_with a0 a1_0 a1_1 a2_0 a2_1 a2_2 a2_3 a2_4 a2_5 a2_6 s Q = wpC P C.spoorref15_with 1000000 (fnI Try.f32).body ⟨PT.setAll .nil 0 [a0, .agg [.str a1_0, .str a1_1], .agg [.int .u64 a2_0, .int .u64 a2_1, .int .u64 a2_2, .int .u64 a2_3, .int .u64 a2_4, .int .u64 a2_5, a2_6]], max [a0, .agg [.str a1_0, .str a1_1], .agg [.int .u64 a2_0, .int .u64 a2_1, .int .u64 a2_2, .int .u64 a2_3, .int .u64 a2_4, .int .u64 a2_5, a2_6]].length (fnI Try.f32).nt, s, []⟩ (endW C.spoorref15_with (fnI Try.f32).results Q)) h)
def C.spoorref15_Sum : Cx := { D := D, rt := rt, its := [], lps := [(0, [5, 3, 38, 37, 36, 35, 34, 33, 32, 31, 30, 29, 28, 27, 26, 25, 24, 23, 22, 21, 19, 20, 12, 13, 14, 15, 16, 17, 18, 10, 11, 4, 6, 7, 8, 9], [3, 4]), (2, [3, 38, 37, 36, 35, 34, 33, 32, 31, 30, 29, 28, 27, 26, 25, 24, 23, 22, 21, 19, 20, 5, 12, 13, 14, 15, 16, 17, 18], [3, 5])], msk := [(2, [true, false])], det := true }
set_option maxRecDepth 100000 in
def vc.spoorref15_Sum (a0 : AV) (s : St) (Q : (AV → (St → Prop))) : Prop :=
 ∃ (I1 : (AV → (Int → (St → (Nat → Prop))))),
 (
  ∃ (m2 : Nat),
  (I1 AV.nilslice 0 s m2)
 ) ∧
 ∀ (x3 : AV) (n4 : Int) (s5 : St) (m6 : Nat),
 (I1 x3 n4 s5 m6) →
 slenK a0 fun m7 =>
 bsel (decide (n4 < ((m7 : Nat) : Int))) (
  ∃ (I8 : (AV → (Int → (St → (Nat → Prop))))),
  (
   ∃ (m9 : Nat),
   (I8 x3 0 s5 m9)
  ) ∧
  ∀ (x10 : AV) (n11 : Int) (s12 : St) (m13 : Nat),
  (I8 x10 n11 s12 m13) →
  ixsK 1 a0 n4 fun m14 m15 =>
  ∃ (x16 : AV),
  ((ld1 s12 (AV.ptr m14 m15)) = (some x16)) ∧
  slenK x16 fun m17 =>
  bsel (decide (n11 < ((m17 : Nat) : Int))) (
   ∀ (s18 : St),
   (Bump s12 19 s18) →
   ixsK 1 a0 n4 fun m19 m20 =>
   ∃ (x21 : AV),
   ((ld1 s18 (AV.ptr m19 m20)) = (some x21)) ∧
   ixsK 9 x21 n11 fun m22 m23 =>
   ∃ (t24 : ByteArray) (t25 : ByteArray),
   ((ldN s18 (AV.ptr m22 m23) 2) = (some [(AV.str t24), (AV.str t25)])) ∧
   ixsK 1 a0 n4 fun m26 m27 =>
   ∃ (x28 : AV),
   ((ld1 s18 (AV.ptr m26 m27)) = (some x28)) ∧
   ixsK 9 x28 n11 fun m29 m30 =>
   ∃ (n31 : Int) (n32 : Int) (n33 : Int) (n34 : Int) (n35 : Int) (n36 : Int) (x37 : AV),
   ((ldN s18 (AV.ptr m29 (m30 + 2)) 7) = (some [(AV.int .u64 n31), (AV.int .u64 n32), (AV.int .u64 n33), (AV.int .u64 n34), (AV.int .u64 n35), (AV.int .u64 n36), x37])) ∧
   CallsD P F.spoorref15_with [x10, (AV.agg [(AV.str t24), (AV.str t25)]), (AV.agg [(AV.int .u64 n31), (AV.int .u64 n32), (AV.int .u64 n33), (AV.int .u64 n34), (AV.int .u64 n35), (AV.int .u64 n36), x37])] s18 fun x38 s39 =>
   ∃ (x40 : AV),
   (x38 = x40) ∧
   ∃ (m41 : Nat),
   (m41 < m13) ∧
   (I8 x40 (IntKind.wrap .i64 (n11 + 1)) s39 m41)
  ) (
   ∃ (m42 : Nat),
   (m42 < m6) ∧
   (I1 x10 (IntKind.wrap .i64 (n4 + 1)) s12 m42)
  )
 ) (
  (Q x3 s5)
 )
set_option maxRecDepth 100000 in
theorem vc.spoorref15_Sum_ok {a0 : AV} {s : St} {Q : AV → St → Prop} (h : vc.spoorref15_Sum a0 s Q) : CallsD P F.spoorref15_Sum [a0] s Q :=
 fnD_ok (C := C.spoorref15_Sum) hD hX rfl mixes (fi := fnI Try.f15) (by kernel_rfl) (by kernel_rfl) (cast (by kernel_rfl : vc.spoorref15_Sum a0 s Q = wpC P C.spoorref15_Sum 1000000 (fnI Try.f15).body ⟨PT.setAll .nil 0 [a0], max [a0].length (fnI Try.f15).nt, s, []⟩ (endW C.spoorref15_Sum (fnI Try.f15).results Q)) h)
def C.spoorref15_SameTally : Cx := { D := D, rt := rt, its := [], lps := [(0, [51, 50, 49, 48, 47, 46, 45, 44, 43, 42, 41, 4, 39, 40, 5, 34, 35, 36, 37, 38], [5])], det := true }
set_option maxRecDepth 100000 in
def vc.spoorref15_SameTally (a0_0 : Int) (a0_1 : Int) (a0_2 : Int) (a0_3 : Int) (a0_4 : Int) (a0_5 : Int) (a0_6 : AV) (a1_0 : Int) (a1_1 : Int) (a1_2 : Int) (a1_3 : Int) (a1_4 : Int) (a1_5 : Int) (a1_6 : AV) (s : St) (Q : (AV → (St → Prop))) : Prop :=
 ∀ (m1 : Nat) (s2 : St),
 (NewO s (cellsO [(AV.int .u64 a0_0), (AV.int .u64 a0_1), (AV.int .u64 a0_2), (AV.int .u64 a0_3), (AV.int .u64 a0_4), (AV.int .u64 a0_5), a0_6]) m1 s2) →
 ∀ (m3 : Nat) (s4 : St),
 (NewO s2 (cellsO [(AV.int .u64 a1_0), (AV.int .u64 a1_1), (AV.int .u64 a1_2), (AV.int .u64 a1_3), (AV.int .u64 a1_4), (AV.int .u64 a1_5), a1_6]) m3 s4) →
 ∃ (n5 : Int) (n6 : Int),
 ((ldN s4 (AV.ptr m1 0) 2) = (some [(AV.int .u64 n5), (AV.int .u64 n6)])) ∧
 ∃ (n7 : Int) (n8 : Int),
 ((ldN s4 (AV.ptr m3 0) 2) = (some [(AV.int .u64 n7), (AV.int .u64 n8)])) ∧
 bsel (if (false = true) then ((n5 == n7) && ((n6 == n8) && true)) else (! ((n5 == n7) && ((n6 == n8) && true)))) (
  (Q (AV.bool false) s4)
 ) (
  ∃ (n9 : Int) (n10 : Int),
  ((ldN s4 (AV.ptr m1 2) 2) = (some [(AV.int .u64 n9), (AV.int .u64 n10)])) ∧
  ∃ (n11 : Int) (n12 : Int),
  ((ldN s4 (AV.ptr m3 2) 2) = (some [(AV.int .u64 n11), (AV.int .u64 n12)])) ∧
  bsel (if (false = true) then ((n9 == n11) && ((n10 == n12) && true)) else (! ((n9 == n11) && ((n10 == n12) && true)))) (
   (Q (AV.bool false) s4)
  ) (
   ∃ (n13 : Int) (n14 : Int),
   ((ldN s4 (AV.ptr m1 4) 2) = (some [(AV.int .u64 n13), (AV.int .u64 n14)])) ∧
   ∃ (n15 : Int) (n16 : Int),
   ((ldN s4 (AV.ptr m3 4) 2) = (some [(AV.int .u64 n15), (AV.int .u64 n16)])) ∧
   bsel (if (false = true) then ((n13 == n15) && ((n14 == n16) && true)) else (! ((n13 == n15) && ((n14 == n16) && true)))) (
    (Q (AV.bool false) s4)
   ) (
    ∃ (x17 : AV),
    ((ld1 s4 (AV.ptr m1 6)) = (some x17)) ∧
    slenK x17 fun m18 =>
    ∃ (x19 : AV),
    ((ld1 s4 (AV.ptr m3 6)) = (some x19)) ∧
    slenK x19 fun m20 =>
    bsel (((m18 : Nat) : Int) != ((m20 : Nat) : Int)) (
     (Q (AV.bool false) s4)
    ) (
     ∃ (I21 : (Int → (St → (Nat → Prop)))),
     (
      ∃ (m22 : Nat),
      (I21 0 s4 m22)
     ) ∧
     ∀ (n23 : Int) (s24 : St) (m25 : Nat),
     (I21 n23 s24 m25) →
     ∃ (x26 : AV),
     ((ld1 s24 (AV.ptr m1 6)) = (some x26)) ∧
     slenK x26 fun m27 =>
     bsel (decide (n23 < ((m27 : Nat) : Int))) (
      ∀ (s28 : St),
      (Bump s24 11 s28) →
      ∃ (x29 : AV),
      ((ld1 s28 (AV.ptr m1 6)) = (some x29)) ∧
      ixsK 2 x29 n23 fun m30 m31 =>
      ∃ (n32 : Int) (n33 : Int),
      ((ldN s28 (AV.ptr m30 m31) 2) = (some [(AV.int .i64 n32), (AV.int .u64 n33)])) ∧
      ∃ (x34 : AV),
      ((ld1 s28 (AV.ptr m3 6)) = (some x34)) ∧
      ixsK 2 x34 n23 fun m35 m36 =>
      ∃ (n37 : Int) (n38 : Int),
      ((ldN s28 (AV.ptr m35 m36) 2) = (some [(AV.int .i64 n37), (AV.int .u64 n38)])) ∧
      bsel (if (false = true) then ((n32 == n37) && ((n33 == n38) && true)) else (! ((n32 == n37) && ((n33 == n38) && true)))) (
       (Q (AV.bool false) s28)
      ) (
       ∃ (m39 : Nat),
       (m39 < m25) ∧
       (I21 (IntKind.wrap .i64 (n23 + 1)) s28 m39)
      )
     ) (
      (Q (AV.bool true) s24)
     )
    )
   )
  )
 )
set_option maxRecDepth 100000 in
theorem vc.spoorref15_SameTally_ok {a0_0 : Int} {a0_1 : Int} {a0_2 : Int} {a0_3 : Int} {a0_4 : Int} {a0_5 : Int} {a0_6 : AV} {a1_0 : Int} {a1_1 : Int} {a1_2 : Int} {a1_3 : Int} {a1_4 : Int} {a1_5 : Int} {a1_6 : AV} {s : St} {Q : AV → St → Prop} (h : vc.spoorref15_SameTally a0_0 a0_1 a0_2 a0_3 a0_4 a0_5 a0_6 a1_0 a1_1 a1_2 a1_3 a1_4 a1_5 a1_6 s Q) : CallsD P F.spoorref15_SameTally [.agg [.int .u64 a0_0, .int .u64 a0_1, .int .u64 a0_2, .int .u64 a0_3, .int .u64 a0_4, .int .u64 a0_5, a0_6], .agg [.int .u64 a1_0, .int .u64 a1_1, .int .u64 a1_2, .int .u64 a1_3, .int .u64 a1_4, .int .u64 a1_5, a1_6]] s Q :=
 fnD_ok (C := C.spoorref15_SameTally) hD hX rfl mixes (fi := fnI Try.f23) (by kernel_rfl) (by kernel_rfl) (cast (by kernel_rfl : vc.spoorref15_SameTally a0_0 a0_1 a0_2 a0_3 a0_4 a0_5 a0_6 a1_0 a1_1 a1_2 a1_3 a1_4 a1_5 a1_6 s Q = wpC P C.spoorref15_SameTally 1000000 (fnI Try.f23).body ⟨PT.setAll .nil 0 [.agg [.int .u64 a0_0, .int .u64 a0_1, .int .u64 a0_2, .int .u64 a0_3, .int .u64 a0_4, .int .u64 a0_5, a0_6], .agg [.int .u64 a1_0, .int .u64 a1_1, .int .u64 a1_2, .int .u64 a1_3, .int .u64 a1_4, .int .u64 a1_5, a1_6]], max [.agg [.int .u64 a0_0, .int .u64 a0_1, .int .u64 a0_2, .int .u64 a0_3, .int .u64 a0_4, .int .u64 a0_5, a0_6], .agg [.int .u64 a1_0, .int .u64 a1_1, .int .u64 a1_2, .int .u64 a1_3, .int .u64 a1_4, .int .u64 a1_5, a1_6]].length (fnI Try.f23).nt, s, []⟩ (endW C.spoorref15_SameTally (fnI Try.f23).results Q)) h)
def C.spoorref15_SameEdges : Cx := { D := D, rt := rt, its := [], lps := [(0, [41, 40, 39, 38, 37, 36, 35, 34, 33, 32, 31, 30, 29, 28, 27, 26, 25, 24, 23, 22, 21, 20, 19, 18, 17, 4, 15, 16, 5, 11, 12, 13, 14], [5])], det := true }
set_option maxRecDepth 100000 in
def vc.spoorref15_SameEdges (a0 : AV) (a1 : AV) (s : St) (Q : (AV → (St → Prop))) : Prop :=
 slenK a0 fun m1 =>
 slenK a1 fun m2 =>
 bsel (((m1 : Nat) : Int) != ((m2 : Nat) : Int)) (
  (Q (AV.bool false) s)
 ) (
  ∃ (I3 : (Int → (St → (Nat → Prop)))),
  (
   ∃ (m4 : Nat),
   (I3 0 s m4)
  ) ∧
  ∀ (n5 : Int) (s6 : St) (m7 : Nat),
  (I3 n5 s6 m7) →
  slenK a0 fun m8 =>
  bsel (decide (n5 < ((m8 : Nat) : Int))) (
   ∀ (s9 : St),
   (Bump s6 25 s9) →
   ixsK 9 a0 n5 fun m10 m11 =>
   ∃ (t12 : ByteArray) (t13 : ByteArray),
   ((ldN s9 (AV.ptr m10 m11) 2) = (some [(AV.str t12), (AV.str t13)])) ∧
   ixsK 9 a1 n5 fun m14 m15 =>
   ∃ (t16 : ByteArray) (t17 : ByteArray),
   ((ldN s9 (AV.ptr m14 m15) 2) = (some [(AV.str t16), (AV.str t17)])) ∧
   bsel (if (false = true) then ((bytesEq (Array.toList (ByteArray.data t12)) (Array.toList (ByteArray.data t16))) && ((bytesEq (Array.toList (ByteArray.data t13)) (Array.toList (ByteArray.data t17))) && true)) else (! ((bytesEq (Array.toList (ByteArray.data t12)) (Array.toList (ByteArray.data t16))) && ((bytesEq (Array.toList (ByteArray.data t13)) (Array.toList (ByteArray.data t17))) && true)))) (
    (Q (AV.bool false) s9)
   ) (
    ixsK 9 a0 n5 fun m18 m19 =>
    ∃ (n20 : Int) (n21 : Int) (n22 : Int) (n23 : Int) (n24 : Int) (n25 : Int) (x26 : AV),
    ((ldN s9 (AV.ptr m18 (m19 + 2)) 7) = (some [(AV.int .u64 n20), (AV.int .u64 n21), (AV.int .u64 n22), (AV.int .u64 n23), (AV.int .u64 n24), (AV.int .u64 n25), x26])) ∧
    ixsK 9 a1 n5 fun m27 m28 =>
    ∃ (n29 : Int) (n30 : Int) (n31 : Int) (n32 : Int) (n33 : Int) (n34 : Int) (x35 : AV),
    ((ldN s9 (AV.ptr m27 (m28 + 2)) 7) = (some [(AV.int .u64 n29), (AV.int .u64 n30), (AV.int .u64 n31), (AV.int .u64 n32), (AV.int .u64 n33), (AV.int .u64 n34), x35])) ∧
    CallsD P F.spoorref15_SameTally [(AV.agg [(AV.int .u64 n20), (AV.int .u64 n21), (AV.int .u64 n22), (AV.int .u64 n23), (AV.int .u64 n24), (AV.int .u64 n25), x26]), (AV.agg [(AV.int .u64 n29), (AV.int .u64 n30), (AV.int .u64 n31), (AV.int .u64 n32), (AV.int .u64 n33), (AV.int .u64 n34), x35])] s9 fun x36 s37 =>
    ∃ (c38 : Bool),
    (x36 = (AV.bool c38)) ∧
    bsel (!c38) (
     (Q (AV.bool false) s37)
    ) (
     ∃ (m39 : Nat),
     (m39 < m7) ∧
     (I3 (IntKind.wrap .i64 (n5 + 1)) s37 m39)
    )
   )
  ) (
   (Q (AV.bool true) s6)
  )
 )
set_option maxRecDepth 100000 in
theorem vc.spoorref15_SameEdges_ok {a0 : AV} {a1 : AV} {s : St} {Q : AV → St → Prop} (h : vc.spoorref15_SameEdges a0 a1 s Q) : CallsD P F.spoorref15_SameEdges [a0, a1] s Q :=
 fnD_ok (C := C.spoorref15_SameEdges) hD hX rfl mixes (fi := fnI Try.f13) (by kernel_rfl) (by kernel_rfl) (cast (by kernel_rfl : vc.spoorref15_SameEdges a0 a1 s Q = wpC P C.spoorref15_SameEdges 1000000 (fnI Try.f13).body ⟨PT.setAll .nil 0 [a0, a1], max [a0, a1].length (fnI Try.f13).nt, s, []⟩ (endW C.spoorref15_SameEdges (fnI Try.f13).results Q)) h)
end
end Go.Eng.S

