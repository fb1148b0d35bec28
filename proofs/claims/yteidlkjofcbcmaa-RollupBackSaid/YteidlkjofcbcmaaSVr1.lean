/-
  What is to be shown of functions of the program, and that it suffices.
-/
import Derived.Test.YteidlkjofcbcmaaSDefs
namespace Go.Eng.S
open Go Go.Eng Go.Proofs
noncomputable section
/-! ### spoor/rollup.New -/
def C.rollup_New : Cx := { D := D, rt := rt, its := [], lps := [], det := true }
set_option maxRecDepth 100000 in
def vc.rollup_New (a0 : Int) (s : St) (Q : (AV → (St → Prop))) : Prop :=
  bsel (decide (a0 < 2)) (
    (Q (AV.tuple [AV.nilptr, (AV.int .i64 1)]) s)
  ) (
    bsel (decide (a0 > 16)) (
      (Q (AV.tuple [AV.nilptr, (AV.int .i64 1)]) s)
    ) (
      ∀ (m1 : Nat) (s2 : St),
      (NewO s mapO m1 s2) →
      ∀ (m3 : Nat) (s4 : St),
      (NewO s2 (cellsO [(AV.int .i64 a0), (AV.map m1)]) m3 s4) →
      (Q (AV.tuple [(AV.ptr m3 0), (AV.int .i64 0)]) s4)
    )
  )
set_option maxRecDepth 100000 in
theorem vc.rollup_New_ok {a0 : Int} {s : St} {Q : AV → St → Prop} (h : vc.rollup_New a0 s Q) : CallsD P F.rollup_New [.int .i64 a0] s Q :=
  fnD_ok (C := C.rollup_New) hD hX rfl mixes (fi := fnI Try.f20) (by kernel_rfl) (by kernel_rfl) (cast (by kernel_rfl : vc.rollup_New a0 s Q = wpC P C.rollup_New 1000000 (fnI Try.f20).body ⟨PT.setAll .nil 0 [.int .i64 a0], max [.int .i64 a0].length (fnI Try.f20).nt, s, []⟩ (endW C.rollup_New (fnI Try.f20).results Q)) h)
/-! ### spoor/rollup.nothing -/
def C.rollup_nothing : Cx := { D := D, rt := rt, its := [], lps := [], det := true }
set_option maxRecDepth 100000 in
def vc.rollup_nothing (a0_0 : Int) (a0_1 : Int) (a0_2 : Int) (a0_3 : Int) (a0_4 : Int) (a0_5 : Int) (a0_6 : AV) (s : St) (Q : (AV → (St → Prop))) : Prop :=
  ∀ (m1 : Nat) (s2 : St),
  (NewO s (cellsO [(AV.int .u64 a0_0), (AV.int .u64 a0_1), (AV.int .u64 a0_2), (AV.int .u64 a0_3), (AV.int .u64 a0_4), (AV.int .u64 a0_5), a0_6]) m1 s2) →
  ∃ (n3 : Int) (n4 : Int),
  ((ldN s2 (AV.ptr m1 0) 2) = (some [(AV.int .u64 n3), (AV.int .u64 n4)])) ∧
  bsel (if (true = true) then ((n3 == 0) && ((n4 == 0) && true)) else (! ((n3 == 0) && ((n4 == 0) && true)))) (
    ∃ (n5 : Int) (n6 : Int),
    ((ldN s2 (AV.ptr m1 2) 2) = (some [(AV.int .u64 n5), (AV.int .u64 n6)])) ∧
    bsel (if (true = true) then ((n5 == 0) && ((n6 == 0) && true)) else (! ((n5 == 0) && ((n6 == 0) && true)))) (
      ∃ (n7 : Int) (n8 : Int),
      ((ldN s2 (AV.ptr m1 4) 2) = (some [(AV.int .u64 n7), (AV.int .u64 n8)])) ∧
      bsel (if (true = true) then ((n7 == 0) && ((n8 == 0) && true)) else (! ((n7 == 0) && ((n8 == 0) && true)))) (
        ∃ (x9 : AV),
        ((ld1 s2 (AV.ptr m1 6)) = (some x9)) ∧
        slenK x9 fun m10 =>
        (Q (AV.bool (((m10 : Nat) : Int) == 0)) s2)
      ) (
        (Q (AV.bool false) s2)
      )
    ) (
      (Q (AV.bool false) s2)
    )
  ) (
    (Q (AV.bool false) s2)
  )
set_option maxRecDepth 100000 in
theorem vc.rollup_nothing_ok {a0_0 : Int} {a0_1 : Int} {a0_2 : Int} {a0_3 : Int} {a0_4 : Int} {a0_5 : Int} {a0_6 : AV} {s : St} {Q : AV → St → Prop} (h : vc.rollup_nothing a0_0 a0_1 a0_2 a0_3 a0_4 a0_5 a0_6 s Q) : CallsD P F.rollup_nothing [.agg [.int .u64 a0_0, .int .u64 a0_1, .int .u64 a0_2, .int .u64 a0_3, .int .u64 a0_4, .int .u64 a0_5, a0_6]] s Q :=
  fnD_ok (C := C.rollup_nothing) hD hX rfl mixes (fi := fnI Try.f51) (by kernel_rfl) (by kernel_rfl) (cast (by kernel_rfl : vc.rollup_nothing a0_0 a0_1 a0_2 a0_3 a0_4 a0_5 a0_6 s Q = wpC P C.rollup_nothing 1000000 (fnI Try.f51).body ⟨PT.setAll .nil 0 [.agg [.int .u64 a0_0, .int .u64 a0_1, .int .u64 a0_2, .int .u64 a0_3, .int .u64 a0_4, .int .u64 a0_5, a0_6]], max [.agg [.int .u64 a0_0, .int .u64 a0_1, .int .u64 a0_2, .int .u64 a0_3, .int .u64 a0_4, .int .u64 a0_5, a0_6]].length (fnI Try.f51).nt, s, []⟩ (endW C.rollup_nothing (fnI Try.f51).results Q)) h)
/-! ### (*spoor/rollup.Rollup).set -/
def C.p_rollup_Rollup_set : Cx := { D := D, rt := rt, its := [], lps := [], det := true }
set_option maxRecDepth 100000 in
def vc.p_rollup_Rollup_set (a0 : AV) (a1 : Int) (a2_0 : ByteArray) (a2_1 : ByteArray) (a3_0 : Int) (a3_1 : Int) (a3_2 : Int) (a3_3 : Int) (a3_4 : Int) (a3_5 : Int) (a3_6 : AV) (s : St) (Q : (AV → (St → Prop))) : Prop :=
  ∀ (m1 : Nat) (s2 : St),
  (NewO s (cellsO [(AV.str a2_0), (AV.str a2_1)]) m1 s2) →
  ∀ (m3 : Nat) (s4 : St),
  (NewO s2 (cellsO [(AV.int .u64 a3_0), (AV.int .u64 a3_1), (AV.int .u64 a3_2), (AV.int .u64 a3_3), (AV.int .u64 a3_4), (AV.int .u64 a3_5), a3_6]) m3 s4) →
  ptrK a0 0 fun m5 m6 =>
  ∃ (x7 : AV),
  ((ld1 s4 (AV.ptr m5 (m6 + 1))) = (some x7)) ∧
  ∃ (x8 : AV),
  ((lookupA D s4 T.map_int64_rollup_edges x7 (AV.int .i64 a1) false) = (some x8)) ∧
  ∃ (n9 : Int) (n10 : Int) (n11 : Int) (n12 : Int) (n13 : Int) (n14 : Int) (x15 : AV),
  ((ldN s4 (AV.ptr m3 0) 7) = (some [(AV.int .u64 n9), (AV.int .u64 n10), (AV.int .u64 n11), (AV.int .u64 n12), (AV.int .u64 n13), (AV.int .u64 n14), x15])) ∧
  CallsD P F.rollup_nothing [(AV.agg [(AV.int .u64 n9), (AV.int .u64 n10), (AV.int .u64 n11), (AV.int .u64 n12), (AV.int .u64 n13), (AV.int .u64 n14), x15])] s4 fun x16 s17 =>
  ∃ (c18 : Bool),
  (x16 = (AV.bool c18)) ∧
  bsel c18 (
    ∃ (t19 : ByteArray) (t20 : ByteArray),
    ((ldN s17 (AV.ptr m1 0) 2) = (some [(AV.str t19), (AV.str t20)])) ∧
    ∃ (s21 : St),
    ((deleteA D s17 T.rollup_edges x8 (AV.agg [(AV.str t19), (AV.str t20)])) = (some ((AV.tuple []), s21))) ∧
    ∃ (l22 : (List (AV × (AV × Nat)))),
    ((entriesA s21 x8) = (some l22)) ∧
    bsel ((((List.length l22) : Nat) : Int) == 0) (
      ptrK a0 0 fun m23 m24 =>
      ∃ (x25 : AV),
      ((ld1 s21 (AV.ptr m23 (m24 + 1))) = (some x25)) ∧
      ∃ (s26 : St),
      ((deleteA D s21 T.map_int64_rollup_edges x25 (AV.int .i64 a1)) = (some ((AV.tuple []), s26))) ∧
      (Q (AV.tuple []) s26)
    ) (
      (Q (AV.tuple []) s21)
    )
  ) (
    nilK (TD.map 45 51) x8 true fun c27 =>
    bsel c27 (
      ∀ (m28 : Nat) (s29 : St),
      (NewO s17 mapO m28 s29) →
      ptrK a0 0 fun m30 m31 =>
      ∃ (x32 : AV),
      ((ld1 s29 (AV.ptr m30 (m31 + 1))) = (some x32)) ∧
      ∃ (s33 : St),
      ((mapUpdA D s29 T.map_int64_rollup_edges x32 (AV.int .i64 a1) (AV.map m28)) = (some s33)) ∧
      ∃ (t34 : ByteArray) (t35 : ByteArray),
      ((ldN s33 (AV.ptr m1 0) 2) = (some [(AV.str t34), (AV.str t35)])) ∧
      ∃ (n36 : Int) (n37 : Int) (n38 : Int) (n39 : Int) (n40 : Int) (n41 : Int) (x42 : AV),
      ((ldN s33 (AV.ptr m3 0) 7) = (some [(AV.int .u64 n36), (AV.int .u64 n37), (AV.int .u64 n38), (AV.int .u64 n39), (AV.int .u64 n40), (AV.int .u64 n41), x42])) ∧
      ∃ (s43 : St),
      ((mapUpdA D s33 T.rollup_edges (AV.map m28) (AV.agg [(AV.str t34), (AV.str t35)]) (AV.agg [(AV.int .u64 n36), (AV.int .u64 n37), (AV.int .u64 n38), (AV.int .u64 n39), (AV.int .u64 n40), (AV.int .u64 n41), x42])) = (some s43)) ∧
      (Q (AV.tuple []) s43)
    ) (
      ∃ (t44 : ByteArray) (t45 : ByteArray),
      ((ldN s17 (AV.ptr m1 0) 2) = (some [(AV.str t44), (AV.str t45)])) ∧
      ∃ (n46 : Int) (n47 : Int) (n48 : Int) (n49 : Int) (n50 : Int) (n51 : Int) (x52 : AV),
      ((ldN s17 (AV.ptr m3 0) 7) = (some [(AV.int .u64 n46), (AV.int .u64 n47), (AV.int .u64 n48), (AV.int .u64 n49), (AV.int .u64 n50), (AV.int .u64 n51), x52])) ∧
      ∃ (s53 : St),
      ((mapUpdA D s17 T.rollup_edges x8 (AV.agg [(AV.str t44), (AV.str t45)]) (AV.agg [(AV.int .u64 n46), (AV.int .u64 n47), (AV.int .u64 n48), (AV.int .u64 n49), (AV.int .u64 n50), (AV.int .u64 n51), x52])) = (some s53)) ∧
      (Q (AV.tuple []) s53)
    )
  )
set_option maxRecDepth 100000 in
theorem vc.p_rollup_Rollup_set_ok {a0 : AV} {a1 : Int} {a2_0 : ByteArray} {a2_1 : ByteArray} {a3_0 : Int} {a3_1 : Int} {a3_2 : Int} {a3_3 : Int} {a3_4 : Int} {a3_5 : Int} {a3_6 : AV} {s : St} {Q : AV → St → Prop} (h : vc.p_rollup_Rollup_set a0 a1 a2_0 a2_1 a3_0 a3_1 a3_2 a3_3 a3_4 a3_5 a3_6 s Q) : CallsD P F.p_rollup_Rollup_set [a0, .int .i64 a1, .agg [.str a2_0, .str a2_1], .agg [.int .u64 a3_0, .int .u64 a3_1, .int .u64 a3_2, .int .u64 a3_3, .int .u64 a3_4, .int .u64 a3_5, a3_6]] s Q :=
  fnD_ok (C := C.p_rollup_Rollup_set) hD hX rfl mixes (fi := fnI Try.f34) (by kernel_rfl) (by kernel_rfl) (cast (by kernel_rfl : vc.p_rollup_Rollup_set a0 a1 a2_0 a2_1 a3_0 a3_1 a3_2 a3_3 a3_4 a3_5 a3_6 s Q = wpC P C.p_rollup_Rollup_set 1000000 (fnI Try.f34).body ⟨PT.setAll .nil 0 [a0, .int .i64 a1, .agg [.str a2_0, .str a2_1], .agg [.int .u64 a3_0, .int .u64 a3_1, .int .u64 a3_2, .int .u64 a3_3, .int .u64 a3_4, .int .u64 a3_5, a3_6]], max [a0, .int .i64 a1, .agg [.str a2_0, .str a2_1], .agg [.int .u64 a3_0, .int .u64 a3_1, .int .u64 a3_2, .int .u64 a3_3, .int .u64 a3_4, .int .u64 a3_5, a3_6]].length (fnI Try.f34).nt, s, []⟩ (endW C.p_rollup_Rollup_set (fnI Try.f34).results Q)) h)
/-! ### (*spoor/rollup.Rollup).Put -/
def C.p_rollup_Rollup_Put : Cx := { D := D, rt := rt, its := [], lps := [], det := true }
set_option maxRecDepth 100000 in
def vc.p_rollup_Rollup_Put (a0 : AV) (a1 : Int) (a2_0 : ByteArray) (a2_1 : ByteArray) (a3_0 : Int) (a3_1 : Int) (a3_2 : Int) (a3_3 : Int) (a3_4 : Int) (a3_5 : Int) (a3_6 : AV) (s : St) (Q : (AV → (St → Prop))) : Prop :=
  ∀ (m1 : Nat) (s2 : St),
  (NewO s (cellsO [(AV.str a2_0), (AV.str a2_1)]) m1 s2) →
  ∀ (m3 : Nat) (s4 : St),
  (NewO s2 (cellsO [(AV.int .u64 a3_0), (AV.int .u64 a3_1), (AV.int .u64 a3_2), (AV.int .u64 a3_3), (AV.int .u64 a3_4), (AV.int .u64 a3_5), a3_6]) m3 s4) →
  bsel (decide (a1 < 0)) (
    (Q (AV.int .i64 151) s4)
  ) (
    bsel (decide (a1 ≥ 2097152)) (
      (Q (AV.int .i64 151) s4)
    ) (
      ∀ (s5 : St),
      (Bump s4 16 s5) →
      ptrK a0 0 fun m6 m7 =>
      ∃ (x8 : AV),
      ((ld1 s5 (AV.ptr m6 (m7 + 1))) = (some x8)) ∧
      ∃ (x9 : AV),
      ((lookupA D s5 T.map_int64_rollup_edges x8 (AV.int .i64 a1) false) = (some x9)) ∧
      ∃ (t10 : ByteArray) (t11 : ByteArray),
      ((ldN s5 (AV.ptr m1 0) 2) = (some [(AV.str t10), (AV.str t11)])) ∧
      ∃ (n12 : Int) (n13 : Int) (n14 : Int) (n15 : Int) (n16 : Int) (n17 : Int) (x18 : AV),
      ((lookupA D s5 T.rollup_edges x9 (AV.agg [(AV.str t10), (AV.str t11)]) false) = (some (AV.agg [(AV.int .u64 n12), (AV.int .u64 n13), (AV.int .u64 n14), (AV.int .u64 n15), (AV.int .u64 n16), (AV.int .u64 n17), x18]))) ∧
      ∃ (n19 : Int) (n20 : Int) (n21 : Int) (n22 : Int) (n23 : Int) (n24 : Int) (x25 : AV),
      ((ldN s5 (AV.ptr m3 0) 7) = (some [(AV.int .u64 n19), (AV.int .u64 n20), (AV.int .u64 n21), (AV.int .u64 n22), (AV.int .u64 n23), (AV.int .u64 n24), x25])) ∧
      CallsD P F.calls_Plus [(AV.agg [(AV.int .u64 n12), (AV.int .u64 n13), (AV.int .u64 n14), (AV.int .u64 n15), (AV.int .u64 n16), (AV.int .u64 n17), x18]), (AV.agg [(AV.int .u64 n19), (AV.int .u64 n20), (AV.int .u64 n21), (AV.int .u64 n22), (AV.int .u64 n23), (AV.int .u64 n24), x25])] s5 fun x26 s27 =>
      ∃ (n28 : Int) (n29 : Int) (n30 : Int) (n31 : Int) (n32 : Int) (n33 : Int) (x34 : AV) (n35 : Int),
      (x26 = (AV.tuple [(AV.agg [(AV.int .u64 n28), (AV.int .u64 n29), (AV.int .u64 n30), (AV.int .u64 n31), (AV.int .u64 n32), (AV.int .u64 n33), x34]), (AV.int .i64 n35)])) ∧
      ∃ (s36 : St),
      (
        ((wrN (hsetS s27 ((St.nx s4) + 13) (cellsO [(AV.int .u64 0), (AV.int .u64 0), (AV.int .u64 0), (AV.int .u64 0), (AV.int .u64 0), (AV.int .u64 0), AV.nilslice])) (AV.ptr ((St.nx s4) + 13) 0) [(AV.int .u64 n28), (AV.int .u64 n29), (AV.int .u64 n30), (AV.int .u64 n31), (AV.int .u64 n32), (AV.int .u64 n33), x34]) = (some s36))
      ) ∧
      bsel (n35 != 0) (
        (Q (AV.int .i64 n35) s36)
      ) (
        ∃ (t37 : ByteArray) (t38 : ByteArray),
        ((ldN s36 (AV.ptr m1 0) 2) = (some [(AV.str t37), (AV.str t38)])) ∧
        ∃ (n39 : Int) (n40 : Int) (n41 : Int) (n42 : Int) (n43 : Int) (n44 : Int) (x45 : AV),
        ((ldN s36 (AV.ptr ((St.nx s4) + 13) 0) 7) = (some [(AV.int .u64 n39), (AV.int .u64 n40), (AV.int .u64 n41), (AV.int .u64 n42), (AV.int .u64 n43), (AV.int .u64 n44), x45])) ∧
        CallsD P F.p_rollup_Rollup_set [a0, (AV.int .i64 a1), (AV.agg [(AV.str t37), (AV.str t38)]), (AV.agg [(AV.int .u64 n39), (AV.int .u64 n40), (AV.int .u64 n41), (AV.int .u64 n42), (AV.int .u64 n43), (AV.int .u64 n44), x45])] s36 fun x46 s47 =>
        (x46 = (AV.tuple [])) ∧
        (Q (AV.int .i64 0) s47)
      )
    )
  )
set_option maxRecDepth 100000 in
theorem vc.p_rollup_Rollup_Put_ok {a0 : AV} {a1 : Int} {a2_0 : ByteArray} {a2_1 : ByteArray} {a3_0 : Int} {a3_1 : Int} {a3_2 : Int} {a3_3 : Int} {a3_4 : Int} {a3_5 : Int} {a3_6 : AV} {s : St} {Q : AV → St → Prop} (h : vc.p_rollup_Rollup_Put a0 a1 a2_0 a2_1 a3_0 a3_1 a3_2 a3_3 a3_4 a3_5 a3_6 s Q) : CallsD P F.p_rollup_Rollup_Put [a0, .int .i64 a1, .agg [.str a2_0, .str a2_1], .agg [.int .u64 a3_0, .int .u64 a3_1, .int .u64 a3_2, .int .u64 a3_3, .int .u64 a3_4, .int .u64 a3_5, a3_6]] s Q :=
  fnD_ok (C := C.p_rollup_Rollup_Put) hD hX rfl mixes (fi := fnI Try.f18) (by kernel_rfl) (by kernel_rfl) (cast (by kernel_rfl : vc.p_rollup_Rollup_Put a0 a1 a2_0 a2_1 a3_0 a3_1 a3_2 a3_3 a3_4 a3_5 a3_6 s Q = wpC P C.p_rollup_Rollup_Put 1000000 (fnI Try.f18).body ⟨PT.setAll .nil 0 [a0, .int .i64 a1, .agg [.str a2_0, .str a2_1], .agg [.int .u64 a3_0, .int .u64 a3_1, .int .u64 a3_2, .int .u64 a3_3, .int .u64 a3_4, .int .u64 a3_5, a3_6]], max [a0, .int .i64 a1, .agg [.str a2_0, .str a2_1], .agg [.int .u64 a3_0, .int .u64 a3_1, .int .u64 a3_2, .int .u64 a3_3, .int .u64 a3_4, .int .u64 a3_5, a3_6]].length (fnI Try.f18).nt, s, []⟩ (endW C.p_rollup_Rollup_Put (fnI Try.f18).results Q)) h)
/-! ### (*spoor/rollup.Rollup).Take -/
def C.p_rollup_Rollup_Take : Cx := { D := D, rt := rt, its := [], lps := [], det := true }
set_option maxRecDepth 100000 in
def vc.p_rollup_Rollup_Take (a0 : AV) (a1 : Int) (a2_0 : ByteArray) (a2_1 : ByteArray) (a3_0 : Int) (a3_1 : Int) (a3_2 : Int) (a3_3 : Int) (a3_4 : Int) (a3_5 : Int) (a3_6 : AV) (s : St) (Q : (AV → (St → Prop))) : Prop :=
  ∀ (m1 : Nat) (s2 : St),
  (NewO s (cellsO [(AV.str a2_0), (AV.str a2_1)]) m1 s2) →
  ∀ (m3 : Nat) (s4 : St),
  (NewO s2 (cellsO [(AV.int .u64 a3_0), (AV.int .u64 a3_1), (AV.int .u64 a3_2), (AV.int .u64 a3_3), (AV.int .u64 a3_4), (AV.int .u64 a3_5), a3_6]) m3 s4) →
  bsel (decide (a1 < 0)) (
    (Q (AV.int .i64 151) s4)
  ) (
    bsel (decide (a1 ≥ 2097152)) (
      (Q (AV.int .i64 151) s4)
    ) (
      ∀ (s5 : St),
      (Bump s4 16 s5) →
      ptrK a0 0 fun m6 m7 =>
      ∃ (x8 : AV),
      ((ld1 s5 (AV.ptr m6 (m7 + 1))) = (some x8)) ∧
      ∃ (x9 : AV),
      ((lookupA D s5 T.map_int64_rollup_edges x8 (AV.int .i64 a1) false) = (some x9)) ∧
      ∃ (t10 : ByteArray) (t11 : ByteArray),
      ((ldN s5 (AV.ptr m1 0) 2) = (some [(AV.str t10), (AV.str t11)])) ∧
      ∃ (n12 : Int) (n13 : Int) (n14 : Int) (n15 : Int) (n16 : Int) (n17 : Int) (x18 : AV),
      ((lookupA D s5 T.rollup_edges x9 (AV.agg [(AV.str t10), (AV.str t11)]) false) = (some (AV.agg [(AV.int .u64 n12), (AV.int .u64 n13), (AV.int .u64 n14), (AV.int .u64 n15), (AV.int .u64 n16), (AV.int .u64 n17), x18]))) ∧
      ∃ (n19 : Int) (n20 : Int) (n21 : Int) (n22 : Int) (n23 : Int) (n24 : Int) (x25 : AV),
      ((ldN s5 (AV.ptr m3 0) 7) = (some [(AV.int .u64 n19), (AV.int .u64 n20), (AV.int .u64 n21), (AV.int .u64 n22), (AV.int .u64 n23), (AV.int .u64 n24), x25])) ∧
      CallsD P F.calls_Minus [(AV.agg [(AV.int .u64 n12), (AV.int .u64 n13), (AV.int .u64 n14), (AV.int .u64 n15), (AV.int .u64 n16), (AV.int .u64 n17), x18]), (AV.agg [(AV.int .u64 n19), (AV.int .u64 n20), (AV.int .u64 n21), (AV.int .u64 n22), (AV.int .u64 n23), (AV.int .u64 n24), x25])] s5 fun x26 s27 =>
      ∃ (n28 : Int) (n29 : Int) (n30 : Int) (n31 : Int) (n32 : Int) (n33 : Int) (x34 : AV) (n35 : Int),
      (x26 = (AV.tuple [(AV.agg [(AV.int .u64 n28), (AV.int .u64 n29), (AV.int .u64 n30), (AV.int .u64 n31), (AV.int .u64 n32), (AV.int .u64 n33), x34]), (AV.int .i64 n35)])) ∧
      ∃ (s36 : St),
      (
        ((wrN (hsetS s27 ((St.nx s4) + 13) (cellsO [(AV.int .u64 0), (AV.int .u64 0), (AV.int .u64 0), (AV.int .u64 0), (AV.int .u64 0), (AV.int .u64 0), AV.nilslice])) (AV.ptr ((St.nx s4) + 13) 0) [(AV.int .u64 n28), (AV.int .u64 n29), (AV.int .u64 n30), (AV.int .u64 n31), (AV.int .u64 n32), (AV.int .u64 n33), x34]) = (some s36))
      ) ∧
      bsel (n35 == 0) (
        ∃ (t37 : ByteArray) (t38 : ByteArray),
        ((ldN s36 (AV.ptr m1 0) 2) = (some [(AV.str t37), (AV.str t38)])) ∧
        ∃ (n39 : Int) (n40 : Int) (n41 : Int) (n42 : Int) (n43 : Int) (n44 : Int) (x45 : AV),
        ((ldN s36 (AV.ptr ((St.nx s4) + 13) 0) 7) = (some [(AV.int .u64 n39), (AV.int .u64 n40), (AV.int .u64 n41), (AV.int .u64 n42), (AV.int .u64 n43), (AV.int .u64 n44), x45])) ∧
        CallsD P F.p_rollup_Rollup_set [a0, (AV.int .i64 a1), (AV.agg [(AV.str t37), (AV.str t38)]), (AV.agg [(AV.int .u64 n39), (AV.int .u64 n40), (AV.int .u64 n41), (AV.int .u64 n42), (AV.int .u64 n43), (AV.int .u64 n44), x45])] s36 fun x46 s47 =>
        (x46 = (AV.tuple [])) ∧
        (Q (AV.int .i64 n35) s47)
      ) (
        bsel (n35 == 141) (
          (Q (AV.int .i64 152) s36)
        ) (
          (Q (AV.int .i64 n35) s36)
        )
      )
    )
  )
set_option maxRecDepth 100000 in
theorem vc.p_rollup_Rollup_Take_ok {a0 : AV} {a1 : Int} {a2_0 : ByteArray} {a2_1 : ByteArray} {a3_0 : Int} {a3_1 : Int} {a3_2 : Int} {a3_3 : Int} {a3_4 : Int} {a3_5 : Int} {a3_6 : AV} {s : St} {Q : AV → St → Prop} (h : vc.p_rollup_Rollup_Take a0 a1 a2_0 a2_1 a3_0 a3_1 a3_2 a3_3 a3_4 a3_5 a3_6 s Q) : CallsD P F.p_rollup_Rollup_Take [a0, .int .i64 a1, .agg [.str a2_0, .str a2_1], .agg [.int .u64 a3_0, .int .u64 a3_1, .int .u64 a3_2, .int .u64 a3_3, .int .u64 a3_4, .int .u64 a3_5, a3_6]] s Q :=
  fnD_ok (C := C.p_rollup_Rollup_Take) hD hX rfl mixes (fi := fnI Try.f19) (by kernel_rfl) (by kernel_rfl) (cast (by kernel_rfl : vc.p_rollup_Rollup_Take a0 a1 a2_0 a2_1 a3_0 a3_1 a3_2 a3_3 a3_4 a3_5 a3_6 s Q = wpC P C.p_rollup_Rollup_Take 1000000 (fnI Try.f19).body ⟨PT.setAll .nil 0 [a0, .int .i64 a1, .agg [.str a2_0, .str a2_1], .agg [.int .u64 a3_0, .int .u64 a3_1, .int .u64 a3_2, .int .u64 a3_3, .int .u64 a3_4, .int .u64 a3_5, a3_6]], max [a0, .int .i64 a1, .agg [.str a2_0, .str a2_1], .agg [.int .u64 a3_0, .int .u64 a3_1, .int .u64 a3_2, .int .u64 a3_3, .int .u64 a3_4, .int .u64 a3_5, a3_6]].length (fnI Try.f19).nt, s, []⟩ (endW C.p_rollup_Rollup_Take (fnI Try.f19).results Q)) h)
/-! ### (*spoor/rollup.Rollup).Hours -/
def C.p_rollup_Rollup_Hours : Cx := { D := D, rt := rt, its := [(11, 81)], lps := [(0, [22, 21, 20, 19, 18, 17, 16, 23, 4, 24, 25, 26, 27, 5, 14, 15, 6, 12, 13], [4, 5])] }
set_option maxRecDepth 100000 in
def vc.p_rollup_Rollup_Hours (a0 : AV) (s : St) (Q : (AV → (St → Prop))) : Prop :=
  ptrK a0 0 fun m1 m2 =>
  ∃ (x3 : AV),
  ((ld1 s (AV.ptr m1 (m2 + 1))) = (some x3)) ∧
  ∃ (m4 : Nat) (s5 : St),
  ((rangeA D s T.map_int64_rollup_edges x3) = (some ((AV.ptr m4 0), s5))) ∧
  ∃ (I6 : (Int → (Int → (St → (Nat → Prop))))),
  (
    ∃ (m7 : Nat),
    (I6 0 0 s5 m7)
  ) ∧
  ∀ (n8 : Int) (n9 : Int) (s10 : St) (m11 : Nat),
  (I6 n8 n9 s10 m11) →
  ∃ (l12 : (List (AV × St))),
  ((nextA s10 (AV.ptr m4 0) false) = (some l12)) ∧
  ∀ (x13 : AV) (s14 : St),
  ((x13, s14) ∈ l12) →
  (((x13 = (AV.tuple [(AV.bool false)])) ∧ (Q (AV.tuple [(AV.int .i64 n8), (AV.int .i64 n9)]) s14)) ∨ (∃ n15 : Int, (∃ x16 : AV, ((x13 = (AV.tuple [(AV.bool true), (AV.int .i64 n15), x16])) ∧ (∃ n17 : Int, (∃ x18 : AV, (((entryA s14 (AV.ptr m4 0)) = (some (AV.tuple [(AV.int .i64 n17), x18]))) ∧ (bsel (n9 == 0) (∃ m19 : Nat, ((m19 < m11) ∧ (I6 n17 (if (true = true) then (if ((IntKind.wrap .i64 (n17 + 1)) > n9) then (IntKind.wrap .i64 (n17 + 1)) else n9) else (if ((IntKind.wrap .i64 (n17 + 1)) < n9) then (IntKind.wrap .i64 (n17 + 1)) else n9)) s14 m19))) (bsel (decide (n17 < n8)) (∃ m20 : Nat, ((m20 < m11) ∧ (I6 n17 (if (true = true) then (if ((IntKind.wrap .i64 (n17 + 1)) > n9) then (IntKind.wrap .i64 (n17 + 1)) else n9) else (if ((IntKind.wrap .i64 (n17 + 1)) < n9) then (IntKind.wrap .i64 (n17 + 1)) else n9)) s14 m20))) (∃ m21 : Nat, ((m21 < m11) ∧ (I6 n8 (if (true = true) then (if ((IntKind.wrap .i64 (n17 + 1)) > n9) then (IntKind.wrap .i64 (n17 + 1)) else n9) else (if ((IntKind.wrap .i64 (n17 + 1)) < n9) then (IntKind.wrap .i64 (n17 + 1)) else n9)) s14 m21))))))))))))
set_option maxRecDepth 100000 in
theorem vc.p_rollup_Rollup_Hours_ok {a0 : AV} {s : St} {Q : AV → St → Prop} (h : vc.p_rollup_Rollup_Hours a0 s Q) : CallsA P F.p_rollup_Rollup_Hours [a0] s Q :=
  fnB_ok (C := C.p_rollup_Rollup_Hours) hD hX mixes (fi := fnI Try.f17) (by kernel_rfl) (by kernel_rfl) (cast (by kernel_rfl : vc.p_rollup_Rollup_Hours a0 s Q = wpC P C.p_rollup_Rollup_Hours 1000000 (fnI Try.f17).body ⟨PT.setAll .nil 0 [a0], max [a0].length (fnI Try.f17).nt, s, []⟩ (endW C.p_rollup_Rollup_Hours (fnI Try.f17).results Q)) h)
end
end Go.Eng.S

