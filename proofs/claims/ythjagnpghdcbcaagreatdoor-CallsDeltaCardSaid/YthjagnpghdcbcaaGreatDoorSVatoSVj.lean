/-
  What is to be shown of functions of the program, and that it suffices.
  What is to be shown of functions of the program, and that it suffices.
  What is to be shown of functions of the program, and that it suffices.
  What is to be shown of functions of the program, and that it suffices.
  What is to be shown of functions of the program, and that it suffices.
  What is to be shown of functions of the program, and that it suffices.
  What is to be shown of functions of the program, and that it suffices.
-/
import Derived.Test.YthjagnpghdcbcaaGreatDoorSDefs
namespace Go.Eng.S
open Go Go.Eng Go.Proofs
noncomputable section
end
end Go.Eng.S

namespace Go.Eng.S
open Go Go.Eng Go.Proofs
noncomputable section
end
end Go.Eng.S

namespace Go.Eng.S
open Go Go.Eng Go.Proofs
noncomputable section
def C.slices_SortedFunc_api_Call : Cx := { D := D, rt := rt, its := [], lps := [] }
set_option maxRecDepth 100000 in
def vc.slices_SortedFunc_api_Call (a0 : AV) (a1 : AV) (s : St) (Q : (AV → (St → Prop))) : Prop :=
 CallsA P F.slices_Collect_api_Call [a0] s fun x1 s2 =>
 ∃ (x3 : AV),
 (x1 = x3) ∧
 CallsA P F.slices_SortFunc_sl_api_Call_api_Call [x3, a1] s2 fun x4 s5 =>
 (x4 = (AV.tuple [])) ∧
 (Q x3 s5)
set_option maxRecDepth 100000 in
theorem vc.slices_SortedFunc_api_Call_ok {a0 : AV} {a1 : AV} {s : St} {Q : AV → St → Prop} (h : vc.slices_SortedFunc_api_Call a0 a1 s Q) : CallsA P F.slices_SortedFunc_api_Call [a0, a1] s Q :=
 fnB_ok (C := C.slices_SortedFunc_api_Call) hD hX mixes (fi := fnI Tryz.f46) (by kernel_rfl) (by kernel_rfl) (cast (by kernel_rfl : vc.slices_SortedFunc_api_Call a0 a1 s Q = wpC P C.slices_SortedFunc_api_Call 1000000 (fnI Tryz.f46).body ⟨PT.setAll .nil 0 [a0, a1], max [a0, a1].length (fnI Tryz.f46).nt, s, []⟩ (endW C.slices_SortedFunc_api_Call (fnI Tryz.f46).results Q)) h)
def C.slices_Values_sl_api_Call_api_Call : Cx := { D := D, rt := rt, its := [], lps := [], det := true }
set_option maxRecDepth 100000 in
def vc.slices_Values_sl_api_Call_api_Call (a0 : AV) (s : St) (Q : (AV → (St → Prop))) : Prop :=
 (oneK a0 (∀ m1 : Nat, (∀ s2 : St, ((NewO s (cellsO [a0]) m1 s2) → (Q (AV.func F.slices_Values_sl_api_Call_api_Call__S1 [] [(AV.ptr m1 0)]) s2)))))
set_option maxRecDepth 100000 in
theorem vc.slices_Values_sl_api_Call_api_Call_ok {a0 : AV} {s : St} {Q : AV → St → Prop} (h : vc.slices_Values_sl_api_Call_api_Call a0 s Q) : CallsD P F.slices_Values_sl_api_Call_api_Call [a0] s Q :=
 fnD_ok (C := C.slices_Values_sl_api_Call_api_Call) hD hX rfl mixes (fi := fnI Tryz.f47) (by kernel_rfl) (by kernel_rfl) (cast (by kernel_rfl : vc.slices_Values_sl_api_Call_api_Call a0 s Q = wpC P C.slices_Values_sl_api_Call_api_Call 1000000 (fnI Tryz.f47).body ⟨PT.setAll .nil 0 [a0], max [a0].length (fnI Tryz.f47).nt, s, []⟩ (endW C.slices_Values_sl_api_Call_api_Call (fnI Tryz.f47).results Q)) h)
def C.slices_Collect_api_Call : Cx := { D := D, rt := rt, its := [], lps := [], vrt := some [] }
set_option maxRecDepth 100000 in
def vc.slices_Collect_api_Call (a0 : AV) (s : St) (Q : (AV → (St → Prop))) : Prop :=
 CallsA P F.slices_AppendSeq_sl_api_Call_api_Call [AV.nilslice, a0] s fun x1 s2 =>
 ∃ (x3 : AV),
 (x1 = x3) ∧
 (Q x3 s2)
set_option maxRecDepth 100000 in
theorem vc.slices_Collect_api_Call_ok {a0 : AV} {s : St} {Q : AV → St → Prop} (h : vc.slices_Collect_api_Call a0 s Q) : CallsA P F.slices_Collect_api_Call [a0] s Q :=
 fnB_ok (C := C.slices_Collect_api_Call) hD hX mixes (fi := fnI Tryz.f68) (by kernel_rfl) (by kernel_rfl) (cast (by kernel_rfl : vc.slices_Collect_api_Call a0 s Q = wpC P C.slices_Collect_api_Call 1000000 (fnI Tryz.f68).body ⟨PT.setAll .nil 0 [a0], max [a0].length (fnI Tryz.f68).nt, s, []⟩ (endW C.slices_Collect_api_Call (fnI Tryz.f68).results Q)) h)
def C.slices_Values_sl_api_Call_api_Call__S1 : Cx := { D := D, rt := rt, its := [], lps := [(0, [7, 15, 14, 13, 12, 11, 9, 10, 4, 8], [7])], vrt := some [4] }
set_option maxRecDepth 100000 in
def vc.slices_Values_sl_api_Call_api_Call__S1 (a0 : AV) (c0 : AV) (s : St) (Q : (AV → (St → Prop))) : Prop :=
 ∃ (x1 : AV),
 ((ld1 s c0) = (some x1)) ∧
 slenK x1 fun m2 =>
 ∃ (I3 : (Int → (St → (Nat → Prop)))),
 (
  ∃ (m4 : Nat),
  (I3 0 s m4)
 ) ∧
 ∀ (n5 : Int) (s6 : St) (m7 : Nat),
 (I3 n5 s6 m7) →
 bsel (decide (n5 < ((m2 : Nat) : Int))) (
  ixsK 5 x1 n5 fun m8 m9 =>
  ∃ (n10 : Int) (t11 : ByteArray) (t12 : ByteArray) (c13 : Bool) (n14 : Int),
  ((ldN s6 (AV.ptr m8 m9) 5) = (some [(AV.int .i64 n10), (AV.str t11), (AV.str t12), (AV.bool c13), (AV.int .u64 n14)])) ∧
  ∀ (m15 : Nat) (s16 : St),
  (NewO s6 (cellsO [(AV.int .i64 0), (AV.str ByteArray.empty), (AV.str ByteArray.empty), (AV.bool false), (AV.int .u64 0)]) m15 s16) →
  ∃ (s17 : St),
  ((wrN s16 (AV.ptr m15 0) [(AV.int .i64 n10), (AV.str t11), (AV.str t12), (AV.bool c13), (AV.int .u64 n14)]) = (some s17)) ∧
  ∃ (n18 : Int) (t19 : ByteArray) (t20 : ByteArray) (c21 : Bool) (n22 : Int),
  ((ldN s17 (AV.ptr m15 0) 5) = (some [(AV.int .i64 n18), (AV.str t19), (AV.str t20), (AV.bool c21), (AV.int .u64 n22)])) ∧
  callK P D rt false s17 a0 [(AV.agg [(AV.int .i64 n18), (AV.str t19), (AV.str t20), (AV.bool c21), (AV.int .u64 n22)])] fun x23 s24 =>
  ∃ (c25 : Bool),
  (x23 = (AV.bool c25)) ∧
  bsel (!c25) (
   (Q (AV.tuple []) s24)
  ) (
   ∃ (m26 : Nat),
   (m26 < m7) ∧
   (I3 (IntKind.wrap .i64 (n5 + 1)) s24 m26)
  )
 ) (
  (Q (AV.tuple []) s6)
 )
set_option maxRecDepth 100000 in
theorem vc.slices_Values_sl_api_Call_api_Call__S1_ok {a0 : AV} {c0 : AV} {s : St} {Q : AV → St → Prop} (h : vc.slices_Values_sl_api_Call_api_Call__S1 a0 c0 s Q) : CallsA P F.slices_Values_sl_api_Call_api_Call__S1 [a0, c0] s Q :=
 fnB_ok (C := C.slices_Values_sl_api_Call_api_Call__S1) hD hX mixes (fi := fnI Tryz.f70) (by kernel_rfl) (by kernel_rfl) (cast (by kernel_rfl : vc.slices_Values_sl_api_Call_api_Call__S1 a0 c0 s Q = wpC P C.slices_Values_sl_api_Call_api_Call__S1 1000000 (fnI Tryz.f70).body ⟨PT.setAll .nil 0 [a0, c0], max [a0, c0].length (fnI Tryz.f70).nt, s, []⟩ (endW C.slices_Values_sl_api_Call_api_Call__S1 (fnI Tryz.f70).results Q)) h)
def C.slices_AppendSeq_sl_api_Call_api_Call : Cx := { D := D, rt := rt, its := [], lps := [], vrt := some [], rf := [(8, [26])] }
set_option maxRecDepth 100000 in
def vc.slices_AppendSeq_sl_api_Call_api_Call (a0 : AV) (a1 : AV) (s : St) (Q : (AV → (St → Prop))) : Prop :=
 (oneK a0 (∀ m1 : Nat, (∀ s2 : St, ((NewO s (cellsO [a0]) m1 s2) → (∀ m3 : Nat, (∀ s4 : St, ((NewO s2 (AObj.dfd true) m3 s4) → (∀ I5 : ((Option Go.Code) → (Go.LoopState → Go.Eng.AObj)), (∀ m6 : Nat, (∀ s7 : St, ((NewO s4 (I5 none Go.LoopState.ready) m6 s7) → ((∀ n8 : Int, (∀ t9 : ByteArray, (∀ t10 : ByteArray, (∀ c11 : Bool, (∀ n12 : Int, (∀ s13 : St, (∀ I14 : (AV → (St → Prop)), (((objAt s13 m6) = (some (I5 none Go.LoopState.ready))) → ((∀ m15 : Nat, (∀ s16 : St, ((NewO s13 (cellsO [(AV.int .i64 0), (AV.str ByteArray.empty), (AV.str ByteArray.empty), (AV.bool false), (AV.int .u64 0)]) m15 s16) → (∃ s17 : St, (((wrN s16 (AV.ptr m15 0) [(AV.int .i64 n8), (AV.str t9), (AV.str t10), (AV.bool c11), (AV.int .u64 n12)]) = (some s17)) ∧ (((objAt s17 m6) = (some (I5 none Go.LoopState.ready))) ∧ (∃ x18 : AV, (((ld1 (hsetS s17 m6 (I5 none Go.LoopState.busy)) (AV.ptr m1 0)) = (some x18)) ∧ (∃ n19 : Int, (∃ t20 : ByteArray, (∃ t21 : ByteArray, (∃ c22 : Bool, (∃ n23 : Int, (((ldN (hsetS s17 m6 (I5 none Go.LoopState.busy)) (AV.ptr m15 0) 5) = (some [(AV.int .i64 n19), (AV.str t20), (AV.str t21), (AV.bool c22), (AV.int .u64 n23)])) ∧ (∀ m24 : Nat, (∀ s25 : St, ((NewO (hsetS s17 m6 (I5 none Go.LoopState.busy)) (cellsO [(AV.int .i64 n19), (AV.str t20), (AV.str t21), (AV.bool c22), (AV.int .u64 n23)]) m24 s25) → (∃ x26 : AV, (∃ s27 : St, (((appendX D s25 T.sl_api_Call T.sl_api_Call x18 (AV.slice m24 0 1 (ACap.exact 1))) = (some (x26, s27))) ∧ (oneK x26 (∃ s28 : St, (((wrN s27 (AV.ptr m1 0) [x26]) = (some s28)) ∧ (((objAt s28 m6) = (some (I5 none Go.LoopState.busy))) ∧ (I14 (AV.bool true) (hsetS s28 m6 (I5 none Go.LoopState.ready))))))))))))))))))))))))))) → (RoundA P m6 [(AV.agg [(AV.int .i64 n8), (AV.str t9), (AV.str t10), (AV.bool c11), (AV.int .u64 n12)])] s13 (fun x29 => (fun s30 => (I14 x29 s30))))))))))))) → (itK P D s7 a1 m6 (fun s31 => (((objAt s31 m6) = (some (I5 none Go.LoopState.ready))) ∧ (∃ x32 : AV, (((ld1 (hsetS s31 m6 (I5 none Go.LoopState.exhausted)) (AV.ptr m1 0)) = (some x32)) ∧ (∃ s33 : St, (((endDs (hsetS s31 m6 (I5 none Go.LoopState.exhausted)) [m3]) = (some s33)) ∧ (Q x32 s33))))))))))))))))))))
set_option maxRecDepth 100000 in
theorem vc.slices_AppendSeq_sl_api_Call_api_Call_ok {a0 : AV} {a1 : AV} {s : St} {Q : AV → St → Prop} (h : vc.slices_AppendSeq_sl_api_Call_api_Call a0 a1 s Q) : CallsA P F.slices_AppendSeq_sl_api_Call_api_Call [a0, a1] s Q :=
 fnB_ok (C := C.slices_AppendSeq_sl_api_Call_api_Call) hD hX mixes (fi := fnI Tryz.f88) (by kernel_rfl) (by kernel_rfl) (cast (by kernel_rfl : vc.slices_AppendSeq_sl_api_Call_api_Call a0 a1 s Q = wpC P C.slices_AppendSeq_sl_api_Call_api_Call 1000000 (fnI Tryz.f88).body ⟨PT.setAll .nil 0 [a0, a1], max [a0, a1].length (fnI Tryz.f88).nt, s, []⟩ (endW C.slices_AppendSeq_sl_api_Call_api_Call (fnI Tryz.f88).results Q)) h)
end
end Go.Eng.S

namespace Go.Eng.S
open Go Go.Eng Go.Proofs
noncomputable section
def C.calls_order : Cx := { D := D, rt := rt, its := [], lps := [], det := true }
set_option maxRecDepth 100000 in
def vc.calls_order (a0_0 : Int) (a0_1 : ByteArray) (a0_2 : ByteArray) (a0_3 : Bool) (a0_4 : Int) (a1_0 : Int) (a1_1 : ByteArray) (a1_2 : ByteArray) (a1_3 : Bool) (a1_4 : Int) (s : St) (Q : (AV → (St → Prop))) : Prop :=
 ∀ (m1 : Nat) (s2 : St),
 (NewO s (cellsO [(AV.int .i64 a0_0), (AV.str a0_1), (AV.str a0_2), (AV.bool a0_3), (AV.int .u64 a0_4)]) m1 s2) →
 ∀ (m3 : Nat) (s4 : St),
 (NewO s2 (cellsO [(AV.int .i64 a1_0), (AV.str a1_1), (AV.str a1_2), (AV.bool a1_3), (AV.int .u64 a1_4)]) m3 s4) →
 ∃ (n5 : Int) (t6 : ByteArray) (t7 : ByteArray) (c8 : Bool) (n9 : Int),
 ((ldN s4 (AV.ptr m1 0) 5) = (some [(AV.int .i64 n5), (AV.str t6), (AV.str t7), (AV.bool c8), (AV.int .u64 n9)])) ∧
 ∃ (n10 : Int) (t11 : ByteArray) (t12 : ByteArray) (c13 : Bool) (n14 : Int),
 ((ldN s4 (AV.ptr m3 0) 5) = (some [(AV.int .i64 n10), (AV.str t11), (AV.str t12), (AV.bool c13), (AV.int .u64 n14)])) ∧
 bsel (if (true = true) then ((n5 == n10) && (((bytesEq (Array.toList (ByteArray.data t6)) (Array.toList (ByteArray.data t11))) && ((bytesEq (Array.toList (ByteArray.data t7)) (Array.toList (ByteArray.data t12))) && true)) && ((c8 == c13) && ((n9 == n14) && true)))) else (! ((n5 == n10) && (((bytesEq (Array.toList (ByteArray.data t6)) (Array.toList (ByteArray.data t11))) && ((bytesEq (Array.toList (ByteArray.data t7)) (Array.toList (ByteArray.data t12))) && true)) && ((c8 == c13) && ((n9 == n14) && true)))))) (
  (Q (AV.int .i64 0) s4)
 ) (
  ∃ (c15 : Bool),
  ((ld1 s4 (AV.ptr m1 3)) = (some (AV.bool c15))) ∧
  ∃ (c16 : Bool),
  ((ld1 s4 (AV.ptr m3 3)) = (some (AV.bool c16))) ∧
  bsel (if (false = true) then (c15 == c16) else (! (c15 == c16))) (
   ∃ (n17 : Int),
   ((ld1 s4 (AV.ptr m1 0)) = (some (AV.int .i64 n17))) ∧
   ∃ (n18 : Int),
   ((ld1 s4 (AV.ptr m3 0)) = (some (AV.int .i64 n18))) ∧
   bsel (n17 == n18) (
    ∃ (t19 : ByteArray) (t20 : ByteArray),
    ((ldN s4 (AV.ptr m1 1) 2) = (some [(AV.str t19), (AV.str t20)])) ∧
    ∃ (t21 : ByteArray) (t22 : ByteArray),
    ((ldN s4 (AV.ptr m3 1) 2) = (some [(AV.str t21), (AV.str t22)])) ∧
    bsel (if (true = true) then ((bytesEq (Array.toList (ByteArray.data t19)) (Array.toList (ByteArray.data t21))) && ((bytesEq (Array.toList (ByteArray.data t20)) (Array.toList (ByteArray.data t22))) && true)) else (! ((bytesEq (Array.toList (ByteArray.data t19)) (Array.toList (ByteArray.data t21))) && ((bytesEq (Array.toList (ByteArray.data t20)) (Array.toList (ByteArray.data t22))) && true)))) (
     ∃ (c23 : Bool),
     ((ld1 s4 (AV.ptr m3 3)) = (some (AV.bool c23))) ∧
     bsel c23 (
      (Q (AV.int .i64 (-1)) s4)
     ) (
      (Q (AV.int .i64 1) s4)
     )
    ) (
     ∀ (s24 : St),
     (Bump s4 27 s24) →
     ∃ (n25 : Int),
     ((ld1 s24 (AV.ptr m1 0)) = (some (AV.int .i64 n25))) ∧
     ∃ (n26 : Int),
     ((ld1 s24 (AV.ptr m3 0)) = (some (AV.int .i64 n26))) ∧
     CallsD P F.cmp_Compare_int64 [(AV.int .i64 n25), (AV.int .i64 n26)] s24 fun x27 s28 =>
     ∃ (n29 : Int),
     (x27 = (AV.int .i64 n29)) ∧
     ∃ (t30 : ByteArray),
     ((ld1 s28 (AV.ptr m1 1)) = (some (AV.str t30))) ∧
     ((ld1 s24 (AV.ptr m1 1)) = (some (AV.str t30))) ∧
     ∃ (t31 : ByteArray),
     ((ld1 s28 (AV.ptr m3 1)) = (some (AV.str t31))) ∧
     ((ld1 s24 (AV.ptr m3 1)) = (some (AV.str t31))) ∧
     CallsD P F.cmp_Compare_string [(AV.str t30), (AV.str t31)] s28 fun x32 s33 =>
     ∃ (n34 : Int),
     (x32 = (AV.int .i64 n34)) ∧
     ∃ (t35 : ByteArray),
     ((ld1 s33 (AV.ptr m1 2)) = (some (AV.str t35))) ∧
     ((ld1 s28 (AV.ptr m1 2)) = (some (AV.str t35))) ∧
     ((ld1 s24 (AV.ptr m1 2)) = (some (AV.str t35))) ∧
     ∃ (t36 : ByteArray),
     ((ld1 s33 (AV.ptr m3 2)) = (some (AV.str t36))) ∧
     ((ld1 s28 (AV.ptr m3 2)) = (some (AV.str t36))) ∧
     ((ld1 s24 (AV.ptr m3 2)) = (some (AV.str t36))) ∧
     CallsD P F.cmp_Compare_string [(AV.str t35), (AV.str t36)] s33 fun x37 s38 =>
     ∃ (n39 : Int),
     (x37 = (AV.int .i64 n39)) ∧
     ∃ (n40 : Int),
     ((ld1 s38 (AV.ptr m1 4)) = (some (AV.int .u64 n40))) ∧
     ((ld1 s33 (AV.ptr m1 4)) = (some (AV.int .u64 n40))) ∧
     ((ld1 s28 (AV.ptr m1 4)) = (some (AV.int .u64 n40))) ∧
     ((ld1 s24 (AV.ptr m1 4)) = (some (AV.int .u64 n40))) ∧
     ∃ (n41 : Int),
     ((ld1 s38 (AV.ptr m3 4)) = (some (AV.int .u64 n41))) ∧
     ((ld1 s33 (AV.ptr m3 4)) = (some (AV.int .u64 n41))) ∧
     ((ld1 s28 (AV.ptr m3 4)) = (some (AV.int .u64 n41))) ∧
     ((ld1 s24 (AV.ptr m3 4)) = (some (AV.int .u64 n41))) ∧
     CallsD P F.cmp_Compare_uint64 [(AV.int .u64 n40), (AV.int .u64 n41)] s38 fun x42 s43 =>
     ∃ (n44 : Int),
     (x42 = (AV.int .i64 n44)) ∧
     CallsD P F.cmp_Or_int [(AV.slice ((St.nx s4) + 24) 0 4 (ACap.exact 4))] (hsetS s43 ((St.nx s4) + 24) (cellsO [(AV.int .i64 n29), (AV.int .i64 n34), (AV.int .i64 n39), (AV.int .i64 n44)])) fun x45 s46 =>
     ∃ (n47 : Int),
     (x45 = (AV.int .i64 n47)) ∧
     (Q (AV.int .i64 n47) s46)
    )
   ) (
    ∀ (s48 : St),
    (Bump s4 27 s48) →
    ∃ (n49 : Int),
    ((ld1 s48 (AV.ptr m1 0)) = (some (AV.int .i64 n49))) ∧
    ∃ (n50 : Int),
    ((ld1 s48 (AV.ptr m3 0)) = (some (AV.int .i64 n50))) ∧
    CallsD P F.cmp_Compare_int64 [(AV.int .i64 n49), (AV.int .i64 n50)] s48 fun x51 s52 =>
    ∃ (n53 : Int),
    (x51 = (AV.int .i64 n53)) ∧
    ∃ (t54 : ByteArray),
    ((ld1 s52 (AV.ptr m1 1)) = (some (AV.str t54))) ∧
    ((ld1 s48 (AV.ptr m1 1)) = (some (AV.str t54))) ∧
    ∃ (t55 : ByteArray),
    ((ld1 s52 (AV.ptr m3 1)) = (some (AV.str t55))) ∧
    ((ld1 s48 (AV.ptr m3 1)) = (some (AV.str t55))) ∧
    CallsD P F.cmp_Compare_string [(AV.str t54), (AV.str t55)] s52 fun x56 s57 =>
    ∃ (n58 : Int),
    (x56 = (AV.int .i64 n58)) ∧
    ∃ (t59 : ByteArray),
    ((ld1 s57 (AV.ptr m1 2)) = (some (AV.str t59))) ∧
    ((ld1 s52 (AV.ptr m1 2)) = (some (AV.str t59))) ∧
    ((ld1 s48 (AV.ptr m1 2)) = (some (AV.str t59))) ∧
    ∃ (t60 : ByteArray),
    ((ld1 s57 (AV.ptr m3 2)) = (some (AV.str t60))) ∧
    ((ld1 s52 (AV.ptr m3 2)) = (some (AV.str t60))) ∧
    ((ld1 s48 (AV.ptr m3 2)) = (some (AV.str t60))) ∧
    CallsD P F.cmp_Compare_string [(AV.str t59), (AV.str t60)] s57 fun x61 s62 =>
    ∃ (n63 : Int),
    (x61 = (AV.int .i64 n63)) ∧
    ∃ (n64 : Int),
    ((ld1 s62 (AV.ptr m1 4)) = (some (AV.int .u64 n64))) ∧
    ((ld1 s57 (AV.ptr m1 4)) = (some (AV.int .u64 n64))) ∧
    ((ld1 s52 (AV.ptr m1 4)) = (some (AV.int .u64 n64))) ∧
    ((ld1 s48 (AV.ptr m1 4)) = (some (AV.int .u64 n64))) ∧
    ∃ (n65 : Int),
    ((ld1 s62 (AV.ptr m3 4)) = (some (AV.int .u64 n65))) ∧
    ((ld1 s57 (AV.ptr m3 4)) = (some (AV.int .u64 n65))) ∧
    ((ld1 s52 (AV.ptr m3 4)) = (some (AV.int .u64 n65))) ∧
    ((ld1 s48 (AV.ptr m3 4)) = (some (AV.int .u64 n65))) ∧
    CallsD P F.cmp_Compare_uint64 [(AV.int .u64 n64), (AV.int .u64 n65)] s62 fun x66 s67 =>
    ∃ (n68 : Int),
    (x66 = (AV.int .i64 n68)) ∧
    CallsD P F.cmp_Or_int [(AV.slice ((St.nx s4) + 24) 0 4 (ACap.exact 4))] (hsetS s67 ((St.nx s4) + 24) (cellsO [(AV.int .i64 n53), (AV.int .i64 n58), (AV.int .i64 n63), (AV.int .i64 n68)])) fun x69 s70 =>
    ∃ (n71 : Int),
    (x69 = (AV.int .i64 n71)) ∧
    (Q (AV.int .i64 n71) s70)
   )
  ) (
   ∀ (s72 : St),
   (Bump s4 27 s72) →
   ∃ (n73 : Int),
   ((ld1 s72 (AV.ptr m1 0)) = (some (AV.int .i64 n73))) ∧
   ∃ (n74 : Int),
   ((ld1 s72 (AV.ptr m3 0)) = (some (AV.int .i64 n74))) ∧
   CallsD P F.cmp_Compare_int64 [(AV.int .i64 n73), (AV.int .i64 n74)] s72 fun x75 s76 =>
   ∃ (n77 : Int),
   (x75 = (AV.int .i64 n77)) ∧
   ∃ (t78 : ByteArray),
   ((ld1 s76 (AV.ptr m1 1)) = (some (AV.str t78))) ∧
   ((ld1 s72 (AV.ptr m1 1)) = (some (AV.str t78))) ∧
   ∃ (t79 : ByteArray),
   ((ld1 s76 (AV.ptr m3 1)) = (some (AV.str t79))) ∧
   ((ld1 s72 (AV.ptr m3 1)) = (some (AV.str t79))) ∧
   CallsD P F.cmp_Compare_string [(AV.str t78), (AV.str t79)] s76 fun x80 s81 =>
   ∃ (n82 : Int),
   (x80 = (AV.int .i64 n82)) ∧
   ∃ (t83 : ByteArray),
   ((ld1 s81 (AV.ptr m1 2)) = (some (AV.str t83))) ∧
   ((ld1 s76 (AV.ptr m1 2)) = (some (AV.str t83))) ∧
   ((ld1 s72 (AV.ptr m1 2)) = (some (AV.str t83))) ∧
   ∃ (t84 : ByteArray),
   ((ld1 s81 (AV.ptr m3 2)) = (some (AV.str t84))) ∧
   ((ld1 s76 (AV.ptr m3 2)) = (some (AV.str t84))) ∧
   ((ld1 s72 (AV.ptr m3 2)) = (some (AV.str t84))) ∧
   CallsD P F.cmp_Compare_string [(AV.str t83), (AV.str t84)] s81 fun x85 s86 =>
   ∃ (n87 : Int),
   (x85 = (AV.int .i64 n87)) ∧
   ∃ (n88 : Int),
   ((ld1 s86 (AV.ptr m1 4)) = (some (AV.int .u64 n88))) ∧
   ((ld1 s81 (AV.ptr m1 4)) = (some (AV.int .u64 n88))) ∧
   ((ld1 s76 (AV.ptr m1 4)) = (some (AV.int .u64 n88))) ∧
   ((ld1 s72 (AV.ptr m1 4)) = (some (AV.int .u64 n88))) ∧
   ∃ (n89 : Int),
   ((ld1 s86 (AV.ptr m3 4)) = (some (AV.int .u64 n89))) ∧
   ((ld1 s81 (AV.ptr m3 4)) = (some (AV.int .u64 n89))) ∧
   ((ld1 s76 (AV.ptr m3 4)) = (some (AV.int .u64 n89))) ∧
   ((ld1 s72 (AV.ptr m3 4)) = (some (AV.int .u64 n89))) ∧
   CallsD P F.cmp_Compare_uint64 [(AV.int .u64 n88), (AV.int .u64 n89)] s86 fun x90 s91 =>
   ∃ (n92 : Int),
   (x90 = (AV.int .i64 n92)) ∧
   CallsD P F.cmp_Or_int [(AV.slice ((St.nx s4) + 24) 0 4 (ACap.exact 4))] (hsetS s91 ((St.nx s4) + 24) (cellsO [(AV.int .i64 n77), (AV.int .i64 n82), (AV.int .i64 n87), (AV.int .i64 n92)])) fun x93 s94 =>
   ∃ (n95 : Int),
   (x93 = (AV.int .i64 n95)) ∧
   (Q (AV.int .i64 n95) s94)
  )
 )
set_option maxRecDepth 100000 in
theorem vc.calls_order_ok {a0_0 : Int} {a0_1 : ByteArray} {a0_2 : ByteArray} {a0_3 : Bool} {a0_4 : Int} {a1_0 : Int} {a1_1 : ByteArray} {a1_2 : ByteArray} {a1_3 : Bool} {a1_4 : Int} {s : St} {Q : AV → St → Prop} (h : vc.calls_order a0_0 a0_1 a0_2 a0_3 a0_4 a1_0 a1_1 a1_2 a1_3 a1_4 s Q) : CallsD P F.calls_order [.agg [.int .i64 a0_0, .str a0_1, .str a0_2, .bool a0_3, .int .u64 a0_4], .agg [.int .i64 a1_0, .str a1_1, .str a1_2, .bool a1_3, .int .u64 a1_4]] s Q :=
 fnD_ok (C := C.calls_order) hD hX rfl mixes (fi := fnI Tryz.f48) (by kernel_rfl) (by kernel_rfl) (cast (by kernel_rfl : vc.calls_order a0_0 a0_1 a0_2 a0_3 a0_4 a1_0 a1_1 a1_2 a1_3 a1_4 s Q = wpC P C.calls_order 1000000 (fnI Tryz.f48).body ⟨PT.setAll .nil 0 [.agg [.int .i64 a0_0, .str a0_1, .str a0_2, .bool a0_3, .int .u64 a0_4], .agg [.int .i64 a1_0, .str a1_1, .str a1_2, .bool a1_3, .int .u64 a1_4]], max [.agg [.int .i64 a0_0, .str a0_1, .str a0_2, .bool a0_3, .int .u64 a0_4], .agg [.int .i64 a1_0, .str a1_1, .str a1_2, .bool a1_3, .int .u64 a1_4]].length (fnI Tryz.f48).nt, s, []⟩ (endW C.calls_order (fnI Tryz.f48).results Q)) h)
def C.cmp_Or_int : Cx := { D := D, rt := rt, its := [], lps := [(0, [8, 16, 14, 13, 12, 15, 2, 10, 11, 5, 9], [8])], det := true }
set_option maxRecDepth 100000 in
def vc.cmp_Or_int (a0 : AV) (s : St) (Q : (AV → (St → Prop))) : Prop :=
 slenK a0 fun m1 =>
 ∃ (I2 : (Int → (St → (Nat → Prop)))),
 (
  ∃ (m3 : Nat),
  (I2 0 s m3)
 ) ∧
 ∀ (n4 : Int) (s5 : St) (m6 : Nat),
 (I2 n4 s5 m6) →
 bsel (decide (n4 < ((m1 : Nat) : Int))) (
  ixsK 1 a0 n4 fun m7 m8 =>
  ∃ (n9 : Int),
  ((ld1 s5 (AV.ptr m7 m8)) = (some (AV.int .i64 n9))) ∧
  bsel (n9 != 0) (
   (Q (AV.int .i64 n9) s5)
  ) (
   ∃ (m10 : Nat),
   (m10 < m6) ∧
   (I2 (IntKind.wrap .i64 (n4 + 1)) s5 m10)
  )
 ) (
  (Q (AV.int .i64 0) s5)
 )
set_option maxRecDepth 100000 in
theorem vc.cmp_Or_int_ok {a0 : AV} {s : St} {Q : AV → St → Prop} (h : vc.cmp_Or_int a0 s Q) : CallsD P F.cmp_Or_int [a0] s Q :=
 fnD_ok (C := C.cmp_Or_int) hD hX rfl mixes (fi := fnI Tryz.f71) (by kernel_rfl) (by kernel_rfl) (cast (by kernel_rfl : vc.cmp_Or_int a0 s Q = wpC P C.cmp_Or_int 1000000 (fnI Tryz.f71).body ⟨PT.setAll .nil 0 [a0], max [a0].length (fnI Tryz.f71).nt, s, []⟩ (endW C.cmp_Or_int (fnI Tryz.f71).results Q)) h)
def C.cmp_Compare_int64 : Cx := { D := D, rt := rt, its := [], lps := [], det := true }
set_option maxRecDepth 100000 in
def vc.cmp_Compare_int64 (a0 : Int) (a1 : Int) (s : St) (Q : (AV → (St → Prop))) : Prop :=
 CallsD P F.cmp_isNaN_int64 [(AV.int .i64 a0)] s fun x1 s2 =>
 ∃ (c3 : Bool),
 (x1 = (AV.bool c3)) ∧
 CallsD P F.cmp_isNaN_int64 [(AV.int .i64 a1)] s2 fun x4 s5 =>
 ∃ (c6 : Bool),
 (x4 = (AV.bool c6)) ∧
 bsel c3 (
  bsel c6 (
   (Q (AV.int .i64 0) s5)
  ) (
   (Q (AV.int .i64 (-1)) s5)
  )
 ) (
  bsel c6 (
   (Q (AV.int .i64 1) s5)
  ) (
   bsel (decide (a0 < a1)) (
    (Q (AV.int .i64 (-1)) s5)
   ) (
    bsel (decide (a0 > a1)) (
     (Q (AV.int .i64 1) s5)
    ) (
     (Q (AV.int .i64 0) s5)
    )
   )
  )
 )
set_option maxRecDepth 100000 in
theorem vc.cmp_Compare_int64_ok {a0 : Int} {a1 : Int} {s : St} {Q : AV → St → Prop} (h : vc.cmp_Compare_int64 a0 a1 s Q) : CallsD P F.cmp_Compare_int64 [.int .i64 a0, .int .i64 a1] s Q :=
 fnD_ok (C := C.cmp_Compare_int64) hD hX rfl mixes (fi := fnI Tryz.f72) (by kernel_rfl) (by kernel_rfl) (cast (by kernel_rfl : vc.cmp_Compare_int64 a0 a1 s Q = wpC P C.cmp_Compare_int64 1000000 (fnI Tryz.f72).body ⟨PT.setAll .nil 0 [.int .i64 a0, .int .i64 a1], max [.int .i64 a0, .int .i64 a1].length (fnI Tryz.f72).nt, s, []⟩ (endW C.cmp_Compare_int64 (fnI Tryz.f72).results Q)) h)
def C.cmp_Compare_string : Cx := { D := D, rt := rt, its := [], lps := [], det := true }
set_option maxRecDepth 100000 in
def vc.cmp_Compare_string (a0 : ByteArray) (a1 : ByteArray) (s : St) (Q : (AV → (St → Prop))) : Prop :=
 CallsD P F.cmp_isNaN_string [(AV.str a0)] s fun x1 s2 =>
 ∃ (c3 : Bool),
 (x1 = (AV.bool c3)) ∧
 CallsD P F.cmp_isNaN_string [(AV.str a1)] s2 fun x4 s5 =>
 ∃ (c6 : Bool),
 (x4 = (AV.bool c6)) ∧
 bsel c3 (
  bsel c6 (
   (Q (AV.int .i64 0) s5)
  ) (
   (Q (AV.int .i64 (-1)) s5)
  )
 ) (
  bsel c6 (
   (Q (AV.int .i64 1) s5)
  ) (
   bsel (bytesLt (Array.toList (ByteArray.data a0)) (Array.toList (ByteArray.data a1))) (
    (Q (AV.int .i64 (-1)) s5)
   ) (
    bsel (! ((bytesLt (Array.toList (ByteArray.data a0)) (Array.toList (ByteArray.data a1))) || (bytesEq (Array.toList (ByteArray.data a0)) (Array.toList (ByteArray.data a1))))) (
     (Q (AV.int .i64 1) s5)
    ) (
     (Q (AV.int .i64 0) s5)
    )
   )
  )
 )
set_option maxRecDepth 100000 in
theorem vc.cmp_Compare_string_ok {a0 : ByteArray} {a1 : ByteArray} {s : St} {Q : AV → St → Prop} (h : vc.cmp_Compare_string a0 a1 s Q) : CallsD P F.cmp_Compare_string [.str a0, .str a1] s Q :=
 fnD_ok (C := C.cmp_Compare_string) hD hX rfl mixes (fi := fnI Tryz.f73) (by kernel_rfl) (by kernel_rfl) (cast (by kernel_rfl : vc.cmp_Compare_string a0 a1 s Q = wpC P C.cmp_Compare_string 1000000 (fnI Tryz.f73).body ⟨PT.setAll .nil 0 [.str a0, .str a1], max [.str a0, .str a1].length (fnI Tryz.f73).nt, s, []⟩ (endW C.cmp_Compare_string (fnI Tryz.f73).results Q)) h)
def C.cmp_Compare_uint64 : Cx := { D := D, rt := rt, its := [], lps := [], det := true }
set_option maxRecDepth 100000 in
def vc.cmp_Compare_uint64 (a0 : Int) (a1 : Int) (s : St) (Q : (AV → (St → Prop))) : Prop :=
 CallsD P F.cmp_isNaN_uint64 [(AV.int .u64 a0)] s fun x1 s2 =>
 ∃ (c3 : Bool),
 (x1 = (AV.bool c3)) ∧
 CallsD P F.cmp_isNaN_uint64 [(AV.int .u64 a1)] s2 fun x4 s5 =>
 ∃ (c6 : Bool),
 (x4 = (AV.bool c6)) ∧
 bsel c3 (
  bsel c6 (
   (Q (AV.int .i64 0) s5)
  ) (
   (Q (AV.int .i64 (-1)) s5)
  )
 ) (
  bsel c6 (
   (Q (AV.int .i64 1) s5)
  ) (
   bsel (decide (a0 < a1)) (
    (Q (AV.int .i64 (-1)) s5)
   ) (
    bsel (decide (a0 > a1)) (
     (Q (AV.int .i64 1) s5)
    ) (
     (Q (AV.int .i64 0) s5)
    )
   )
  )
 )
set_option maxRecDepth 100000 in
theorem vc.cmp_Compare_uint64_ok {a0 : Int} {a1 : Int} {s : St} {Q : AV → St → Prop} (h : vc.cmp_Compare_uint64 a0 a1 s Q) : CallsD P F.cmp_Compare_uint64 [.int .u64 a0, .int .u64 a1] s Q :=
 fnD_ok (C := C.cmp_Compare_uint64) hD hX rfl mixes (fi := fnI Tryz.f74) (by kernel_rfl) (by kernel_rfl) (cast (by kernel_rfl : vc.cmp_Compare_uint64 a0 a1 s Q = wpC P C.cmp_Compare_uint64 1000000 (fnI Tryz.f74).body ⟨PT.setAll .nil 0 [.int .u64 a0, .int .u64 a1], max [.int .u64 a0, .int .u64 a1].length (fnI Tryz.f74).nt, s, []⟩ (endW C.cmp_Compare_uint64 (fnI Tryz.f74).results Q)) h)
def C.cmp_isNaN_int64 : Cx := { D := D, rt := rt, its := [], lps := [], det := true }
set_option maxRecDepth 100000 in
def vc.cmp_isNaN_int64 (a0 : Int) (s : St) (Q : (AV → (St → Prop))) : Prop :=
 (Q (AV.bool (a0 != a0)) s)
set_option maxRecDepth 100000 in
theorem vc.cmp_isNaN_int64_ok {a0 : Int} {s : St} {Q : AV → St → Prop} (h : vc.cmp_isNaN_int64 a0 s Q) : CallsD P F.cmp_isNaN_int64 [.int .i64 a0] s Q :=
 fnD_ok (C := C.cmp_isNaN_int64) hD hX rfl mixes (fi := fnI Tryz.f90) (by kernel_rfl) (by kernel_rfl) (cast (by kernel_rfl : vc.cmp_isNaN_int64 a0 s Q = wpC P C.cmp_isNaN_int64 1000000 (fnI Tryz.f90).body ⟨PT.setAll .nil 0 [.int .i64 a0], max [.int .i64 a0].length (fnI Tryz.f90).nt, s, []⟩ (endW C.cmp_isNaN_int64 (fnI Tryz.f90).results Q)) h)
def C.cmp_isNaN_string : Cx := { D := D, rt := rt, its := [], lps := [], det := true }
set_option maxRecDepth 100000 in
def vc.cmp_isNaN_string (a0 : ByteArray) (s : St) (Q : (AV → (St → Prop))) : Prop :=
 (Q (AV.bool (! (bytesEq (Array.toList (ByteArray.data a0)) (Array.toList (ByteArray.data a0))))) s)
set_option maxRecDepth 100000 in
theorem vc.cmp_isNaN_string_ok {a0 : ByteArray} {s : St} {Q : AV → St → Prop} (h : vc.cmp_isNaN_string a0 s Q) : CallsD P F.cmp_isNaN_string [.str a0] s Q :=
 fnD_ok (C := C.cmp_isNaN_string) hD hX rfl mixes (fi := fnI Tryz.f91) (by kernel_rfl) (by kernel_rfl) (cast (by kernel_rfl : vc.cmp_isNaN_string a0 s Q = wpC P C.cmp_isNaN_string 1000000 (fnI Tryz.f91).body ⟨PT.setAll .nil 0 [.str a0], max [.str a0].length (fnI Tryz.f91).nt, s, []⟩ (endW C.cmp_isNaN_string (fnI Tryz.f91).results Q)) h)
def C.cmp_isNaN_uint64 : Cx := { D := D, rt := rt, its := [], lps := [], det := true }
set_option maxRecDepth 100000 in
def vc.cmp_isNaN_uint64 (a0 : Int) (s : St) (Q : (AV → (St → Prop))) : Prop :=
 (Q (AV.bool (a0 != a0)) s)
set_option maxRecDepth 100000 in
theorem vc.cmp_isNaN_uint64_ok {a0 : Int} {s : St} {Q : AV → St → Prop} (h : vc.cmp_isNaN_uint64 a0 s Q) : CallsD P F.cmp_isNaN_uint64 [.int .u64 a0] s Q :=
 fnD_ok (C := C.cmp_isNaN_uint64) hD hX rfl mixes (fi := fnI Tryz.f92) (by kernel_rfl) (by kernel_rfl) (cast (by kernel_rfl : vc.cmp_isNaN_uint64 a0 s Q = wpC P C.cmp_isNaN_uint64 1000000 (fnI Tryz.f92).body ⟨PT.setAll .nil 0 [.int .u64 a0], max [.int .u64 a0].length (fnI Tryz.f92).nt, s, []⟩ (endW C.cmp_isNaN_uint64 (fnI Tryz.f92).results Q)) h)
end
end Go.Eng.S

namespace Go.Eng.S
open Go Go.Eng Go.Proofs
noncomputable section
def C.calls_Delta : Cx := { D := D, rt := rt, its := [], lps := [(0, [8, 39, 38, 40, 41, 42, 43, 44, 45, 6, 55, 54, 56, 57, 0, 1, 61, 60, 58, 59, 7, 53, 52, 51, 50, 49, 48, 46, 47, 23, 24, 25, 26, 27, 28, 29, 35, 36, 37, 34, 31, 32, 33, 30, 15, 16, 17, 18, 19, 20, 21, 22], [0, 1, 6, 7])], msk := [(0, [true, true, false, false])] }
set_option maxRecDepth 100000 in
def vc.calls_Delta (a0 : AV) (a1 : AV) (s : St) (Q : (AV → (St → Prop))) : Prop :=
 CallsA P F.slices_Values_sl_api_Call_api_Call [a0] s fun x1 s2 =>
 ∃ (x3 : AV),
 (x1 = x3) ∧
 CallsA P F.slices_SortedFunc_api_Call [x3, (AV.func F.calls_order [] [])] s2 fun x4 s5 =>
 ∃ (x6 : AV),
 (x4 = x6) ∧
 CallsA P F.slices_Values_sl_api_Call_api_Call [a1] s5 fun x7 s8 =>
 ∃ (x9 : AV),
 (x7 = x9) ∧
 CallsA P F.slices_SortedFunc_api_Call [x9, (AV.func F.calls_order [] [])] s8 fun x10 s11 =>
 ∃ (x12 : AV),
 (x10 = x12) ∧
 ∃ (I13 : (AV → (AV → (AV → (AV → (St → (Nat → Prop))))))),
 (
  ∃ (m14 : Nat),
  (I13 x6 x12 AV.nilslice AV.nilslice s11 m14)
 ) ∧
 ∀ (x15 : AV) (x16 : AV) (x17 : AV) (x18 : AV) (s19 : St) (m20 : Nat),
 (I13 x15 x16 x17 x18 s19 m20) →
 slenK x15 fun m21 =>
 bsel (decide (((m21 : Nat) : Int) > 0)) (
  slenK x15 fun m22 =>
  bsel (((m22 : Nat) : Int) == 0) (
   ixsK 5 x16 0 fun m23 m24 =>
   ∃ (n25 : Int) (t26 : ByteArray) (t27 : ByteArray) (c28 : Bool) (n29 : Int),
   ((ldN s19 (AV.ptr m23 m24) 5) = (some [(AV.int .i64 n25), (AV.str t26), (AV.str t27), (AV.bool c28), (AV.int .u64 n29)])) ∧
   ∀ (m30 : Nat) (s31 : St),
   (NewO s19 (cellsO [(AV.int .i64 n25), (AV.str t26), (AV.str t27), (AV.bool c28), (AV.int .u64 n29)]) m30 s31) →
   ∃ (x32 : AV) (s33 : St),
   ((appendX D s31 T.sl_api_Call T.sl_api_Call x18 (AV.slice m30 0 1 (ACap.exact 1))) = (some (x32, s33))) ∧
   optK (sliceV 5 x16 (some (AV.int .i64 1)) none none) fun x34 =>
   ∃ (m35 : Nat),
   (m35 < m20) ∧
   (I13 x15 x34 x17 x32 s33 m35)
  ) (
   slenK x16 fun m36 =>
   bsel (((m36 : Nat) : Int) == 0) (
    ixsK 5 x15 0 fun m37 m38 =>
    ∃ (n39 : Int) (t40 : ByteArray) (t41 : ByteArray) (c42 : Bool) (n43 : Int),
    ((ldN s19 (AV.ptr m37 m38) 5) = (some [(AV.int .i64 n39), (AV.str t40), (AV.str t41), (AV.bool c42), (AV.int .u64 n43)])) ∧
    ∀ (m44 : Nat) (s45 : St),
    (NewO s19 (cellsO [(AV.int .i64 n39), (AV.str t40), (AV.str t41), (AV.bool c42), (AV.int .u64 n43)]) m44 s45) →
    ∃ (x46 : AV) (s47 : St),
    ((appendX D s45 T.sl_api_Call T.sl_api_Call x17 (AV.slice m44 0 1 (ACap.exact 1))) = (some (x46, s47))) ∧
    optK (sliceV 5 x15 (some (AV.int .i64 1)) none none) fun x48 =>
    ∃ (m49 : Nat),
    (m49 < m20) ∧
    (I13 x48 x16 x46 x18 s47 m49)
   ) (
    ∀ (s50 : St),
    (Bump s19 8 s50) →
    ixsK 5 x15 0 fun m51 m52 =>
    ∃ (n53 : Int) (t54 : ByteArray) (t55 : ByteArray) (c56 : Bool) (n57 : Int),
    ((ldN s50 (AV.ptr m51 m52) 5) = (some [(AV.int .i64 n53), (AV.str t54), (AV.str t55), (AV.bool c56), (AV.int .u64 n57)])) ∧
    ixsK 5 x16 0 fun m58 m59 =>
    ∃ (n60 : Int) (t61 : ByteArray) (t62 : ByteArray) (c63 : Bool) (n64 : Int),
    ((ldN s50 (AV.ptr m58 m59) 5) = (some [(AV.int .i64 n60), (AV.str t61), (AV.str t62), (AV.bool c63), (AV.int .u64 n64)])) ∧
    CallsD P F.calls_order [(AV.agg [(AV.int .i64 n53), (AV.str t54), (AV.str t55), (AV.bool c56), (AV.int .u64 n57)]), (AV.agg [(AV.int .i64 n60), (AV.str t61), (AV.str t62), (AV.bool c63), (AV.int .u64 n64)])] s50 fun x65 s66 =>
    ∃ (n67 : Int),
    (x65 = (AV.int .i64 n67)) ∧
    bsel (decide (n67 < 0)) (
     ixsK 5 x15 0 fun m68 m69 =>
     ∃ (n70 : Int) (t71 : ByteArray) (t72 : ByteArray) (c73 : Bool) (n74 : Int),
     ((ldN s66 (AV.ptr m68 m69) 5) = (some [(AV.int .i64 n70), (AV.str t71), (AV.str t72), (AV.bool c73), (AV.int .u64 n74)])) ∧
     ∀ (m75 : Nat) (s76 : St),
     (NewO s66 (cellsO [(AV.int .i64 n70), (AV.str t71), (AV.str t72), (AV.bool c73), (AV.int .u64 n74)]) m75 s76) →
     ∃ (x77 : AV) (s78 : St),
     ((appendX D s76 T.sl_api_Call T.sl_api_Call x17 (AV.slice m75 0 1 (ACap.exact 1))) = (some (x77, s78))) ∧
     bsel (decide (n67 > 0)) (
      ixsK 5 x16 0 fun m79 m80 =>
      ∃ (n81 : Int) (t82 : ByteArray) (t83 : ByteArray) (c84 : Bool) (n85 : Int),
      ((ldN s78 (AV.ptr m79 m80) 5) = (some [(AV.int .i64 n81), (AV.str t82), (AV.str t83), (AV.bool c84), (AV.int .u64 n85)])) ∧
      ∀ (m86 : Nat) (s87 : St),
      (NewO s78 (cellsO [(AV.int .i64 n81), (AV.str t82), (AV.str t83), (AV.bool c84), (AV.int .u64 n85)]) m86 s87) →
      ∃ (x88 : AV) (s89 : St),
      ((appendX D s87 T.sl_api_Call T.sl_api_Call x18 (AV.slice m86 0 1 (ACap.exact 1))) = (some (x88, s89))) ∧
      bsel (decide (n67 ≤ 0)) (
       optK (sliceV 5 x15 (some (AV.int .i64 1)) none none) fun x90 =>
       bsel (decide (n67 ≥ 0)) (
        optK (sliceV 5 x16 (some (AV.int .i64 1)) none none) fun x91 =>
        ∃ (m92 : Nat),
        (m92 < m20) ∧
        (I13 x90 x91 x77 x88 s89 m92)
       ) (
        ∃ (m93 : Nat),
        (m93 < m20) ∧
        (I13 x90 x16 x77 x88 s89 m93)
       )
      ) (
       bsel (decide (n67 ≥ 0)) (
        optK (sliceV 5 x16 (some (AV.int .i64 1)) none none) fun x94 =>
        ∃ (m95 : Nat),
        (m95 < m20) ∧
        (I13 x15 x94 x77 x88 s89 m95)
       ) (
        ∃ (m96 : Nat),
        (m96 < m20) ∧
        (I13 x15 x16 x77 x88 s89 m96)
       )
      )
     ) (
      bsel (decide (n67 ≤ 0)) (
       optK (sliceV 5 x15 (some (AV.int .i64 1)) none none) fun x97 =>
       bsel (decide (n67 ≥ 0)) (
        optK (sliceV 5 x16 (some (AV.int .i64 1)) none none) fun x98 =>
        ∃ (m99 : Nat),
        (m99 < m20) ∧
        (I13 x97 x98 x77 x18 s78 m99)
       ) (
        ∃ (m100 : Nat),
        (m100 < m20) ∧
        (I13 x97 x16 x77 x18 s78 m100)
       )
      ) (
       bsel (decide (n67 ≥ 0)) (
        optK (sliceV 5 x16 (some (AV.int .i64 1)) none none) fun x101 =>
        ∃ (m102 : Nat),
        (m102 < m20) ∧
        (I13 x15 x101 x77 x18 s78 m102)
       ) (
        ∃ (m103 : Nat),
        (m103 < m20) ∧
        (I13 x15 x16 x77 x18 s78 m103)
       )
      )
     )
    ) (
     bsel (decide (n67 > 0)) (
      ixsK 5 x16 0 fun m104 m105 =>
      ∃ (n106 : Int) (t107 : ByteArray) (t108 : ByteArray) (c109 : Bool) (n110 : Int),
      ((ldN s66 (AV.ptr m104 m105) 5) = (some [(AV.int .i64 n106), (AV.str t107), (AV.str t108), (AV.bool c109), (AV.int .u64 n110)])) ∧
      ∀ (m111 : Nat) (s112 : St),
      (NewO s66 (cellsO [(AV.int .i64 n106), (AV.str t107), (AV.str t108), (AV.bool c109), (AV.int .u64 n110)]) m111 s112) →
      ∃ (x113 : AV) (s114 : St),
      ((appendX D s112 T.sl_api_Call T.sl_api_Call x18 (AV.slice m111 0 1 (ACap.exact 1))) = (some (x113, s114))) ∧
      bsel (decide (n67 ≤ 0)) (
       optK (sliceV 5 x15 (some (AV.int .i64 1)) none none) fun x115 =>
       bsel (decide (n67 ≥ 0)) (
        optK (sliceV 5 x16 (some (AV.int .i64 1)) none none) fun x116 =>
        ∃ (m117 : Nat),
        (m117 < m20) ∧
        (I13 x115 x116 x17 x113 s114 m117)
       ) (
        ∃ (m118 : Nat),
        (m118 < m20) ∧
        (I13 x115 x16 x17 x113 s114 m118)
       )
      ) (
       bsel (decide (n67 ≥ 0)) (
        optK (sliceV 5 x16 (some (AV.int .i64 1)) none none) fun x119 =>
        ∃ (m120 : Nat),
        (m120 < m20) ∧
        (I13 x15 x119 x17 x113 s114 m120)
       ) (
        ∃ (m121 : Nat),
        (m121 < m20) ∧
        (I13 x15 x16 x17 x113 s114 m121)
       )
      )
     ) (
      bsel (decide (n67 ≤ 0)) (
       optK (sliceV 5 x15 (some (AV.int .i64 1)) none none) fun x122 =>
       bsel (decide (n67 ≥ 0)) (
        optK (sliceV 5 x16 (some (AV.int .i64 1)) none none) fun x123 =>
        ∃ (m124 : Nat),
        (m124 < m20) ∧
        (I13 x122 x123 x17 x18 s66 m124)
       ) (
        ∃ (m125 : Nat),
        (m125 < m20) ∧
        (I13 x122 x16 x17 x18 s66 m125)
       )
      ) (
       bsel (decide (n67 ≥ 0)) (
        optK (sliceV 5 x16 (some (AV.int .i64 1)) none none) fun x126 =>
        ∃ (m127 : Nat),
        (m127 < m20) ∧
        (I13 x15 x126 x17 x18 s66 m127)
       ) (
        ∃ (m128 : Nat),
        (m128 < m20) ∧
        (I13 x15 x16 x17 x18 s66 m128)
       )
      )
     )
    )
   )
  )
 ) (
  slenK x16 fun m129 =>
  bsel (decide (((m129 : Nat) : Int) > 0)) (
   slenK x15 fun m130 =>
   bsel (((m130 : Nat) : Int) == 0) (
    ixsK 5 x16 0 fun m131 m132 =>
    ∃ (n133 : Int) (t134 : ByteArray) (t135 : ByteArray) (c136 : Bool) (n137 : Int),
    ((ldN s19 (AV.ptr m131 m132) 5) = (some [(AV.int .i64 n133), (AV.str t134), (AV.str t135), (AV.bool c136), (AV.int .u64 n137)])) ∧
    ∀ (m138 : Nat) (s139 : St),
    (NewO s19 (cellsO [(AV.int .i64 n133), (AV.str t134), (AV.str t135), (AV.bool c136), (AV.int .u64 n137)]) m138 s139) →
    ∃ (x140 : AV) (s141 : St),
    ((appendX D s139 T.sl_api_Call T.sl_api_Call x18 (AV.slice m138 0 1 (ACap.exact 1))) = (some (x140, s141))) ∧
    optK (sliceV 5 x16 (some (AV.int .i64 1)) none none) fun x142 =>
    ∃ (m143 : Nat),
    (m143 < m20) ∧
    (I13 x15 x142 x17 x140 s141 m143)
   ) (
    slenK x16 fun m144 =>
    bsel (((m144 : Nat) : Int) == 0) (
     ixsK 5 x15 0 fun m145 m146 =>
     ∃ (n147 : Int) (t148 : ByteArray) (t149 : ByteArray) (c150 : Bool) (n151 : Int),
     ((ldN s19 (AV.ptr m145 m146) 5) = (some [(AV.int .i64 n147), (AV.str t148), (AV.str t149), (AV.bool c150), (AV.int .u64 n151)])) ∧
     ∀ (m152 : Nat) (s153 : St),
     (NewO s19 (cellsO [(AV.int .i64 n147), (AV.str t148), (AV.str t149), (AV.bool c150), (AV.int .u64 n151)]) m152 s153) →
     ∃ (x154 : AV) (s155 : St),
     ((appendX D s153 T.sl_api_Call T.sl_api_Call x17 (AV.slice m152 0 1 (ACap.exact 1))) = (some (x154, s155))) ∧
     optK (sliceV 5 x15 (some (AV.int .i64 1)) none none) fun x156 =>
     ∃ (m157 : Nat),
     (m157 < m20) ∧
     (I13 x156 x16 x154 x18 s155 m157)
    ) (
     ∀ (s158 : St),
     (Bump s19 8 s158) →
     ixsK 5 x15 0 fun m159 m160 =>
     ∃ (n161 : Int) (t162 : ByteArray) (t163 : ByteArray) (c164 : Bool) (n165 : Int),
     ((ldN s158 (AV.ptr m159 m160) 5) = (some [(AV.int .i64 n161), (AV.str t162), (AV.str t163), (AV.bool c164), (AV.int .u64 n165)])) ∧
     ixsK 5 x16 0 fun m166 m167 =>
     ∃ (n168 : Int) (t169 : ByteArray) (t170 : ByteArray) (c171 : Bool) (n172 : Int),
     ((ldN s158 (AV.ptr m166 m167) 5) = (some [(AV.int .i64 n168), (AV.str t169), (AV.str t170), (AV.bool c171), (AV.int .u64 n172)])) ∧
     CallsD P F.calls_order [(AV.agg [(AV.int .i64 n161), (AV.str t162), (AV.str t163), (AV.bool c164), (AV.int .u64 n165)]), (AV.agg [(AV.int .i64 n168), (AV.str t169), (AV.str t170), (AV.bool c171), (AV.int .u64 n172)])] s158 fun x173 s174 =>
     ∃ (n175 : Int),
     (x173 = (AV.int .i64 n175)) ∧
     bsel (decide (n175 < 0)) (
      ixsK 5 x15 0 fun m176 m177 =>
      ∃ (n178 : Int) (t179 : ByteArray) (t180 : ByteArray) (c181 : Bool) (n182 : Int),
      ((ldN s174 (AV.ptr m176 m177) 5) = (some [(AV.int .i64 n178), (AV.str t179), (AV.str t180), (AV.bool c181), (AV.int .u64 n182)])) ∧
      ∀ (m183 : Nat) (s184 : St),
      (NewO s174 (cellsO [(AV.int .i64 n178), (AV.str t179), (AV.str t180), (AV.bool c181), (AV.int .u64 n182)]) m183 s184) →
      ∃ (x185 : AV) (s186 : St),
      ((appendX D s184 T.sl_api_Call T.sl_api_Call x17 (AV.slice m183 0 1 (ACap.exact 1))) = (some (x185, s186))) ∧
      bsel (decide (n175 > 0)) (
       ixsK 5 x16 0 fun m187 m188 =>
       ∃ (n189 : Int) (t190 : ByteArray) (t191 : ByteArray) (c192 : Bool) (n193 : Int),
       ((ldN s186 (AV.ptr m187 m188) 5) = (some [(AV.int .i64 n189), (AV.str t190), (AV.str t191), (AV.bool c192), (AV.int .u64 n193)])) ∧
       ∀ (m194 : Nat) (s195 : St),
       (NewO s186 (cellsO [(AV.int .i64 n189), (AV.str t190), (AV.str t191), (AV.bool c192), (AV.int .u64 n193)]) m194 s195) →
       ∃ (x196 : AV) (s197 : St),
       ((appendX D s195 T.sl_api_Call T.sl_api_Call x18 (AV.slice m194 0 1 (ACap.exact 1))) = (some (x196, s197))) ∧
       bsel (decide (n175 ≤ 0)) (
        optK (sliceV 5 x15 (some (AV.int .i64 1)) none none) fun x198 =>
        bsel (decide (n175 ≥ 0)) (
         optK (sliceV 5 x16 (some (AV.int .i64 1)) none none) fun x199 =>
         ∃ (m200 : Nat),
         (m200 < m20) ∧
         (I13 x198 x199 x185 x196 s197 m200)
        ) (
         ∃ (m201 : Nat),
         (m201 < m20) ∧
         (I13 x198 x16 x185 x196 s197 m201)
        )
       ) (
        bsel (decide (n175 ≥ 0)) (
         optK (sliceV 5 x16 (some (AV.int .i64 1)) none none) fun x202 =>
         ∃ (m203 : Nat),
         (m203 < m20) ∧
         (I13 x15 x202 x185 x196 s197 m203)
        ) (
         ∃ (m204 : Nat),
         (m204 < m20) ∧
         (I13 x15 x16 x185 x196 s197 m204)
        )
       )
      ) (
       bsel (decide (n175 ≤ 0)) (
        optK (sliceV 5 x15 (some (AV.int .i64 1)) none none) fun x205 =>
        bsel (decide (n175 ≥ 0)) (
         optK (sliceV 5 x16 (some (AV.int .i64 1)) none none) fun x206 =>
         ∃ (m207 : Nat),
         (m207 < m20) ∧
         (I13 x205 x206 x185 x18 s186 m207)
        ) (
         ∃ (m208 : Nat),
         (m208 < m20) ∧
         (I13 x205 x16 x185 x18 s186 m208)
        )
       ) (
        bsel (decide (n175 ≥ 0)) (
         optK (sliceV 5 x16 (some (AV.int .i64 1)) none none) fun x209 =>
         ∃ (m210 : Nat),
         (m210 < m20) ∧
         (I13 x15 x209 x185 x18 s186 m210)
        ) (
         ∃ (m211 : Nat),
         (m211 < m20) ∧
         (I13 x15 x16 x185 x18 s186 m211)
        )
       )
      )
     ) (
      bsel (decide (n175 > 0)) (
       ixsK 5 x16 0 fun m212 m213 =>
       ∃ (n214 : Int) (t215 : ByteArray) (t216 : ByteArray) (c217 : Bool) (n218 : Int),
       ((ldN s174 (AV.ptr m212 m213) 5) = (some [(AV.int .i64 n214), (AV.str t215), (AV.str t216), (AV.bool c217), (AV.int .u64 n218)])) ∧
       ∀ (m219 : Nat) (s220 : St),
       (NewO s174 (cellsO [(AV.int .i64 n214), (AV.str t215), (AV.str t216), (AV.bool c217), (AV.int .u64 n218)]) m219 s220) →
       ∃ (x221 : AV) (s222 : St),
       ((appendX D s220 T.sl_api_Call T.sl_api_Call x18 (AV.slice m219 0 1 (ACap.exact 1))) = (some (x221, s222))) ∧
       bsel (decide (n175 ≤ 0)) (
        optK (sliceV 5 x15 (some (AV.int .i64 1)) none none) fun x223 =>
        bsel (decide (n175 ≥ 0)) (
         optK (sliceV 5 x16 (some (AV.int .i64 1)) none none) fun x224 =>
         ∃ (m225 : Nat),
         (m225 < m20) ∧
         (I13 x223 x224 x17 x221 s222 m225)
        ) (
         ∃ (m226 : Nat),
         (m226 < m20) ∧
         (I13 x223 x16 x17 x221 s222 m226)
        )
       ) (
        bsel (decide (n175 ≥ 0)) (
         optK (sliceV 5 x16 (some (AV.int .i64 1)) none none) fun x227 =>
         ∃ (m228 : Nat),
         (m228 < m20) ∧
         (I13 x15 x227 x17 x221 s222 m228)
        ) (
         ∃ (m229 : Nat),
         (m229 < m20) ∧
         (I13 x15 x16 x17 x221 s222 m229)
        )
       )
      ) (
       bsel (decide (n175 ≤ 0)) (
        optK (sliceV 5 x15 (some (AV.int .i64 1)) none none) fun x230 =>
        bsel (decide (n175 ≥ 0)) (
         optK (sliceV 5 x16 (some (AV.int .i64 1)) none none) fun x231 =>
         ∃ (m232 : Nat),
         (m232 < m20) ∧
         (I13 x230 x231 x17 x18 s174 m232)
        ) (
         ∃ (m233 : Nat),
         (m233 < m20) ∧
         (I13 x230 x16 x17 x18 s174 m233)
        )
       ) (
        bsel (decide (n175 ≥ 0)) (
         optK (sliceV 5 x16 (some (AV.int .i64 1)) none none) fun x234 =>
         ∃ (m235 : Nat),
         (m235 < m20) ∧
         (I13 x15 x234 x17 x18 s174 m235)
        ) (
         ∃ (m236 : Nat),
         (m236 < m20) ∧
         (I13 x15 x16 x17 x18 s174 m236)
        )
       )
      )
     )
    )
   )
  ) (
   (Q (AV.tuple [x17, x18]) s19)
  )
 )
set_option maxRecDepth 100000 in
theorem vc.calls_Delta_ok {a0 : AV} {a1 : AV} {s : St} {Q : AV → St → Prop} (h : vc.calls_Delta a0 a1 s Q) : CallsA P F.calls_Delta [a0, a1] s Q :=
 fnB_ok (C := C.calls_Delta) hD hX mixes (fi := fnI Tryz.f23) (by kernel_rfl) (by kernel_rfl) (cast (by kernel_rfl : vc.calls_Delta a0 a1 s Q = wpC P C.calls_Delta 1000000 (fnI Tryz.f23).body ⟨PT.setAll .nil 0 [a0, a1], max [a0, a1].length (fnI Tryz.f23).nt, s, []⟩ (endW C.calls_Delta (fnI Tryz.f23).results Q)) h)
end
end Go.Eng.S

namespace Go.Eng.S
open Go Go.Eng Go.Proofs
noncomputable section
end
end Go.Eng.S

namespace Go.Eng.S
open Go Go.Eng Go.Proofs
noncomputable section
end
end Go.Eng.S

