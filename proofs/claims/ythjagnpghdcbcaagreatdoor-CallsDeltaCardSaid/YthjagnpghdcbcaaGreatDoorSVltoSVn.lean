/-
  What is to be shown of functions of the program, and that it suffices.
  What is to be shown of functions of the program, and that it suffices.
  What is to be shown of functions of the program, and that it suffices.
-/
import Derived.Test.YthjagnpghdcbcaaGreatDoorSDefs
namespace Go.Eng.S
open Go Go.Eng Go.Proofs
noncomputable section
def C.spoorlaw14_lentCalls : Cx := { D := D, rt := rt, its := [], lps := [(0, [25, 24, 23, 22, 21, 20, 18, 19, 4, 14, 15, 16, 17], [4])], det := true }
set_option maxRecDepth 100000 in
def vc.spoorlaw14_lentCalls (a0 : AV) (s : St) (Q : (AV → (St → Prop))) : Prop :=
 slenK a0 fun m1 =>
 ∃ (x2 : AV) (s3 : St),
 ((makeSliceA D s T.sl_api_Call (AV.int .i64 (IntKind.wrap .i64 (((m1 : Nat) : Int) + 4))) (AV.int .i64 (IntKind.wrap .i64 (((m1 : Nat) : Int) + 4)))) = (some (x2, s3))) ∧
 ∃ (n4 : Int) (s5 : St),
 ((copyA D s3 T.sl_api_Call x2 a0) = (some ((AV.int .i64 n4), s5))) ∧
 slenK a0 fun m6 =>
 ∃ (I7 : (Int → (St → (Nat → Prop)))),
 (
  ∃ (m8 : Nat),
  (I7 ((m6 : Nat) : Int) s5 m8)
 ) ∧
 ∀ (n9 : Int) (s10 : St) (m11 : Nat),
 (I7 n9 s10 m11) →
 slenK x2 fun m12 =>
 bsel (decide (n9 < ((m12 : Nat) : Int))) (
  ixsK 5 x2 n9 fun m13 m14 =>
  ∃ (s15 : St),
  ((wrN s10 (AV.ptr m13 m14) [(AV.int .i64 (IntKind.wrap .i64 (900 + n9))), (AV.str ByteArray.empty), (AV.str ByteArray.empty), (AV.bool false), (AV.int .u64 0)]) = (some s15)) ∧
  ∃ (m16 : Nat),
  (m16 < m11) ∧
  (I7 (IntKind.wrap .i64 (n9 + 1)) s15 m16)
 ) (
  (Q x2 s10)
 )
set_option maxRecDepth 100000 in
theorem vc.spoorlaw14_lentCalls_ok {a0 : AV} {s : St} {Q : AV → St → Prop} (h : vc.spoorlaw14_lentCalls a0 s Q) : CallsD P F.spoorlaw14_lentCalls [a0] s Q :=
 fnD_ok (C := C.spoorlaw14_lentCalls) hD hX rfl mixes (fi := fnI Tryz.f22) (by kernel_rfl) (by kernel_rfl) (cast (by kernel_rfl : vc.spoorlaw14_lentCalls a0 s Q = wpC P C.spoorlaw14_lentCalls 1000000 (fnI Tryz.f22).body ⟨PT.setAll .nil 0 [a0], max [a0].length (fnI Tryz.f22).nt, s, []⟩ (endW C.spoorlaw14_lentCalls (fnI Tryz.f22).results Q)) h)
def C.spoorlaw14_sameCalls : Cx := { D := D, rt := rt, its := [], lps := [(0, [25, 24, 23, 22, 21, 20, 19, 18, 17, 4, 15, 16, 5, 11, 12, 13, 14], [5])], det := true }
set_option maxRecDepth 100000 in
def vc.spoorlaw14_sameCalls (a0 : AV) (a1 : AV) (s : St) (Q : (AV → (St → Prop))) : Prop :=
 slenK a0 fun m1 =>
 slenK a1 fun m2 =>
 bsel (((m1 : Nat) : Int) != ((m2 : Nat) : Int)) (
  (Q (AV.bool false) s)
 ) (
  ∃ (I3 : (Int → (St → (Nat → Prop)))),
  (
   ∃ (m4 : Nat),
   (I3 0 s m4)
  ) ∧
  ∀ (n5 : Int) (s6 : St) (m7 : Nat),
  (I3 n5 s6 m7) →
  slenK a0 fun m8 =>
  bsel (decide (n5 < ((m8 : Nat) : Int))) (
   ∀ (s9 : St),
   (Bump s6 9 s9) →
   ixsK 5 a0 n5 fun m10 m11 =>
   ∃ (n12 : Int) (t13 : ByteArray) (t14 : ByteArray) (c15 : Bool) (n16 : Int),
   ((ldN s9 (AV.ptr m10 m11) 5) = (some [(AV.int .i64 n12), (AV.str t13), (AV.str t14), (AV.bool c15), (AV.int .u64 n16)])) ∧
   ixsK 5 a1 n5 fun m17 m18 =>
   ∃ (n19 : Int) (t20 : ByteArray) (t21 : ByteArray) (c22 : Bool) (n23 : Int),
   ((ldN s9 (AV.ptr m17 m18) 5) = (some [(AV.int .i64 n19), (AV.str t20), (AV.str t21), (AV.bool c22), (AV.int .u64 n23)])) ∧
   bsel (if (false = true) then ((n12 == n19) && (((bytesEq (Array.toList (ByteArray.data t13)) (Array.toList (ByteArray.data t20))) && ((bytesEq (Array.toList (ByteArray.data t14)) (Array.toList (ByteArray.data t21))) && true)) && ((c15 == c22) && ((n16 == n23) && true)))) else (! ((n12 == n19) && (((bytesEq (Array.toList (ByteArray.data t13)) (Array.toList (ByteArray.data t20))) && ((bytesEq (Array.toList (ByteArray.data t14)) (Array.toList (ByteArray.data t21))) && true)) && ((c15 == c22) && ((n16 == n23) && true)))))) (
    (Q (AV.bool false) s9)
   ) (
    ∃ (m24 : Nat),
    (m24 < m7) ∧
    (I3 (IntKind.wrap .i64 (n5 + 1)) s9 m24)
   )
  ) (
   (Q (AV.bool true) s6)
  )
 )
set_option maxRecDepth 100000 in
theorem vc.spoorlaw14_sameCalls_ok {a0 : AV} {a1 : AV} {s : St} {Q : AV → St → Prop} (h : vc.spoorlaw14_sameCalls a0 a1 s Q) : CallsD P F.spoorlaw14_sameCalls [a0, a1] s Q :=
 fnD_ok (C := C.spoorlaw14_sameCalls) hD hX rfl mixes (fi := fnI Tryz.f25) (by kernel_rfl) (by kernel_rfl) (cast (by kernel_rfl : vc.spoorlaw14_sameCalls a0 a1 s Q = wpC P C.spoorlaw14_sameCalls 1000000 (fnI Tryz.f25).body ⟨PT.setAll .nil 0 [a0, a1], max [a0, a1].length (fnI Tryz.f25).nt, s, []⟩ (endW C.spoorlaw14_sameCalls (fnI Tryz.f25).results Q)) h)
def C.spoorlaw14_callsStay : Cx := { D := D, rt := rt, its := [], lps := [(0, [42, 41, 40, 39, 38, 37, 36, 35, 34, 33, 32, 31, 30, 29, 28, 27, 26, 25, 24, 23, 22, 21, 20, 19, 18, 17, 16, 15, 14, 13, 12, 4, 10, 11, 5, 6, 7, 8, 9], [5])], det := true, jns := [(14, [12, 13, 14, 15, 16, 17, 18, 19, 20, 21, 22, 23, 24, 25, 26, 27, 28, 29, 30, 31, 32, 33, 34, 35, 36, 37, 38, 39, 40, 41, 42], [42], [.bool false]), (4, [4, 12, 13, 14, 15, 16, 17, 18, 19, 20, 21, 22, 23, 24, 25, 26, 27, 28, 29, 30, 31, 32, 33, 34, 35, 36, 37, 38, 39, 40, 41, 42], [], [])] }
set_option maxRecDepth 100000 in
def vc.spoorlaw14_callsStay (a0 : AV) (a1 : AV) (s : St) (Q : (AV → (St → Prop))) : Prop :=
 ∃ (I1 : (Int → (St → (Nat → Prop)))),
 (
  ∃ (m2 : Nat),
  (I1 0 s m2)
 ) ∧
 ∀ (n3 : Int) (s4 : St) (m5 : Nat),
 (I1 n3 s4 m5) →
 slenK a0 fun m6 =>
 bsel (decide (n3 < ((m6 : Nat) : Int))) (
  ∃ (I7 : (St → (Nat → Prop))),
  (
   ∃ (I8 : (Bool → (St → (Nat → Prop)))),
   (
    ∀ (s9 : St),
    (Bump s4 31 s9) →
    slenK a1 fun m10 =>
    bsel (decide (n3 < ((m10 : Nat) : Int))) (
     ixsK 5 a0 n3 fun m11 m12 =>
     ∃ (n13 : Int) (t14 : ByteArray) (t15 : ByteArray) (c16 : Bool) (n17 : Int),
     ((ldN s9 (AV.ptr m11 m12) 5) = (some [(AV.int .i64 n13), (AV.str t14), (AV.str t15), (AV.bool c16), (AV.int .u64 n17)])) ∧
     ixsK 5 a1 n3 fun m18 m19 =>
     ∃ (n20 : Int) (t21 : ByteArray) (t22 : ByteArray) (c23 : Bool) (n24 : Int),
     ((ldN s9 (AV.ptr m18 m19) 5) = (some [(AV.int .i64 n20), (AV.str t21), (AV.str t22), (AV.bool c23), (AV.int .u64 n24)])) ∧
     bsel (if (false = true) then ((n13 == n20) && (((bytesEq (Array.toList (ByteArray.data t14)) (Array.toList (ByteArray.data t21))) && ((bytesEq (Array.toList (ByteArray.data t15)) (Array.toList (ByteArray.data t22))) && true)) && ((c16 == c23) && ((n17 == n24) && true)))) else (! ((n13 == n20) && (((bytesEq (Array.toList (ByteArray.data t14)) (Array.toList (ByteArray.data t21))) && ((bytesEq (Array.toList (ByteArray.data t15)) (Array.toList (ByteArray.data t22))) && true)) && ((c16 == c23) && ((n17 == n24) && true)))))) (
      ∃ (m25 : Nat),
      (I8 true s9 m25)
     ) (
      slenK a1 fun m26 =>
      bsel (decide (n3 ≥ ((m26 : Nat) : Int))) (
       ixsK 5 a0 n3 fun m27 m28 =>
       ∃ (n29 : Int) (t30 : ByteArray) (t31 : ByteArray) (c32 : Bool) (n33 : Int),
       ((ldN s9 (AV.ptr m27 m28) 5) = (some [(AV.int .i64 n29), (AV.str t30), (AV.str t31), (AV.bool c32), (AV.int .u64 n33)])) ∧
       ∃ (m34 : Nat),
       (I8 (if (false = true) then ((n29 == (IntKind.wrap .i64 (900 + n3))) && (((bytesEq (Array.toList (ByteArray.data t30)) (Array.toList (ByteArray.data ByteArray.empty))) && ((bytesEq (Array.toList (ByteArray.data t31)) (Array.toList (ByteArray.data ByteArray.empty))) && true)) && ((c32 == false) && ((n33 == 0) && true)))) else (! ((n29 == (IntKind.wrap .i64 (900 + n3))) && (((bytesEq (Array.toList (ByteArray.data t30)) (Array.toList (ByteArray.data ByteArray.empty))) && ((bytesEq (Array.toList (ByteArray.data t31)) (Array.toList (ByteArray.data ByteArray.empty))) && true)) && ((c32 == false) && ((n33 == 0) && true)))))) s9 m34)
      ) (
       ∃ (m35 : Nat),
       (I8 false s9 m35)
      )
     )
    ) (
     slenK a1 fun m36 =>
     bsel (decide (n3 ≥ ((m36 : Nat) : Int))) (
      ixsK 5 a0 n3 fun m37 m38 =>
      ∃ (n39 : Int) (t40 : ByteArray) (t41 : ByteArray) (c42 : Bool) (n43 : Int),
      ((ldN s9 (AV.ptr m37 m38) 5) = (some [(AV.int .i64 n39), (AV.str t40), (AV.str t41), (AV.bool c42), (AV.int .u64 n43)])) ∧
      ∃ (m44 : Nat),
      (I8 (if (false = true) then ((n39 == (IntKind.wrap .i64 (900 + n3))) && (((bytesEq (Array.toList (ByteArray.data t40)) (Array.toList (ByteArray.data ByteArray.empty))) && ((bytesEq (Array.toList (ByteArray.data t41)) (Array.toList (ByteArray.data ByteArray.empty))) && true)) && ((c42 == false) && ((n43 == 0) && true)))) else (! ((n39 == (IntKind.wrap .i64 (900 + n3))) && (((bytesEq (Array.toList (ByteArray.data t40)) (Array.toList (ByteArray.data ByteArray.empty))) && ((bytesEq (Array.toList (ByteArray.data t41)) (Array.toList (ByteArray.data ByteArray.empty))) && true)) && ((c42 == false) && ((n43 == 0) && true)))))) s9 m44)
     ) (
      ∃ (m45 : Nat),
      (I8 false s9 m45)
     )
    )
   ) ∧
   ∀ (c46 : Bool) (s47 : St) (m48 : Nat),
   (I8 c46 s47 m48) →
   bsel c46 (
    (Q (AV.bool false) s47)
   ) (
    ∃ (m49 : Nat),
    (I7 s47 m49)
   )
  ) ∧
  ∀ (s50 : St) (m51 : Nat),
  (I7 s50 m51) →
  ∃ (m52 : Nat),
  (m52 < m5) ∧
  (I1 (IntKind.wrap .i64 (n3 + 1)) s50 m52)
 ) (
  (Q (AV.bool true) s4)
 )
set_option maxRecDepth 100000 in
theorem vc.spoorlaw14_callsStay_ok {a0 : AV} {a1 : AV} {s : St} {Q : AV → St → Prop} (h : vc.spoorlaw14_callsStay a0 a1 s Q) : CallsD P F.spoorlaw14_callsStay [a0, a1] s Q :=
 fnD_ok (C := C.spoorlaw14_callsStay) hD hX rfl mixes (fi := fnI Tryz.f26) (by kernel_rfl) (by kernel_rfl) (cast (by kernel_rfl : vc.spoorlaw14_callsStay a0 a1 s Q = wpC P C.spoorlaw14_callsStay 1000000 (fnI Tryz.f26).body ⟨PT.setAll .nil 0 [a0, a1], max [a0, a1].length (fnI Tryz.f26).nt, s, []⟩ (endW C.spoorlaw14_callsStay (fnI Tryz.f26).results Q)) h)
def C.spoorref14_Less : Cx := { D := D, rt := rt, its := [], lps := [], det := true }
set_option maxRecDepth 100000 in
def vc.spoorref14_Less (a0_0 : Int) (a0_1 : ByteArray) (a0_2 : ByteArray) (a0_3 : Bool) (a0_4 : Int) (a1_0 : Int) (a1_1 : ByteArray) (a1_2 : ByteArray) (a1_3 : Bool) (a1_4 : Int) (s : St) (Q : (AV → (St → Prop))) : Prop :=
 ∀ (m1 : Nat) (s2 : St),
 (NewO s (cellsO [(AV.int .i64 a0_0), (AV.str a0_1), (AV.str a0_2), (AV.bool a0_3), (AV.int .u64 a0_4)]) m1 s2) →
 ∀ (m3 : Nat) (s4 : St),
 (NewO s2 (cellsO [(AV.int .i64 a1_0), (AV.str a1_1), (AV.str a1_2), (AV.bool a1_3), (AV.int .u64 a1_4)]) m3 s4) →
 ∃ (n5 : Int),
 ((ld1 s4 (AV.ptr m1 0)) = (some (AV.int .i64 n5))) ∧
 ∃ (n6 : Int),
 ((ld1 s4 (AV.ptr m3 0)) = (some (AV.int .i64 n6))) ∧
 bsel (n5 != n6) (
  ∃ (n7 : Int),
  ((ld1 s4 (AV.ptr m1 0)) = (some (AV.int .i64 n7))) ∧
  ∃ (n8 : Int),
  ((ld1 s4 (AV.ptr m3 0)) = (some (AV.int .i64 n8))) ∧
  (Q (AV.bool (decide (n7 < n8))) s4)
 ) (
  ∃ (t9 : ByteArray),
  ((ld1 s4 (AV.ptr m1 1)) = (some (AV.str t9))) ∧
  ∃ (t10 : ByteArray),
  ((ld1 s4 (AV.ptr m3 1)) = (some (AV.str t10))) ∧
  bsel (! (bytesEq (Array.toList (ByteArray.data t9)) (Array.toList (ByteArray.data t10)))) (
   ∃ (t11 : ByteArray),
   ((ld1 s4 (AV.ptr m1 1)) = (some (AV.str t11))) ∧
   ∃ (t12 : ByteArray),
   ((ld1 s4 (AV.ptr m3 1)) = (some (AV.str t12))) ∧
   (Q (AV.bool (bytesLt (Array.toList (ByteArray.data t11)) (Array.toList (ByteArray.data t12)))) s4)
  ) (
   ∃ (t13 : ByteArray),
   ((ld1 s4 (AV.ptr m1 2)) = (some (AV.str t13))) ∧
   ∃ (t14 : ByteArray),
   ((ld1 s4 (AV.ptr m3 2)) = (some (AV.str t14))) ∧
   bsel (! (bytesEq (Array.toList (ByteArray.data t13)) (Array.toList (ByteArray.data t14)))) (
    ∃ (t15 : ByteArray),
    ((ld1 s4 (AV.ptr m1 2)) = (some (AV.str t15))) ∧
    ∃ (t16 : ByteArray),
    ((ld1 s4 (AV.ptr m3 2)) = (some (AV.str t16))) ∧
    (Q (AV.bool (bytesLt (Array.toList (ByteArray.data t15)) (Array.toList (ByteArray.data t16)))) s4)
   ) (
    ∃ (c17 : Bool),
    ((ld1 s4 (AV.ptr m1 3)) = (some (AV.bool c17))) ∧
    ∃ (c18 : Bool),
    ((ld1 s4 (AV.ptr m3 3)) = (some (AV.bool c18))) ∧
    bsel (if (false = true) then (c17 == c18) else (! (c17 == c18))) (
     ∃ (c19 : Bool),
     ((ld1 s4 (AV.ptr m3 3)) = (some (AV.bool c19))) ∧
     (Q (AV.bool c19) s4)
    ) (
     ∃ (n20 : Int),
     ((ld1 s4 (AV.ptr m1 4)) = (some (AV.int .u64 n20))) ∧
     ∃ (n21 : Int),
     ((ld1 s4 (AV.ptr m3 4)) = (some (AV.int .u64 n21))) ∧
     (Q (AV.bool (decide (n20 < n21))) s4)
    )
   )
  )
 )
set_option maxRecDepth 100000 in
theorem vc.spoorref14_Less_ok {a0_0 : Int} {a0_1 : ByteArray} {a0_2 : ByteArray} {a0_3 : Bool} {a0_4 : Int} {a1_0 : Int} {a1_1 : ByteArray} {a1_2 : ByteArray} {a1_3 : Bool} {a1_4 : Int} {s : St} {Q : AV → St → Prop} (h : vc.spoorref14_Less a0_0 a0_1 a0_2 a0_3 a0_4 a1_0 a1_1 a1_2 a1_3 a1_4 s Q) : CallsD P F.spoorref14_Less [.agg [.int .i64 a0_0, .str a0_1, .str a0_2, .bool a0_3, .int .u64 a0_4], .agg [.int .i64 a1_0, .str a1_1, .str a1_2, .bool a1_3, .int .u64 a1_4]] s Q :=
 fnD_ok (C := C.spoorref14_Less) hD hX rfl mixes (fi := fnI Tryz.f50) (by kernel_rfl) (by kernel_rfl) (cast (by kernel_rfl : vc.spoorref14_Less a0_0 a0_1 a0_2 a0_3 a0_4 a1_0 a1_1 a1_2 a1_3 a1_4 s Q = wpC P C.spoorref14_Less 1000000 (fnI Tryz.f50).body ⟨PT.setAll .nil 0 [.agg [.int .i64 a0_0, .str a0_1, .str a0_2, .bool a0_3, .int .u64 a0_4], .agg [.int .i64 a1_0, .str a1_1, .str a1_2, .bool a1_3, .int .u64 a1_4]], max [.agg [.int .i64 a0_0, .str a0_1, .str a0_2, .bool a0_3, .int .u64 a0_4], .agg [.int .i64 a1_0, .str a1_1, .str a1_2, .bool a1_3, .int .u64 a1_4]].length (fnI Tryz.f50).nt, s, []⟩ (endW C.spoorref14_Less (fnI Tryz.f50).results Q)) h)
def C.spoorref14_sorted : Cx := { D := D, rt := rt, its := [], lps := [(0, [8, 57, 56, 55, 54, 53, 52, 51, 50, 49, 48, 47, 46, 45, 44, 43, 42, 41, 40, 39, 38, 37, 5, 78, 77, 76, 75, 74, 73, 72, 79, 80, 6, 7, 89, 88, 81, 82, 83, 84, 85, 86, 87, 58, 59, 60, 61, 62, 63, 64, 65, 66, 67, 68, 69, 70, 71, 27, 28, 29, 30, 31, 32, 33, 34, 35, 36], [5, 6, 7])], jns := [(26, [27, 28, 29, 30, 31, 32, 33, 34, 35, 36], [36], [.bool false]), (111, [27, 28, 29, 30, 31, 32, 33, 34, 35, 36], [], []), (29, [37, 38, 39, 40, 41, 42, 43, 44, 45, 46, 47, 48, 49, 50, 51, 52, 53, 54, 55, 56, 57, 8], [8], [.bool false]), (32, [58, 59, 60, 61, 62, 63, 64, 65, 66, 67, 68, 69, 70, 71], [71], [.bool false])] }
set_option maxRecDepth 100000 in
def vc.spoorref14_sorted (a0 : AV) (s : St) (Q : (AV → (St → Prop))) : Prop :=
 slenK a0 fun m1 =>
 bsel (decide (((m1 : Nat) : Int) < 2)) (
  ∀ (m2 : Nat) (s3 : St),
  (NewO s (cellsO []) m2 s3) →
  ∃ (x4 : AV) (s5 : St),
  ((appendX D s3 T.sl_api_Call T.sl_api_Call (AV.slice m2 0 0 (ACap.exact 0)) a0) = (some (x4, s5))) ∧
  (Q x4 s5)
 ) (
  slenK a0 fun m6 =>
  ((2 : Int) ≠ 0) ∧
  optK (sliceV 5 a0 none (some (AV.int .i64 (IntKind.wrap .i64 (Int.tdiv ((m6 : Nat) : Int) 2)))) none) fun x7 =>
  CallsA P F.spoorref14_sorted [x7] s fun x8 s9 =>
  ∃ (x10 : AV),
  (x8 = x10) ∧
  slenK a0 fun m11 =>
  ((2 : Int) ≠ 0) ∧
  optK (sliceV 5 a0 (some (AV.int .i64 (IntKind.wrap .i64 (Int.tdiv ((m11 : Nat) : Int) 2)))) none none) fun x12 =>
  CallsA P F.spoorref14_sorted [x12] s9 fun x13 s14 =>
  ∃ (x15 : AV),
  (x13 = x15) ∧
  ∃ (I16 : (AV → (Int → (Int → (St → (Nat → Prop)))))),
  (
   ∃ (m17 : Nat),
   (I16 AV.nilslice 0 0 s14 m17)
  ) ∧
  ∀ (x18 : AV) (n19 : Int) (n20 : Int) (s21 : St) (m22 : Nat),
  (I16 x18 n19 n20 s21 m22) →
  ∃ (I23 : (St → (Nat → Prop))),
  (
   ∃ (I24 : (Bool → (St → (Nat → Prop)))),
   (
    slenK x10 fun m25 =>
    bsel (decide (n19 < ((m25 : Nat) : Int))) (
     ∃ (m26 : Nat),
     (I24 true s21 m26)
    ) (
     slenK x15 fun m27 =>
     ∃ (m28 : Nat),
     (I24 (decide (n20 < ((m27 : Nat) : Int))) s21 m28)
    )
   ) ∧
   ∀ (c29 : Bool) (s30 : St) (m31 : Nat),
   (I24 c29 s30 m31) →
   bsel c29 (
    ∃ (m32 : Nat),
    (I23 s30 m32)
   ) (
    (Q x18 s30)
   )
  ) ∧
  ∀ (s33 : St) (m34 : Nat),
  (I23 s33 m34) →
  ∃ (I35 : (Bool → (St → (Nat → Prop)))),
  (
   ∀ (s36 : St),
   (Bump s33 22 s36) →
   slenK x15 fun m37 =>
   bsel (decide (n20 < ((m37 : Nat) : Int))) (
    slenK x10 fun m38 =>
    bsel (decide (n19 < ((m38 : Nat) : Int))) (
     ixsK 5 x15 n20 fun m39 m40 =>
     ∃ (n41 : Int) (t42 : ByteArray) (t43 : ByteArray) (c44 : Bool) (n45 : Int),
     ((ldN s36 (AV.ptr m39 m40) 5) = (some [(AV.int .i64 n41), (AV.str t42), (AV.str t43), (AV.bool c44), (AV.int .u64 n45)])) ∧
     ixsK 5 x10 n19 fun m46 m47 =>
     ∃ (n48 : Int) (t49 : ByteArray) (t50 : ByteArray) (c51 : Bool) (n52 : Int),
     ((ldN s36 (AV.ptr m46 m47) 5) = (some [(AV.int .i64 n48), (AV.str t49), (AV.str t50), (AV.bool c51), (AV.int .u64 n52)])) ∧
     CallsD P F.spoorref14_Less [(AV.agg [(AV.int .i64 n41), (AV.str t42), (AV.str t43), (AV.bool c44), (AV.int .u64 n45)]), (AV.agg [(AV.int .i64 n48), (AV.str t49), (AV.str t50), (AV.bool c51), (AV.int .u64 n52)])] s36 fun x53 s54 =>
     ∃ (c55 : Bool),
     (x53 = (AV.bool c55)) ∧
     ∃ (m56 : Nat),
     (I35 c55 s54 m56)
    ) (
     ∃ (m57 : Nat),
     (I35 false s36 m57)
    )
   ) (
    ∃ (m58 : Nat),
    (I35 false s36 m58)
   )
  ) ∧
  ∀ (c59 : Bool) (s60 : St) (m61 : Nat),
  (I35 c59 s60 m61) →
  ∃ (I62 : (Bool → (St → (Nat → Prop)))),
  (
   slenK x15 fun m63 =>
   bsel (n20 == ((m63 : Nat) : Int)) (
    ∃ (m64 : Nat),
    (I62 true s60 m64)
   ) (
    slenK x10 fun m65 =>
    bsel (decide (n19 < ((m65 : Nat) : Int))) (
     ∃ (m66 : Nat),
     (I62 (!c59) s60 m66)
    ) (
     ∃ (m67 : Nat),
     (I62 false s60 m67)
    )
   )
  ) ∧
  ∀ (c68 : Bool) (s69 : St) (m70 : Nat),
  (I62 c68 s69 m70) →
  bsel c68 (
   ixsK 5 x10 n19 fun m71 m72 =>
   ∃ (n73 : Int) (t74 : ByteArray) (t75 : ByteArray) (c76 : Bool) (n77 : Int),
   ((ldN s69 (AV.ptr m71 m72) 5) = (some [(AV.int .i64 n73), (AV.str t74), (AV.str t75), (AV.bool c76), (AV.int .u64 n77)])) ∧
   ∀ (m78 : Nat) (s79 : St),
   (NewO s69 (cellsO [(AV.int .i64 n73), (AV.str t74), (AV.str t75), (AV.bool c76), (AV.int .u64 n77)]) m78 s79) →
   ∃ (x80 : AV) (s81 : St),
   ((appendX D s79 T.sl_api_Call T.sl_api_Call x18 (AV.slice m78 0 1 (ACap.exact 1))) = (some (x80, s81))) ∧
   ∃ (m82 : Nat),
   (m82 < m22) ∧
   (I16 x80 (IntKind.wrap .i64 (n19 + 1)) n20 s81 m82)
  ) (
   ixsK 5 x15 n20 fun m83 m84 =>
   ∃ (n85 : Int) (t86 : ByteArray) (t87 : ByteArray) (c88 : Bool) (n89 : Int),
   ((ldN s69 (AV.ptr m83 m84) 5) = (some [(AV.int .i64 n85), (AV.str t86), (AV.str t87), (AV.bool c88), (AV.int .u64 n89)])) ∧
   ∀ (m90 : Nat) (s91 : St),
   (NewO s69 (cellsO [(AV.int .i64 n85), (AV.str t86), (AV.str t87), (AV.bool c88), (AV.int .u64 n89)]) m90 s91) →
   ∃ (x92 : AV) (s93 : St),
   ((appendX D s91 T.sl_api_Call T.sl_api_Call x18 (AV.slice m90 0 1 (ACap.exact 1))) = (some (x92, s93))) ∧
   ∃ (m94 : Nat),
   (m94 < m22) ∧
   (I16 x92 n19 (IntKind.wrap .i64 (n20 + 1)) s93 m94)
  )
 )
set_option maxRecDepth 100000 in
theorem vc.spoorref14_sorted_ok {a0 : AV} {s : St} {Q : AV → St → Prop} (h : vc.spoorref14_sorted a0 s Q) : CallsA P F.spoorref14_sorted [a0] s Q :=
 fnB_ok (C := C.spoorref14_sorted) hD hX mixes (fi := fnI Tryz.f49) (by kernel_rfl) (by kernel_rfl) (cast (by kernel_rfl : vc.spoorref14_sorted a0 s Q = wpC P C.spoorref14_sorted 1000000 (fnI Tryz.f49).body ⟨PT.setAll .nil 0 [a0], max [a0].length (fnI Tryz.f49).nt, s, []⟩ (endW C.spoorref14_sorted (fnI Tryz.f49).results Q)) h)
def C.spoorref14_Delta : Cx := { D := D, rt := rt, its := [], lps := [(0, [47, 46, 45, 44, 43, 42, 41, 40, 39, 38, 37, 36, 35, 34, 33, 32, 31, 30, 29, 28, 27, 11, 51, 50, 48, 49, 10, 79, 78, 77, 76, 75, 74, 73, 9, 95, 94, 93, 92, 91, 90, 89, 96, 97, 88, 87, 80, 81, 82, 83, 84, 85, 86, 8, 52, 53, 54, 55, 56, 57, 58, 59, 60, 61, 62, 63, 64, 65, 66, 67, 68, 69, 70, 71, 72, 12, 17, 18, 19, 20, 21, 22, 23, 24, 25, 26], [8, 9, 10, 11])], jns := [(23, [17, 18, 19, 20, 21, 22, 23, 24, 25, 26], [26], [.bool false]), (81, [17, 18, 19, 20, 21, 22, 23, 24, 25, 26], [], []), (26, [27, 28, 29, 30, 31, 32, 33, 34, 35, 36, 37, 38, 39, 40, 41, 42, 43, 44, 45, 46, 47], [47], [.bool false]), (144, [10, 49, 48, 50, 51, 11, 27, 28, 29, 30, 31, 32, 33, 34, 35, 36, 37, 38, 39, 40, 41, 42, 43, 44, 45, 46, 47], [10, 11], [.int .i64 0, .int .i64 0]), (35, [52, 53, 54, 55, 56, 57, 58, 59, 60, 61, 62, 63, 64, 65, 66, 67, 68, 69, 70, 71, 72, 12], [12], [.bool false]), (38, [73, 74, 75, 76, 77, 78, 79], [79], [.bool false])] }
set_option maxRecDepth 100000 in
def vc.spoorref14_Delta (a0 : AV) (a1 : AV) (s : St) (Q : (AV → (St → Prop))) : Prop :=
 CallsA P F.spoorref14_sorted [a0] s fun x1 s2 =>
 ∃ (x3 : AV),
 (x1 = x3) ∧
 CallsA P F.spoorref14_sorted [a1] s2 fun x4 s5 =>
 ∃ (x6 : AV),
 (x4 = x6) ∧
 ∃ (I7 : (AV → (AV → (Int → (Int → (St → (Nat → Prop))))))),
 (
  ∃ (m8 : Nat),
  (I7 AV.nilslice AV.nilslice 0 0 s5 m8)
 ) ∧
 ∀ (x9 : AV) (x10 : AV) (n11 : Int) (n12 : Int) (s13 : St) (m14 : Nat),
 (I7 x9 x10 n11 n12 s13 m14) →
 ∃ (I15 : (St → (Nat → Prop))),
 (
  ∃ (I16 : (Bool → (St → (Nat → Prop)))),
  (
   slenK x3 fun m17 =>
   bsel (decide (n11 < ((m17 : Nat) : Int))) (
    ∃ (m18 : Nat),
    (I16 true s13 m18)
   ) (
    slenK x6 fun m19 =>
    ∃ (m20 : Nat),
    (I16 (decide (n12 < ((m19 : Nat) : Int))) s13 m20)
   )
  ) ∧
  ∀ (c21 : Bool) (s22 : St) (m23 : Nat),
  (I16 c21 s22 m23) →
  bsel c21 (
   ∃ (m24 : Nat),
   (I15 s22 m24)
  ) (
   (Q (AV.tuple [x9, x10]) s22)
  )
 ) ∧
 ∀ (s25 : St) (m26 : Nat),
 (I15 s25 m26) →
 ∃ (I27 : (Int → (Int → (St → (Nat → Prop))))),
 (
  ∃ (I28 : (Bool → (St → (Nat → Prop)))),
  (
   ∀ (s29 : St),
   (Bump s25 21 s29) →
   slenK x3 fun m30 =>
   bsel (decide (n11 < ((m30 : Nat) : Int))) (
    slenK x6 fun m31 =>
    bsel (decide (n12 < ((m31 : Nat) : Int))) (
     ixsK 5 x3 n11 fun m32 m33 =>
     ∃ (n34 : Int) (t35 : ByteArray) (t36 : ByteArray) (c37 : Bool) (n38 : Int),
     ((ldN s29 (AV.ptr m32 m33) 5) = (some [(AV.int .i64 n34), (AV.str t35), (AV.str t36), (AV.bool c37), (AV.int .u64 n38)])) ∧
     ixsK 5 x6 n12 fun m39 m40 =>
     ∃ (n41 : Int) (t42 : ByteArray) (t43 : ByteArray) (c44 : Bool) (n45 : Int),
     ((ldN s29 (AV.ptr m39 m40) 5) = (some [(AV.int .i64 n41), (AV.str t42), (AV.str t43), (AV.bool c44), (AV.int .u64 n45)])) ∧
     ∃ (m46 : Nat),
     (I28 (if (true = true) then ((n34 == n41) && (((bytesEq (Array.toList (ByteArray.data t35)) (Array.toList (ByteArray.data t42))) && ((bytesEq (Array.toList (ByteArray.data t36)) (Array.toList (ByteArray.data t43))) && true)) && ((c37 == c44) && ((n38 == n45) && true)))) else (! ((n34 == n41) && (((bytesEq (Array.toList (ByteArray.data t35)) (Array.toList (ByteArray.data t42))) && ((bytesEq (Array.toList (ByteArray.data t36)) (Array.toList (ByteArray.data t43))) && true)) && ((c37 == c44) && ((n38 == n45) && true)))))) s29 m46)
    ) (
     ∃ (m47 : Nat),
     (I28 false s29 m47)
    )
   ) (
    ∃ (m48 : Nat),
    (I28 false s29 m48)
   )
  ) ∧
  ∀ (c49 : Bool) (s50 : St) (m51 : Nat),
  (I28 c49 s50 m51) →
  bsel c49 (
   ∃ (m52 : Nat),
   (m52 < m14) ∧
   (I7 x9 x10 (IntKind.wrap .i64 (n11 + 1)) (IntKind.wrap .i64 (n12 + 1)) s50 m52)
  ) (
   ∃ (m53 : Nat),
   (I27 n11 n12 s50 m53)
  )
 ) ∧
 ∀ (n54 : Int) (n55 : Int) (s56 : St) (m57 : Nat),
 (I27 n54 n55 s56 m57) →
 ∃ (I58 : (Bool → (St → (Nat → Prop)))),
 (
  ∀ (s59 : St),
  (Bump s56 22 s59) →
  slenK x3 fun m60 =>
  bsel (decide (n54 < ((m60 : Nat) : Int))) (
   slenK x6 fun m61 =>
   bsel (decide (n55 < ((m61 : Nat) : Int))) (
    ixsK 5 x3 n54 fun m62 m63 =>
    ∃ (n64 : Int) (t65 : ByteArray) (t66 : ByteArray) (c67 : Bool) (n68 : Int),
    ((ldN s59 (AV.ptr m62 m63) 5) = (some [(AV.int .i64 n64), (AV.str t65), (AV.str t66), (AV.bool c67), (AV.int .u64 n68)])) ∧
    ixsK 5 x6 n55 fun m69 m70 =>
    ∃ (n71 : Int) (t72 : ByteArray) (t73 : ByteArray) (c74 : Bool) (n75 : Int),
    ((ldN s59 (AV.ptr m69 m70) 5) = (some [(AV.int .i64 n71), (AV.str t72), (AV.str t73), (AV.bool c74), (AV.int .u64 n75)])) ∧
    CallsD P F.spoorref14_Less [(AV.agg [(AV.int .i64 n64), (AV.str t65), (AV.str t66), (AV.bool c67), (AV.int .u64 n68)]), (AV.agg [(AV.int .i64 n71), (AV.str t72), (AV.str t73), (AV.bool c74), (AV.int .u64 n75)])] s59 fun x76 s77 =>
    ∃ (c78 : Bool),
    (x76 = (AV.bool c78)) ∧
    ∃ (m79 : Nat),
    (I58 c78 s77 m79)
   ) (
    ∃ (m80 : Nat),
    (I58 false s59 m80)
   )
  ) (
   ∃ (m81 : Nat),
   (I58 false s59 m81)
  )
 ) ∧
 ∀ (c82 : Bool) (s83 : St) (m84 : Nat),
 (I58 c82 s83 m84) →
 ∃ (I85 : (Bool → (St → (Nat → Prop)))),
 (
  slenK x6 fun m86 =>
  bsel (n55 == ((m86 : Nat) : Int)) (
   ∃ (m87 : Nat),
   (I85 true s83 m87)
  ) (
   ∃ (m88 : Nat),
   (I85 c82 s83 m88)
  )
 ) ∧
 ∀ (c89 : Bool) (s90 : St) (m91 : Nat),
 (I85 c89 s90 m91) →
 bsel c89 (
  ixsK 5 x3 n54 fun m92 m93 =>
  ∃ (n94 : Int) (t95 : ByteArray) (t96 : ByteArray) (c97 : Bool) (n98 : Int),
  ((ldN s90 (AV.ptr m92 m93) 5) = (some [(AV.int .i64 n94), (AV.str t95), (AV.str t96), (AV.bool c97), (AV.int .u64 n98)])) ∧
  ∀ (m99 : Nat) (s100 : St),
  (NewO s90 (cellsO [(AV.int .i64 n94), (AV.str t95), (AV.str t96), (AV.bool c97), (AV.int .u64 n98)]) m99 s100) →
  ∃ (x101 : AV) (s102 : St),
  ((appendX D s100 T.sl_api_Call T.sl_api_Call x9 (AV.slice m99 0 1 (ACap.exact 1))) = (some (x101, s102))) ∧
  ∃ (m103 : Nat),
  (m103 < m14) ∧
  (I7 x101 x10 (IntKind.wrap .i64 (n54 + 1)) n55 s102 m103)
 ) (
  ixsK 5 x6 n55 fun m104 m105 =>
  ∃ (n106 : Int) (t107 : ByteArray) (t108 : ByteArray) (c109 : Bool) (n110 : Int),
  ((ldN s90 (AV.ptr m104 m105) 5) = (some [(AV.int .i64 n106), (AV.str t107), (AV.str t108), (AV.bool c109), (AV.int .u64 n110)])) ∧
  ∀ (m111 : Nat) (s112 : St),
  (NewO s90 (cellsO [(AV.int .i64 n106), (AV.str t107), (AV.str t108), (AV.bool c109), (AV.int .u64 n110)]) m111 s112) →
  ∃ (x113 : AV) (s114 : St),
  ((appendX D s112 T.sl_api_Call T.sl_api_Call x10 (AV.slice m111 0 1 (ACap.exact 1))) = (some (x113, s114))) ∧
  ∃ (m115 : Nat),
  (m115 < m14) ∧
  (I7 x9 x113 n54 (IntKind.wrap .i64 (n55 + 1)) s114 m115)
 )
set_option maxRecDepth 100000 in
theorem vc.spoorref14_Delta_ok {a0 : AV} {a1 : AV} {s : St} {Q : AV → St → Prop} (h : vc.spoorref14_Delta a0 a1 s Q) : CallsA P F.spoorref14_Delta [a0, a1] s Q :=
 fnB_ok (C := C.spoorref14_Delta) hD hX mixes (fi := fnI Tryz.f24) (by kernel_rfl) (by kernel_rfl) (cast (by kernel_rfl : vc.spoorref14_Delta a0 a1 s Q = wpC P C.spoorref14_Delta 1000000 (fnI Tryz.f24).body ⟨PT.setAll .nil 0 [a0, a1], max [a0, a1].length (fnI Tryz.f24).nt, s, []⟩ (endW C.spoorref14_Delta (fnI Tryz.f24).results Q)) h)
end
end Go.Eng.S

namespace Go.Eng.S
open Go Go.Eng Go.Proofs
noncomputable section
def C.spoorlaw14_ownCalls : Cx := { D := D, rt := rt, its := [], lps := [(0, [4, 37, 36, 35, 34, 33, 32, 31, 30, 29, 28, 26, 27, 19, 20, 21, 22, 23, 24, 25, 17, 18, 3, 13, 14, 15, 16], [3]), (2, [37, 36, 35, 34, 33, 32, 31, 30, 29, 28, 26, 27, 4, 19, 20, 21, 22, 23, 24, 25], [4]), (4, [7, 47, 46, 45, 44, 9, 62, 61, 60, 59, 5, 82, 81, 80, 79, 78, 77, 76, 75, 74, 64, 63, 66, 65, 67, 68, 69, 70, 71, 72, 73, 10, 49, 48, 51, 50, 52, 53, 54, 55, 56, 57, 58, 8, 42, 43, 6, 38, 39, 40, 41], [5, 6]), (6, [7, 58, 57, 56, 55, 54, 53, 52, 50, 51, 8, 48, 49], [7, 8]), (8, [9, 73, 72, 71, 70, 69, 68, 67, 65, 66, 10, 63, 64], [9, 10]), (10, [12, 110, 109, 108, 107, 106, 105, 104, 103, 102, 101, 100, 99, 98, 2, 96, 97, 89, 90, 91, 92, 93, 94, 95, 87, 88, 11, 83, 84, 85, 86], [11]), (12, [110, 109, 108, 107, 106, 105, 104, 103, 102, 101, 100, 99, 98, 2, 96, 97, 12, 89, 90, 91, 92, 93, 94, 95], [12])], msk := [(6, [true, false]), (8, [true, false])], app2 := true }
set_option maxRecDepth 100000 in
def vc.spoorlaw14_ownCalls (a0 : AV) (s : St) (Q : (AV → (St → Prop))) : Prop :=
 ∃ (I1 : (Int → (St → (Nat → Prop)))),
 (
  ∃ (m2 : Nat),
  (I1 0 s m2)
 ) ∧
 ∀ (n3 : Int) (s4 : St) (m5 : Nat),
 (I1 n3 s4 m5) →
 slenK a0 fun m6 =>
 bsel (decide (n3 < ((m6 : Nat) : Int))) (
  ∃ (I7 : (Int → (St → (Nat → Prop)))),
  (
   ∃ (m8 : Nat),
   (I7 0 s4 m8)
  ) ∧
  ∀ (n9 : Int) (s10 : St) (m11 : Nat),
  (I7 n9 s10 m11) →
  ixsK 1 a0 n3 fun m12 m13 =>
  ∃ (x14 : AV),
  ((ld1 s10 (AV.ptr m12 m13)) = (some x14)) ∧
  slenK x14 fun m15 =>
  bsel (decide (n9 < ((m15 : Nat) : Int))) (
   ixsK 1 a0 n3 fun m16 m17 =>
   ∃ (x18 : AV),
   ((ld1 s10 (AV.ptr m16 m17)) = (some x18)) ∧
   ixsK 5 x18 n9 fun m19 m20 =>
   ∃ (s21 : St),
   ((wrN s10 (AV.ptr m19 m20) [(AV.int .i64 0), (AV.str ByteArray.empty), (AV.str ByteArray.empty), (AV.bool false), (AV.int .u64 (IntKind.wrap .u64 (IntKind.wrap .i64 (7000 + n3))))]) = (some s21)) ∧
   ∃ (m22 : Nat),
   (m22 < m11) ∧
   (I7 (IntKind.wrap .i64 (n9 + 1)) s21 m22)
  ) (
   ∃ (m23 : Nat),
   (m23 < m5) ∧
   (I1 (IntKind.wrap .i64 (n3 + 1)) s10 m23)
  )
 ) (
  ∃ (I24 : (AV → (Int → (St → (Nat → Prop))))),
  (
   ∃ (m25 : Nat),
   (I24 AV.nilslice 0 s4 m25)
  ) ∧
  ∀ (x26 : AV) (n27 : Int) (s28 : St) (m29 : Nat),
  (I24 x26 n27 s28 m29) →
  slenK a0 fun m30 =>
  bsel (decide (n27 < ((m30 : Nat) : Int))) (
   ixsK 1 a0 n27 fun m31 m32 =>
   ∃ (x33 : AV),
   ((ld1 s28 (AV.ptr m31 m32)) = (some x33)) ∧
   ∃ (I34 : (AV → (Int → (St → (Nat → Prop))))),
   (
    ∃ (m35 : Nat),
    (I34 x33 0 s28 m35)
   ) ∧
   ∀ (x36 : AV) (n37 : Int) (s38 : St) (m39 : Nat),
   (I34 x36 n37 s38 m39) →
   bsel (decide (n37 < 20)) (
    ∀ (m40 : Nat) (s41 : St),
    (NewO s38 (cellsO [(AV.int .i64 0), (AV.str ByteArray.empty), (AV.str ByteArray.empty), (AV.bool false), (AV.int .u64 (IntKind.wrap .u64 (IntKind.wrap .i64 (7000 + n27))))]) m40 s41) →
    appK D s41 T.sl_api_Call T.sl_api_Call x36 (AV.slice m40 0 1 (ACap.exact 1)) fun x42 s43 =>
    ∃ (m44 : Nat),
    (m44 < m39) ∧
    (I34 x42 (IntKind.wrap .i64 (n37 + 1)) s43 m44)
   ) (
    ixsK 1 a0 n27 fun m45 m46 =>
    ∃ (x47 : AV),
    ((ld1 s38 (AV.ptr m45 m46)) = (some x47)) ∧
    ∃ (I48 : (AV → (Int → (St → (Nat → Prop))))),
    (
     ∃ (m49 : Nat),
     (I48 x47 0 s38 m49)
    ) ∧
    ∀ (x50 : AV) (n51 : Int) (s52 : St) (m53 : Nat),
    (I48 x50 n51 s52 m53) →
    bsel (decide (n51 < 80)) (
     ∀ (m54 : Nat) (s55 : St),
     (NewO s52 (cellsO [(AV.int .i64 0), (AV.str ByteArray.empty), (AV.str ByteArray.empty), (AV.bool false), (AV.int .u64 (IntKind.wrap .u64 (IntKind.wrap .i64 (7000 + n27))))]) m54 s55) →
     appK D s55 T.sl_api_Call T.sl_api_Call x50 (AV.slice m54 0 1 (ACap.exact 1)) fun x56 s57 =>
     ∃ (m58 : Nat),
     (m58 < m53) ∧
     (I48 x56 (IntKind.wrap .i64 (n51 + 1)) s57 m58)
    ) (
     ixsK 1 a0 n27 fun m59 m60 =>
     ∃ (x61 : AV),
     ((ld1 s52 (AV.ptr m59 m60)) = (some x61)) ∧
     (oneK x61 (oneK x36 (oneK x50 (∀ m62 : Nat, (∀ s63 : St, ((NewO s52 (cellsO [x61, x36, x50]) m62 s63) → (appK D s63 T.sl_sl_api_Call T.sl_sl_api_Call x26 (AV.slice m62 0 3 (ACap.exact 3)) (fun x64 => (fun s65 => (∃ m66 : Nat, ((m66 < m29) ∧ (I24 x64 (IntKind.wrap .i64 (n27 + 1)) s65 m66))))))))))))
    )
   )
  ) (
   ∃ (I67 : (Int → (St → (Nat → Prop)))),
   (
    ∃ (m68 : Nat),
    (I67 0 s28 m68)
   ) ∧
   ∀ (n69 : Int) (s70 : St) (m71 : Nat),
   (I67 n69 s70 m71) →
   slenK x26 fun m72 =>
   bsel (decide (n69 < ((m72 : Nat) : Int))) (
    ∃ (I73 : (Int → (St → (Nat → Prop)))),
    (
     ∃ (m74 : Nat),
     (I73 0 s70 m74)
    ) ∧
    ∀ (n75 : Int) (s76 : St) (m77 : Nat),
    (I73 n75 s76 m77) →
    ixsK 1 x26 n69 fun m78 m79 =>
    ∃ (x80 : AV),
    ((ld1 s76 (AV.ptr m78 m79)) = (some x80)) ∧
    slenK x80 fun m81 =>
    bsel (decide (n75 < ((m81 : Nat) : Int))) (
     ixsK 1 x26 n69 fun m82 m83 =>
     ∃ (x84 : AV),
     ((ld1 s76 (AV.ptr m82 m83)) = (some x84)) ∧
     ixsK 5 x84 n75 fun m85 m86 =>
     ∃ (n87 : Int) (t88 : ByteArray) (t89 : ByteArray) (c90 : Bool) (n91 : Int),
     ((ldN s76 (AV.ptr m85 m86) 5) = (some [(AV.int .i64 n87), (AV.str t88), (AV.str t89), (AV.bool c90), (AV.int .u64 n91)])) ∧
     ((3 : Int) ≠ 0) ∧
     bsel (if (false = true) then ((n87 == 0) && (((bytesEq (Array.toList (ByteArray.data t88)) (Array.toList (ByteArray.data ByteArray.empty))) && ((bytesEq (Array.toList (ByteArray.data t89)) (Array.toList (ByteArray.data ByteArray.empty))) && true)) && ((c90 == false) && ((n91 == (IntKind.wrap .u64 (IntKind.wrap .i64 (7000 + (IntKind.wrap .i64 (Int.tdiv n69 3)))))) && true)))) else (! ((n87 == 0) && (((bytesEq (Array.toList (ByteArray.data t88)) (Array.toList (ByteArray.data ByteArray.empty))) && ((bytesEq (Array.toList (ByteArray.data t89)) (Array.toList (ByteArray.data ByteArray.empty))) && true)) && ((c90 == false) && ((n91 == (IntKind.wrap .u64 (IntKind.wrap .i64 (7000 + (IntKind.wrap .i64 (Int.tdiv n69 3)))))) && true)))))) (
      (Q (AV.bool false) s76)
     ) (
      ∃ (m92 : Nat),
      (m92 < m77) ∧
      (I73 (IntKind.wrap .i64 (n75 + 1)) s76 m92)
     )
    ) (
     ∃ (m93 : Nat),
     (m93 < m71) ∧
     (I67 (IntKind.wrap .i64 (n69 + 1)) s76 m93)
    )
   ) (
    (Q (AV.bool true) s70)
   )
  )
 )
set_option maxRecDepth 100000 in
theorem vc.spoorlaw14_ownCalls_ok {a0 : AV} {s : St} {Q : AV → St → Prop} (h : vc.spoorlaw14_ownCalls a0 s Q) : CallsA P F.spoorlaw14_ownCalls [a0] s Q :=
 fnB_ok (C := C.spoorlaw14_ownCalls) hD hX mixes (fi := fnI Tryz.f27) (by kernel_rfl) (by kernel_rfl) (cast (by kernel_rfl : vc.spoorlaw14_ownCalls a0 s Q = wpC P C.spoorlaw14_ownCalls 1000000 (fnI Tryz.f27).body ⟨PT.setAll .nil 0 [a0], max [a0].length (fnI Tryz.f27).nt, s, []⟩ (endW C.spoorlaw14_ownCalls (fnI Tryz.f27).results Q)) h)
end
end Go.Eng.S

namespace Go.Eng.S
open Go Go.Eng Go.Proofs
noncomputable section
def C.spoorlaw14_CallsDelta : Cx := { D := D, rt := rt, its := [], lps := [(0, [178, 177, 176, 175, 174, 173, 172, 171, 170, 169, 167, 168, 26, 163, 164, 165, 166], [26])], jns := [(29, [87, 88, 89, 90, 91, 92, 93, 94, 18], [18], [.bool false]), (32, [95, 96, 97, 98, 99, 100, 101, 102, 19], [19], [.bool false]), (35, [103, 104, 105, 106, 107, 108, 109, 110, 20], [20], [.bool false]), (41, [123, 124, 125, 126, 127, 128, 129, 130, 23], [23], [.bool false]), (50, [137, 138, 139, 140, 141, 142, 143, 144, 145, 146, 147, 148, 149, 150, 151, 152, 153, 154, 155, 156, 157, 158, 159, 160, 161, 162], [162], [.bool false]), (489, [4, 137, 138, 139, 140, 141, 142, 143, 144, 145, 146, 147, 148, 149, 150, 151, 152, 153, 154, 155, 156, 157, 158, 159, 160, 161, 162], [], []), (77, [203, 204, 205, 206, 207, 208, 209, 210, 32], [32], [.bool false])] }
set_option maxRecDepth 100000 in
def vc.spoorlaw14_CallsDelta (a0 : AV) (a1 : AV) (s : St) (Q : (AV → (St → Prop))) : Prop :=
 CallsA P F.spoorlaw14_shown [] s fun x1 s2 =>
 ∃ (c3 : Bool),
 (x1 = (AV.bool c3)) ∧
 CallsA P F.spoorlaw14_lentCalls [a0] s2 fun x4 s5 =>
 ∃ (x6 : AV),
 (x4 = x6) ∧
 CallsA P F.spoorlaw14_lentCalls [a1] s5 fun x7 s8 =>
 ∃ (x9 : AV),
 (x7 = x9) ∧
 ∀ (s10 : St),
 (Bump s8 14 s10) →
 slenK a0 fun m11 =>
 optK (sliceV 5 x6 none (some (AV.int .i64 ((m11 : Nat) : Int))) none) fun x12 =>
 slenK a1 fun m13 =>
 optK (sliceV 5 x9 none (some (AV.int .i64 ((m13 : Nat) : Int))) none) fun x14 =>
 CallsD P F.calls_Delta [x12, x14] s10 fun x15 s16 =>
 ∃ (x17 : AV) (x18 : AV),
 (x15 = (AV.tuple [x17, x18])) ∧
 ∀ (s19 : St),
 (Bump s16 14 s19) →
 slenK a0 fun m20 =>
 optK (sliceV 5 x6 none (some (AV.int .i64 ((m20 : Nat) : Int))) none) fun x21 =>
 slenK a1 fun m22 =>
 optK (sliceV 5 x9 none (some (AV.int .i64 ((m22 : Nat) : Int))) none) fun x23 =>
 CallsD P F.calls_Delta [x21, x23] s19 fun x24 s25 =>
 ∃ (x26 : AV) (x27 : AV),
 (x24 = (AV.tuple [x26, x27])) ∧
 ∀ (s28 : St),
 (Bump s25 14 s28) →
 slenK a1 fun m29 =>
 optK (sliceV 5 x9 none (some (AV.int .i64 ((m29 : Nat) : Int))) none) fun x30 =>
 slenK a0 fun m31 =>
 optK (sliceV 5 x6 none (some (AV.int .i64 ((m31 : Nat) : Int))) none) fun x32 =>
 CallsD P F.calls_Delta [x30, x32] s28 fun x33 s34 =>
 ∃ (x35 : AV) (x36 : AV),
 (x33 = (AV.tuple [x35, x36])) ∧
 CallsA P F.spoorref14_Delta [a0, a1] s34 fun x37 s38 =>
 ∃ (x39 : AV) (x40 : AV),
 (x37 = (AV.tuple [x39, x40])) ∧
 CallsA P F.spoorref14_Delta [a1, a0] s38 fun x41 s42 =>
 ∃ (x43 : AV) (x44 : AV),
 (x41 = (AV.tuple [x43, x44])) ∧
 ∃ (I45 : (Bool → (St → (Nat → Prop)))),
 (
  CallsA P F.spoorlaw14_sameCalls [x17, x39] s42 fun x46 s47 =>
  ∃ (c48 : Bool),
  (x46 = (AV.bool c48)) ∧
  bsel c48 (
   CallsA P F.spoorlaw14_sameCalls [x18, x40] s47 fun x49 s50 =>
   ∃ (c51 : Bool),
   (x49 = (AV.bool c51)) ∧
   ∃ (m52 : Nat),
   (I45 c51 s50 m52)
  ) (
   ∃ (m53 : Nat),
   (I45 false s47 m53)
  )
 ) ∧
 ∀ (c54 : Bool) (s55 : St) (m56 : Nat),
 (I45 c54 s55 m56) →
 ∃ (I57 : (Bool → (St → (Nat → Prop)))),
 (
  CallsA P F.spoorlaw14_sameCalls [x26, x39] s55 fun x58 s59 =>
  ∃ (c60 : Bool),
  (x58 = (AV.bool c60)) ∧
  bsel c60 (
   CallsA P F.spoorlaw14_sameCalls [x27, x40] s59 fun x61 s62 =>
   ∃ (c63 : Bool),
   (x61 = (AV.bool c63)) ∧
   ∃ (m64 : Nat),
   (I57 c63 s62 m64)
  ) (
   ∃ (m65 : Nat),
   (I57 false s59 m65)
  )
 ) ∧
 ∀ (c66 : Bool) (s67 : St) (m68 : Nat),
 (I57 c66 s67 m68) →
 ∃ (I69 : (Bool → (St → (Nat → Prop)))),
 (
  CallsA P F.spoorlaw14_sameCalls [x35, x43] s67 fun x70 s71 =>
  ∃ (c72 : Bool),
  (x70 = (AV.bool c72)) ∧
  bsel c72 (
   CallsA P F.spoorlaw14_sameCalls [x36, x44] s71 fun x73 s74 =>
   ∃ (c75 : Bool),
   (x73 = (AV.bool c75)) ∧
   ∃ (m76 : Nat),
   (I69 c75 s74 m76)
  ) (
   ∃ (m77 : Nat),
   (I69 false s71 m77)
  )
 ) ∧
 ∀ (c78 : Bool) (s79 : St) (m80 : Nat),
 (I69 c78 s79 m80) →
 ∀ (s81 : St),
 (Bump s79 14 s81) →
 slenK a0 fun m82 =>
 optK (sliceV 5 x6 none (some (AV.int .i64 ((m82 : Nat) : Int))) none) fun x83 =>
 slenK a1 fun m84 =>
 optK (sliceV 5 x9 none (some (AV.int .i64 ((m84 : Nat) : Int))) none) fun x85 =>
 CallsD P F.calls_Delta [x83, x85] s81 fun x86 s87 =>
 ∃ (x88 : AV) (x89 : AV),
 (x86 = (AV.tuple [x88, x89])) ∧
 ∃ (I90 : (Bool → (St → (Nat → Prop)))),
 (
  CallsA P F.spoorlaw14_sameCalls [x88, x39] s87 fun x91 s92 =>
  ∃ (c93 : Bool),
  (x91 = (AV.bool c93)) ∧
  bsel c93 (
   CallsA P F.spoorlaw14_sameCalls [x89, x40] s92 fun x94 s95 =>
   ∃ (c96 : Bool),
   (x94 = (AV.bool c96)) ∧
   ∃ (m97 : Nat),
   (I90 c96 s95 m97)
  ) (
   ∃ (m98 : Nat),
   (I90 false s92 m98)
  )
 ) ∧
 ∀ (c99 : Bool) (s100 : St) (m101 : Nat),
 (I90 c99 s100 m101) →
 CallsA P F.spoorlaw14_callsStay [x6, a0] s100 fun x102 s103 =>
 ∃ (c104 : Bool),
 (x102 = (AV.bool c104)) ∧
 CallsA P F.spoorlaw14_callsStay [x9, a1] s103 fun x105 s106 =>
 ∃ (c107 : Bool),
 (x105 = (AV.bool c107)) ∧
 ∃ (I108 : (St → (Nat → Prop))),
 (
  ∃ (I109 : (Bool → (St → (Nat → Prop)))),
  (
   bsel (!c3) (
    ∃ (m110 : Nat),
    (I109 true s106 m110)
   ) (
    bsel (!c54) (
     ∃ (m111 : Nat),
     (I109 true s106 m111)
    ) (
     bsel (!c66) (
      ∃ (m112 : Nat),
      (I109 true s106 m112)
     ) (
      bsel (!c78) (
       ∃ (m113 : Nat),
       (I109 true s106 m113)
      ) (
       bsel (!c99) (
        ∃ (m114 : Nat),
        (I109 true s106 m114)
       ) (
        bsel (!c104) (
         ∃ (m115 : Nat),
         (I109 true s106 m115)
        ) (
         ∃ (m116 : Nat),
         (I109 (!c107) s106 m116)
        )
       )
      )
     )
    )
   )
  ) ∧
  ∀ (c117 : Bool) (s118 : St) (m119 : Nat),
  (I109 c117 s118 m119) →
  bsel c117 (
   (Q (AV.bool false) s118)
  ) (
   ∃ (m120 : Nat),
   (I108 s118 m120)
  )
 ) ∧
 ∀ (s121 : St) (m122 : Nat),
 (I108 s121 m122) →
 ∃ (I123 : (Int → (St → (Nat → Prop)))),
 (
  ∃ (m124 : Nat),
  (I123 0 s121 m124)
 ) ∧
 ∀ (n125 : Int) (s126 : St) (m127 : Nat),
 (I123 n125 s126 m127) →
 slenK a0 fun m128 =>
 bsel (decide (n125 < ((m128 : Nat) : Int))) (
  ixsK 5 x6 n125 fun m129 m130 =>
  ∃ (n131 : Int),
  ((ld1 s126 (AV.ptr m129 (m130 + 4))) = (some (AV.int .u64 n131))) ∧
  ixsK 5 x6 n125 fun m132 m133 =>
  ∃ (s134 : St),
  ((wrN s126 (AV.ptr m132 (m133 + 4)) [(AV.int .u64 (IntKind.wrap .u64 (((BitVec.toNat ((BitVec.ofInt 64 n131) ^^^ (BitVec.ofInt 64 1))) : Nat) : Int)))]) = (some s134)) ∧
  ∃ (m135 : Nat),
  (m135 < m127) ∧
  (I123 (IntKind.wrap .i64 (n125 + 1)) s134 m135)
 ) (
  ∀ (m136 : Nat) (s137 : St),
  (NewO s126 (cellsO []) m136 s137) →
  slenK a0 fun m138 =>
  optK (sliceV 5 x6 none (some (AV.int .i64 ((m138 : Nat) : Int))) none) fun x139 =>
  ∃ (x140 : AV) (s141 : St),
  ((appendX D s137 T.sl_api_Call T.sl_api_Call (AV.slice m136 0 0 (ACap.exact 0)) x139) = (some (x140, s141))) ∧
  ∀ (s142 : St),
  (Bump s141 14 s142) →
  slenK a0 fun m143 =>
  optK (sliceV 5 x6 none (some (AV.int .i64 ((m143 : Nat) : Int))) none) fun x144 =>
  slenK a1 fun m145 =>
  optK (sliceV 5 x9 none (some (AV.int .i64 ((m145 : Nat) : Int))) none) fun x146 =>
  CallsD P F.calls_Delta [x144, x146] s142 fun x147 s148 =>
  ∃ (x149 : AV) (x150 : AV),
  (x147 = (AV.tuple [x149, x150])) ∧
  CallsA P F.spoorref14_Delta [x140, a1] s148 fun x151 s152 =>
  ∃ (x153 : AV) (x154 : AV),
  (x151 = (AV.tuple [x153, x154])) ∧
  ∃ (I155 : (Bool → (St → (Nat → Prop)))),
  (
   CallsA P F.spoorlaw14_sameCalls [x149, x153] s152 fun x156 s157 =>
   ∃ (c158 : Bool),
   (x156 = (AV.bool c158)) ∧
   bsel c158 (
    CallsA P F.spoorlaw14_sameCalls [x150, x154] s157 fun x159 s160 =>
    ∃ (c161 : Bool),
    (x159 = (AV.bool c161)) ∧
    ∃ (m162 : Nat),
    (I155 c161 s160 m162)
   ) (
    ∃ (m163 : Nat),
    (I155 false s157 m163)
   )
  ) ∧
  ∀ (c164 : Bool) (s165 : St) (m166 : Nat),
  (I155 c164 s165 m166) →
  (oneK x17 (oneK x18 (oneK x26 (oneK x27 (oneK x35 (oneK x36 (oneK x88 (oneK x89 (oneK x149 (oneK x150 (∀ m167 : Nat, (∀ s168 : St, ((NewO s165 (cellsO [x17, x18, x26, x27, x35, x36, x88, x89, x149, x150]) m167 s168) → (CallsA P F.spoorlaw14_ownCalls [(AV.slice m167 0 10 (ACap.exact 10))] s168 (fun x169 => (fun s170 => (∃ c171 : Bool, ((x169 = (AV.bool c171)) ∧ (bsel c164 (Q (AV.bool c171) s170) (Q (AV.bool false) s170))))))))))))))))))))
 )
set_option maxRecDepth 100000 in
theorem vc.spoorlaw14_CallsDelta_ok {a0 : AV} {a1 : AV} {s : St} {Q : AV → St → Prop} (h : vc.spoorlaw14_CallsDelta a0 a1 s Q) : CallsA P F.spoorlaw14_CallsDelta [a0, a1] s Q :=
 fnB_ok (C := C.spoorlaw14_CallsDelta) hD hX mixes (fi := fnI Tryz.f5) (by kernel_rfl) (by kernel_rfl) (cast (by kernel_rfl : vc.spoorlaw14_CallsDelta a0 a1 s Q = wpC P C.spoorlaw14_CallsDelta 1000000 (fnI Tryz.f5).body ⟨PT.setAll .nil 0 [a0, a1], max [a0, a1].length (fnI Tryz.f5).nt, s, []⟩ (endW C.spoorlaw14_CallsDelta (fnI Tryz.f5).results Q)) h)
end
end Go.Eng.S

