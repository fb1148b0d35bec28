/-
  What is to be shown of functions of the program, and that it suffices.
-/
import Derived.Test.YteidlkjofcbcmaaSDefs
namespace Go.Eng.S
open Go Go.Eng Go.Proofs
noncomputable section
/-! ### spoor/spoorref15.EdgeLess -/
def C.spoorref15_EdgeLess : Cx := { D := D, rt := rt, its := [], lps := [], det := true }
set_option maxRecDepth 100000 in
def vc.spoorref15_EdgeLess (a0_0 : ByteArray) (a0_1 : ByteArray) (a1_0 : ByteArray) (a1_1 : ByteArray) (s : St) (Q : (AV → (St → Prop))) : Prop :=
  ∀ (m1 : Nat) (s2 : St),
  (NewO s (cellsO [(AV.str a0_0), (AV.str a0_1)]) m1 s2) →
  ∀ (m3 : Nat) (s4 : St),
  (NewO s2 (cellsO [(AV.str a1_0), (AV.str a1_1)]) m3 s4) →
  ∃ (t5 : ByteArray),
  ((ld1 s4 (AV.ptr m1 0)) = (some (AV.str t5))) ∧
  ∃ (t6 : ByteArray),
  ((ld1 s4 (AV.ptr m3 0)) = (some (AV.str t6))) ∧
  bsel (! (bytesEq (Array.toList (ByteArray.data t5)) (Array.toList (ByteArray.data t6)))) (
    ∃ (t7 : ByteArray),
    ((ld1 s4 (AV.ptr m1 0)) = (some (AV.str t7))) ∧
    ∃ (t8 : ByteArray),
    ((ld1 s4 (AV.ptr m3 0)) = (some (AV.str t8))) ∧
    (Q (AV.bool (bytesLt (Array.toList (ByteArray.data t7)) (Array.toList (ByteArray.data t8)))) s4)
  ) (
    ∃ (t9 : ByteArray),
    ((ld1 s4 (AV.ptr m1 1)) = (some (AV.str t9))) ∧
    ∃ (t10 : ByteArray),
    ((ld1 s4 (AV.ptr m3 1)) = (some (AV.str t10))) ∧
    (Q (AV.bool (bytesLt (Array.toList (ByteArray.data t9)) (Array.toList (ByteArray.data t10)))) s4)
  )
set_option maxRecDepth 100000 in
theorem vc.spoorref15_EdgeLess_ok {a0_0 : ByteArray} {a0_1 : ByteArray} {a1_0 : ByteArray} {a1_1 : ByteArray} {s : St} {Q : AV → St → Prop} (h : vc.spoorref15_EdgeLess a0_0 a0_1 a1_0 a1_1 s Q) : CallsD P F.spoorref15_EdgeLess [.agg [.str a0_0, .str a0_1], .agg [.str a1_0, .str a1_1]] s Q :=
  fnD_ok (C := C.spoorref15_EdgeLess) hD hX rfl mixes (fi := fnI Try.f42) (by kernel_rfl) (by kernel_rfl) (cast (by kernel_rfl : vc.spoorref15_EdgeLess a0_0 a0_1 a1_0 a1_1 s Q = wpC P C.spoorref15_EdgeLess 1000000 (fnI Try.f42).body ⟨PT.setAll .nil 0 [.agg [.str a0_0, .str a0_1], .agg [.str a1_0, .str a1_1]], max [.agg [.str a0_0, .str a0_1], .agg [.str a1_0, .str a1_1]].length (fnI Try.f42).nt, s, []⟩ (endW C.spoorref15_EdgeLess (fnI Try.f42).results Q)) h)
/-! ### spoor/spoorref15.Copy -/
def C.spoorref15_Copy : Cx := { D := D, rt := rt, its := [], lps := [], det := true }
set_option maxRecDepth 100000 in
def vc.spoorref15_Copy (a0_0 : Int) (a0_1 : Int) (a0_2 : Int) (a0_3 : Int) (a0_4 : Int) (a0_5 : Int) (a0_6 : AV) (s : St) (Q : (AV → (St → Prop))) : Prop :=
  ∀ (m1 : Nat) (s2 : St),
  (NewO s (cellsO [(AV.int .u64 a0_0), (AV.int .u64 a0_1), (AV.int .u64 a0_2), (AV.int .u64 a0_3), (AV.int .u64 a0_4), (AV.int .u64 a0_5), a0_6]) m1 s2) →
  ∀ (m3 : Nat) (s4 : St),
  (NewO s2 (cellsO [(AV.int .u64 0), (AV.int .u64 0), (AV.int .u64 0), (AV.int .u64 0), (AV.int .u64 0), (AV.int .u64 0), AV.nilslice]) m3 s4) →
  ∃ (x5 : AV),
  ((ld1 s4 (AV.ptr m1 6)) = (some x5)) ∧
  ∃ (x6 : AV) (s7 : St),
  ((appendX D s4 T.sl_api_Bar T.sl_api_Bar AV.nilslice x5) = (some (x6, s7))) ∧
  (oneK x6 (∃ s8 : St, (((wrN s7 (AV.ptr m1 6) [x6]) = (some s8)) ∧ (∃ n9 : Int, (∃ n10 : Int, (∃ n11 : Int, (∃ n12 : Int, (∃ n13 : Int, (∃ n14 : Int, (∃ x15 : AV, (((ldN s8 (AV.ptr m1 0) 7) = (some [(AV.int .u64 n9), (AV.int .u64 n10), (AV.int .u64 n11), (AV.int .u64 n12), (AV.int .u64 n13), (AV.int .u64 n14), x15])) ∧ (∃ s16 : St, (((wrN s8 (AV.ptr m3 0) [(AV.int .u64 n9), (AV.int .u64 n10), (AV.int .u64 n11), (AV.int .u64 n12), (AV.int .u64 n13), (AV.int .u64 n14), x15]) = (some s16)) ∧ (∃ n17 : Int, (∃ n18 : Int, (∃ n19 : Int, (∃ n20 : Int, (∃ n21 : Int, (∃ n22 : Int, (∃ x23 : AV, (((ldN s16 (AV.ptr m3 0) 7) = (some [(AV.int .u64 n17), (AV.int .u64 n18), (AV.int .u64 n19), (AV.int .u64 n20), (AV.int .u64 n21), (AV.int .u64 n22), x23])) ∧ (Q (AV.agg [(AV.int .u64 n17), (AV.int .u64 n18), (AV.int .u64 n19), (AV.int .u64 n20), (AV.int .u64 n21), (AV.int .u64 n22), x23]) s16))))))))))))))))))))))
set_option maxRecDepth 100000 in
theorem vc.spoorref15_Copy_ok {a0_0 : Int} {a0_1 : Int} {a0_2 : Int} {a0_3 : Int} {a0_4 : Int} {a0_5 : Int} {a0_6 : AV} {s : St} {Q : AV → St → Prop} (h : vc.spoorref15_Copy a0_0 a0_1 a0_2 a0_3 a0_4 a0_5 a0_6 s Q) : CallsD P F.spoorref15_Copy [.agg [.int .u64 a0_0, .int .u64 a0_1, .int .u64 a0_2, .int .u64 a0_3, .int .u64 a0_4, .int .u64 a0_5, a0_6]] s Q :=
  fnD_ok (C := C.spoorref15_Copy) hD hX rfl mixes (fi := fnI Try.f48) (by kernel_rfl) (by kernel_rfl) (cast (by kernel_rfl : vc.spoorref15_Copy a0_0 a0_1 a0_2 a0_3 a0_4 a0_5 a0_6 s Q = wpC P C.spoorref15_Copy 1000000 (fnI Try.f48).body ⟨PT.setAll .nil 0 [.agg [.int .u64 a0_0, .int .u64 a0_1, .int .u64 a0_2, .int .u64 a0_3, .int .u64 a0_4, .int .u64 a0_5, a0_6]], max [.agg [.int .u64 a0_0, .int .u64 a0_1, .int .u64 a0_2, .int .u64 a0_3, .int .u64 a0_4, .int .u64 a0_5, a0_6]].length (fnI Try.f48).nt, s, []⟩ (endW C.spoorref15_Copy (fnI Try.f48).results Q)) h)
/-! ### spoor/spoorref15.with -/
def C.spoorref15_with : Cx := { D := D, rt := rt, its := [], lps := [(0, [9, 19, 18, 17, 16, 7, 28, 27, 29, 8, 20, 21, 22, 23, 24, 25, 26, 13, 14, 15], [7, 8])], det := true }
set_option maxRecDepth 100000 in
def vc.spoorref15_with (a0 : AV) (a1_0 : ByteArray) (a1_1 : ByteArray) (a2_0 : Int) (a2_1 : Int) (a2_2 : Int) (a2_3 : Int) (a2_4 : Int) (a2_5 : Int) (a2_6 : AV) (s : St) (Q : (AV → (St → Prop))) : Prop :=
  ∀ (m1 : Nat) (s2 : St),
  (NewO s (cellsO [(AV.str a1_0), (AV.str a1_1)]) m1 s2) →
  ∀ (m3 : Nat) (s4 : St),
  (NewO s2 (cellsO [(AV.int .u64 a2_0), (AV.int .u64 a2_1), (AV.int .u64 a2_2), (AV.int .u64 a2_3), (AV.int .u64 a2_4), (AV.int .u64 a2_5), a2_6]) m3 s4) →
  slenK a0 fun m5 =>
  ∃ (I6 : (Int → (Int → (St → (Nat → Prop))))),
  (
    ∃ (m7 : Nat),
    (I6 0 ((m5 : Nat) : Int) s4 m7)
  ) ∧
  ∀ (n8 : Int) (n9 : Int) (s10 : St) (m11 : Nat),
  (I6 n8 n9 s10 m11) →
  bsel (decide (n8 < n9)) (
    ((2 : Int) ≠ 0) ∧
    ∀ (s12 : St),
    (Bump s10 7 s12) →
    ixsK 9 a0 (IntKind.wrap .i64 (Int.tdiv (IntKind.wrap .i64 (n8 + n9)) 2)) fun m13 m14 =>
    ∃ (t15 : ByteArray) (t16 : ByteArray),
    ((ldN s12 (AV.ptr m13 m14) 2) = (some [(AV.str t15), (AV.str t16)])) ∧
    ∃ (t17 : ByteArray) (t18 : ByteArray),
    ((ldN s12 (AV.ptr m1 0) 2) = (some [(AV.str t17), (AV.str t18)])) ∧
    CallsD P F.spoorref15_EdgeLess [(AV.agg [(AV.str t15), (AV.str t16)]), (AV.agg [(AV.str t17), (AV.str t18)])] s12 fun x19 s20 =>
    ∃ (c21 : Bool),
    (x19 = (AV.bool c21)) ∧
    bsel c21 (
      ∃ (m22 : Nat),
      (m22 < m11) ∧
      (I6 (IntKind.wrap .i64 ((IntKind.wrap .i64 (Int.tdiv (IntKind.wrap .i64 (n8 + n9)) 2)) + 1)) n9 s20 m22)
    ) (
      ∃ (m23 : Nat),
      (m23 < m11) ∧
      (I6 n8 (IntKind.wrap .i64 (Int.tdiv (IntKind.wrap .i64 (n8 + n9)) 2)) s20 m23)
    )
  ) (
    ∀ (s24 : St),
    (Bump s10 13 s24) →
    slenK a0 fun m25 =>
    bsel (decide (n8 < ((m25 : Nat) : Int))) (
      ixsK 9 a0 n8 fun m26 m27 =>
      ∃ (t28 : ByteArray) (t29 : ByteArray),
      ((ldN s24 (AV.ptr m26 m27) 2) = (some [(AV.str t28), (AV.str t29)])) ∧
      ∃ (t30 : ByteArray) (t31 : ByteArray),
      ((ldN s24 (AV.ptr m1 0) 2) = (some [(AV.str t30), (AV.str t31)])) ∧
      bsel (if (true = true) then ((bytesEq (Array.toList (ByteArray.data t28)) (Array.toList (ByteArray.data t30))) && ((bytesEq (Array.toList (ByteArray.data t29)) (Array.toList (ByteArray.data t31))) && true)) else (! ((bytesEq (Array.toList (ByteArray.data t28)) (Array.toList (ByteArray.data t30))) && ((bytesEq (Array.toList (ByteArray.data t29)) (Array.toList (ByteArray.data t31))) && true)))) (
        ∀ (s32 : St),
        (Bump s24 15 s32) →
        ixsK 9 a0 n8 fun m33 m34 =>
        ∃ (n35 : Int) (n36 : Int) (n37 : Int) (n38 : Int) (n39 : Int) (n40 : Int) (x41 : AV),
        ((ldN s32 (AV.ptr m33 (m34 + 2)) 7) = (some [(AV.int .u64 n35), (AV.int .u64 n36), (AV.int .u64 n37), (AV.int .u64 n38), (AV.int .u64 n39), (AV.int .u64 n40), x41])) ∧
        ∃ (n42 : Int) (n43 : Int) (n44 : Int) (n45 : Int) (n46 : Int) (n47 : Int) (x48 : AV),
        ((ldN s32 (AV.ptr m3 0) 7) = (some [(AV.int .u64 n42), (AV.int .u64 n43), (AV.int .u64 n44), (AV.int .u64 n45), (AV.int .u64 n46), (AV.int .u64 n47), x48])) ∧
        CallsD P F.spoorref14_Plus [(AV.agg [(AV.int .u64 n35), (AV.int .u64 n36), (AV.int .u64 n37), (AV.int .u64 n38), (AV.int .u64 n39), (AV.int .u64 n40), x41]), (AV.agg [(AV.int .u64 n42), (AV.int .u64 n43), (AV.int .u64 n44), (AV.int .u64 n45), (AV.int .u64 n46), (AV.int .u64 n47), x48])] s32 fun x49 s50 =>
        ∃ (n51 : Int) (n52 : Int) (n53 : Int) (n54 : Int) (n55 : Int) (n56 : Int) (x57 : AV) (n58 : Int),
        (x49 = (AV.tuple [(AV.agg [(AV.int .u64 n51), (AV.int .u64 n52), (AV.int .u64 n53), (AV.int .u64 n54), (AV.int .u64 n55), (AV.int .u64 n56), x57]), (AV.int .i64 n58)])) ∧
        ixsK 9 a0 n8 fun m59 m60 =>
        ∃ (s61 : St),
        ((wrN s50 (AV.ptr m59 (m60 + 2)) [(AV.int .u64 n51), (AV.int .u64 n52), (AV.int .u64 n53), (AV.int .u64 n54), (AV.int .u64 n55), (AV.int .u64 n56), x57]) = (some s61)) ∧
        (Q a0 s61)
      ) (
        optK (sliceV 9 a0 none (some (AV.int .i64 n8)) none) fun x62 =>
        ∃ (x63 : AV) (s64 : St),
        ((appendX D s24 T.sl_api_EdgeTally T.sl_api_EdgeTally AV.nilslice x62) = (some (x63, s64))) ∧
        ∀ (s65 : St),
        (Bump s64 8 s65) →
        ∃ (t66 : ByteArray) (t67 : ByteArray),
        ((ldN s65 (AV.ptr m1 0) 2) = (some [(AV.str t66), (AV.str t67)])) ∧
        ∃ (n68 : Int) (n69 : Int) (n70 : Int) (n71 : Int) (n72 : Int) (n73 : Int) (x74 : AV),
        ((ldN s65 (AV.ptr m3 0) 7) = (some [(AV.int .u64 n68), (AV.int .u64 n69), (AV.int .u64 n70), (AV.int .u64 n71), (AV.int .u64 n72), (AV.int .u64 n73), x74])) ∧
        CallsD P F.spoorref15_Copy [(AV.agg [(AV.int .u64 n68), (AV.int .u64 n69), (AV.int .u64 n70), (AV.int .u64 n71), (AV.int .u64 n72), (AV.int .u64 n73), x74])] s65 fun x75 s76 =>
        ∃ (n77 : Int) (n78 : Int) (n79 : Int) (n80 : Int) (n81 : Int) (n82 : Int) (x83 : AV),
        (x75 = (AV.agg [(AV.int .u64 n77), (AV.int .u64 n78), (AV.int .u64 n79), (AV.int .u64 n80), (AV.int .u64 n81), (AV.int .u64 n82), x83])) ∧
        ((ldN s76 (AV.ptr m1 0) 2) = (some [(AV.str t66), (AV.str t67)])) ∧
        ∃ (x84 : AV) (s85 : St),
        (
          ((appendX D (hsetS s76 ((St.nx s64) + 5) (cellsO [(AV.str t66), (AV.str t67), (AV.int .u64 n77), (AV.int .u64 n78), (AV.int .u64 n79), (AV.int .u64 n80), (AV.int .u64 n81), (AV.int .u64 n82), x83])) T.sl_api_EdgeTally T.sl_api_EdgeTally x63 (AV.slice ((St.nx s64) + 5) 0 1 (ACap.exact 1))) = (some (x84, s85)))
        ) ∧
        optK (sliceV 9 a0 (some (AV.int .i64 n8)) none none) fun x86 =>
        ∃ (x87 : AV) (s88 : St),
        ((appendX D s85 T.sl_api_EdgeTally T.sl_api_EdgeTally x84 x86) = (some (x87, s88))) ∧
        (Q x87 s88)
      )
    ) (
      optK (sliceV 9 a0 none (some (AV.int .i64 n8)) none) fun x89 =>
      ∃ (x90 : AV) (s91 : St),
      ((appendX D s24 T.sl_api_EdgeTally T.sl_api_EdgeTally AV.nilslice x89) = (some (x90, s91))) ∧
      ∀ (s92 : St),
      (Bump s91 8 s92) →
      ∃ (t93 : ByteArray) (t94 : ByteArray),
      ((ldN s92 (AV.ptr m1 0) 2) = (some [(AV.str t93), (AV.str t94)])) ∧
      ∃ (n95 : Int) (n96 : Int) (n97 : Int) (n98 : Int) (n99 : Int) (n100 : Int) (x101 : AV),
      ((ldN s92 (AV.ptr m3 0) 7) = (some [(AV.int .u64 n95), (AV.int .u64 n96), (AV.int .u64 n97), (AV.int .u64 n98), (AV.int .u64 n99), (AV.int .u64 n100), x101])) ∧
      CallsD P F.spoorref15_Copy [(AV.agg [(AV.int .u64 n95), (AV.int .u64 n96), (AV.int .u64 n97), (AV.int .u64 n98), (AV.int .u64 n99), (AV.int .u64 n100), x101])] s92 fun x102 s103 =>
      ∃ (n104 : Int) (n105 : Int) (n106 : Int) (n107 : Int) (n108 : Int) (n109 : Int) (x110 : AV),
      (x102 = (AV.agg [(AV.int .u64 n104), (AV.int .u64 n105), (AV.int .u64 n106), (AV.int .u64 n107), (AV.int .u64 n108), (AV.int .u64 n109), x110])) ∧
      ((ldN s103 (AV.ptr m1 0) 2) = (some [(AV.str t93), (AV.str t94)])) ∧
      ∃ (x111 : AV) (s112 : St),
      (
        ((appendX D (hsetS s103 ((St.nx s91) + 5) (cellsO [(AV.str t93), (AV.str t94), (AV.int .u64 n104), (AV.int .u64 n105), (AV.int .u64 n106), (AV.int .u64 n107), (AV.int .u64 n108), (AV.int .u64 n109), x110])) T.sl_api_EdgeTally T.sl_api_EdgeTally x90 (AV.slice ((St.nx s91) + 5) 0 1 (ACap.exact 1))) = (some (x111, s112)))
      ) ∧
      optK (sliceV 9 a0 (some (AV.int .i64 n8)) none none) fun x113 =>
      ∃ (x114 : AV) (s115 : St),
      ((appendX D s112 T.sl_api_EdgeTally T.sl_api_EdgeTally x111 x113) = (some (x114, s115))) ∧
      (Q x114 s115)
    )
  )
set_option maxRecDepth 100000 in
theorem vc.spoorref15_with_ok {a0 : AV} {a1_0 : ByteArray} {a1_1 : ByteArray} {a2_0 : Int} {a2_1 : Int} {a2_2 : Int} {a2_3 : Int} {a2_4 : Int} {a2_5 : Int} {a2_6 : AV} {s : St} {Q : AV → St → Prop} (h : vc.spoorref15_with a0 a1_0 a1_1 a2_0 a2_1 a2_2 a2_3 a2_4 a2_5 a2_6 s Q) : CallsD P F.spoorref15_with [a0, .agg [.str a1_0, .str a1_1], .agg [.int .u64 a2_0, .int .u64 a2_1, .int .u64 a2_2, .int .u64 a2_3, .int .u64 a2_4, .int .u64 a2_5, a2_6]] s Q :=
  fnD_ok (C := C.spoorref15_with) hD hX rfl mixes (fi := fnI Try.f32) (by kernel_rfl) (by kernel_rfl) (cast (by kernel_rfl : vc.spoorref15_with a0 a1_0 a1_1 a2_0 a2_1 a2_2 a2_3 a2_4 a2_5 a2_6 s Q = wpC P C.spoorref15_with 1000000 (fnI Try.f32).body ⟨PT.setAll .nil 0 [a0, .agg [.str a1_0, .str a1_1], .agg [.int .u64 a2_0, .int .u64 a2_1, .int .u64 a2_2, .int .u64 a2_3, .int .u64 a2_4, .int .u64 a2_5, a2_6]], max [a0, .agg [.str a1_0, .str a1_1], .agg [.int .u64 a2_0, .int .u64 a2_1, .int .u64 a2_2, .int .u64 a2_3, .int .u64 a2_4, .int .u64 a2_5, a2_6]].length (fnI Try.f32).nt, s, []⟩ (endW C.spoorref15_with (fnI Try.f32).results Q)) h)
/-! ### spoor/spoorref15.Sum -/
def C.spoorref15_Sum : Cx := { D := D, rt := rt, its := [], lps := [(0, [5, 3, 38, 37, 36, 35, 34, 33, 32, 31, 30, 29, 28, 27, 26, 25, 24, 23, 22, 21, 19, 20, 12, 13, 14, 15, 16, 17, 18, 10, 11, 4, 6, 7, 8, 9], [3, 4]), (2, [3, 38, 37, 36, 35, 34, 33, 32, 31, 30, 29, 28, 27, 26, 25, 24, 23, 22, 21, 19, 20, 5, 12, 13, 14, 15, 16, 17, 18], [3, 5])], msk := [(2, [true, false])], det := true }
set_option maxRecDepth 100000 in
def vc.spoorref15_Sum (a0 : AV) (s : St) (Q : (AV → (St → Prop))) : Prop :=
  ∃ (I1 : (AV → (Int → (St → (Nat → Prop))))),
  (
    ∃ (m2 : Nat),
    (I1 AV.nilslice 0 s m2)
  ) ∧
  ∀ (x3 : AV) (n4 : Int) (s5 : St) (m6 : Nat),
  (I1 x3 n4 s5 m6) →
  slenK a0 fun m7 =>
  bsel (decide (n4 < ((m7 : Nat) : Int))) (
    ∃ (I8 : (AV → (Int → (St → (Nat → Prop))))),
    (
      ∃ (m9 : Nat),
      (I8 x3 0 s5 m9)
    ) ∧
    ∀ (x10 : AV) (n11 : Int) (s12 : St) (m13 : Nat),
    (I8 x10 n11 s12 m13) →
    ixsK 1 a0 n4 fun m14 m15 =>
    ∃ (x16 : AV),
    ((ld1 s12 (AV.ptr m14 m15)) = (some x16)) ∧
    slenK x16 fun m17 =>
    bsel (decide (n11 < ((m17 : Nat) : Int))) (
      ∀ (s18 : St),
      (Bump s12 19 s18) →
      ixsK 1 a0 n4 fun m19 m20 =>
      ∃ (x21 : AV),
      ((ld1 s18 (AV.ptr m19 m20)) = (some x21)) ∧
      ixsK 9 x21 n11 fun m22 m23 =>
      ∃ (t24 : ByteArray) (t25 : ByteArray),
      ((ldN s18 (AV.ptr m22 m23) 2) = (some [(AV.str t24), (AV.str t25)])) ∧
      ixsK 1 a0 n4 fun m26 m27 =>
      ∃ (x28 : AV),
      ((ld1 s18 (AV.ptr m26 m27)) = (some x28)) ∧
      ixsK 9 x28 n11 fun m29 m30 =>
      ∃ (n31 : Int) (n32 : Int) (n33 : Int) (n34 : Int) (n35 : Int) (n36 : Int) (x37 : AV),
      ((ldN s18 (AV.ptr m29 (m30 + 2)) 7) = (some [(AV.int .u64 n31), (AV.int .u64 n32), (AV.int .u64 n33), (AV.int .u64 n34), (AV.int .u64 n35), (AV.int .u64 n36), x37])) ∧
      CallsD P F.spoorref15_with [x10, (AV.agg [(AV.str t24), (AV.str t25)]), (AV.agg [(AV.int .u64 n31), (AV.int .u64 n32), (AV.int .u64 n33), (AV.int .u64 n34), (AV.int .u64 n35), (AV.int .u64 n36), x37])] s18 fun x38 s39 =>
      ∃ (x40 : AV),
      (x38 = x40) ∧
      ∃ (m41 : Nat),
      (m41 < m13) ∧
      (I8 x40 (IntKind.wrap .i64 (n11 + 1)) s39 m41)
    ) (
      ∃ (m42 : Nat),
      (m42 < m6) ∧
      (I1 x10 (IntKind.wrap .i64 (n4 + 1)) s12 m42)
    )
  ) (
    (Q x3 s5)
  )
set_option maxRecDepth 100000 in
theorem vc.spoorref15_Sum_ok {a0 : AV} {s : St} {Q : AV → St → Prop} (h : vc.spoorref15_Sum a0 s Q) : CallsD P F.spoorref15_Sum [a0] s Q :=
  fnD_ok (C := C.spoorref15_Sum) hD hX rfl mixes (fi := fnI Try.f15) (by kernel_rfl) (by kernel_rfl) (cast (by kernel_rfl : vc.spoorref15_Sum a0 s Q = wpC P C.spoorref15_Sum 1000000 (fnI Try.f15).body ⟨PT.setAll .nil 0 [a0], max [a0].length (fnI Try.f15).nt, s, []⟩ (endW C.spoorref15_Sum (fnI Try.f15).results Q)) h)
/-! ### spoor/spoorref15.SameTally -/
def C.spoorref15_SameTally : Cx := { D := D, rt := rt, its := [], lps := [(0, [51, 50, 49, 48, 47, 46, 45, 44, 43, 42, 41, 4, 39, 40, 5, 34, 35, 36, 37, 38], [5])], det := true }
set_option maxRecDepth 100000 in
def vc.spoorref15_SameTally (a0_0 : Int) (a0_1 : Int) (a0_2 : Int) (a0_3 : Int) (a0_4 : Int) (a0_5 : Int) (a0_6 : AV) (a1_0 : Int) (a1_1 : Int) (a1_2 : Int) (a1_3 : Int) (a1_4 : Int) (a1_5 : Int) (a1_6 : AV) (s : St) (Q : (AV → (St → Prop))) : Prop :=
  ∀ (m1 : Nat) (s2 : St),
  (NewO s (cellsO [(AV.int .u64 a0_0), (AV.int .u64 a0_1), (AV.int .u64 a0_2), (AV.int .u64 a0_3), (AV.int .u64 a0_4), (AV.int .u64 a0_5), a0_6]) m1 s2) →
  ∀ (m3 : Nat) (s4 : St),
  (NewO s2 (cellsO [(AV.int .u64 a1_0), (AV.int .u64 a1_1), (AV.int .u64 a1_2), (AV.int .u64 a1_3), (AV.int .u64 a1_4), (AV.int .u64 a1_5), a1_6]) m3 s4) →
  ∃ (n5 : Int) (n6 : Int),
  ((ldN s4 (AV.ptr m1 0) 2) = (some [(AV.int .u64 n5), (AV.int .u64 n6)])) ∧
  ∃ (n7 : Int) (n8 : Int),
  ((ldN s4 (AV.ptr m3 0) 2) = (some [(AV.int .u64 n7), (AV.int .u64 n8)])) ∧
  bsel (if (false = true) then ((n5 == n7) && ((n6 == n8) && true)) else (! ((n5 == n7) && ((n6 == n8) && true)))) (
    (Q (AV.bool false) s4)
  ) (
    ∃ (n9 : Int) (n10 : Int),
    ((ldN s4 (AV.ptr m1 2) 2) = (some [(AV.int .u64 n9), (AV.int .u64 n10)])) ∧
    ∃ (n11 : Int) (n12 : Int),
    ((ldN s4 (AV.ptr m3 2) 2) = (some [(AV.int .u64 n11), (AV.int .u64 n12)])) ∧
    bsel (if (false = true) then ((n9 == n11) && ((n10 == n12) && true)) else (! ((n9 == n11) && ((n10 == n12) && true)))) (
      (Q (AV.bool false) s4)
    ) (
      ∃ (n13 : Int) (n14 : Int),
      ((ldN s4 (AV.ptr m1 4) 2) = (some [(AV.int .u64 n13), (AV.int .u64 n14)])) ∧
      ∃ (n15 : Int) (n16 : Int),
      ((ldN s4 (AV.ptr m3 4) 2) = (some [(AV.int .u64 n15), (AV.int .u64 n16)])) ∧
      bsel (if (false = true) then ((n13 == n15) && ((n14 == n16) && true)) else (! ((n13 == n15) && ((n14 == n16) && true)))) (
        (Q (AV.bool false) s4)
      ) (
        ∃ (x17 : AV),
        ((ld1 s4 (AV.ptr m1 6)) = (some x17)) ∧
        slenK x17 fun m18 =>
        ∃ (x19 : AV),
        ((ld1 s4 (AV.ptr m3 6)) = (some x19)) ∧
        slenK x19 fun m20 =>
        bsel (((m18 : Nat) : Int) != ((m20 : Nat) : Int)) (
          (Q (AV.bool false) s4)
        ) (
          ∃ (I21 : (Int → (St → (Nat → Prop)))),
          (
            ∃ (m22 : Nat),
            (I21 0 s4 m22)
          ) ∧
          ∀ (n23 : Int) (s24 : St) (m25 : Nat),
          (I21 n23 s24 m25) →
          ∃ (x26 : AV),
          ((ld1 s24 (AV.ptr m1 6)) = (some x26)) ∧
          slenK x26 fun m27 =>
          bsel (decide (n23 < ((m27 : Nat) : Int))) (
            ∀ (s28 : St),
            (Bump s24 11 s28) →
            ∃ (x29 : AV),
            ((ld1 s28 (AV.ptr m1 6)) = (some x29)) ∧
            ixsK 2 x29 n23 fun m30 m31 =>
            ∃ (n32 : Int) (n33 : Int),
            ((ldN s28 (AV.ptr m30 m31) 2) = (some [(AV.int .i64 n32), (AV.int .u64 n33)])) ∧
            ∃ (x34 : AV),
            ((ld1 s28 (AV.ptr m3 6)) = (some x34)) ∧
            ixsK 2 x34 n23 fun m35 m36 =>
            ∃ (n37 : Int) (n38 : Int),
            ((ldN s28 (AV.ptr m35 m36) 2) = (some [(AV.int .i64 n37), (AV.int .u64 n38)])) ∧
            bsel (if (false = true) then ((n32 == n37) && ((n33 == n38) && true)) else (! ((n32 == n37) && ((n33 == n38) && true)))) (
              (Q (AV.bool false) s28)
            ) (
              ∃ (m39 : Nat),
              (m39 < m25) ∧
              (I21 (IntKind.wrap .i64 (n23 + 1)) s28 m39)
            )
          ) (
            (Q (AV.bool true) s24)
          )
        )
      )
    )
  )
set_option maxRecDepth 100000 in
theorem vc.spoorref15_SameTally_ok {a0_0 : Int} {a0_1 : Int} {a0_2 : Int} {a0_3 : Int} {a0_4 : Int} {a0_5 : Int} {a0_6 : AV} {a1_0 : Int} {a1_1 : Int} {a1_2 : Int} {a1_3 : Int} {a1_4 : Int} {a1_5 : Int} {a1_6 : AV} {s : St} {Q : AV → St → Prop} (h : vc.spoorref15_SameTally a0_0 a0_1 a0_2 a0_3 a0_4 a0_5 a0_6 a1_0 a1_1 a1_2 a1_3 a1_4 a1_5 a1_6 s Q) : CallsD P F.spoorref15_SameTally [.agg [.int .u64 a0_0, .int .u64 a0_1, .int .u64 a0_2, .int .u64 a0_3, .int .u64 a0_4, .int .u64 a0_5, a0_6], .agg [.int .u64 a1_0, .int .u64 a1_1, .int .u64 a1_2, .int .u64 a1_3, .int .u64 a1_4, .int .u64 a1_5, a1_6]] s Q :=
  fnD_ok (C := C.spoorref15_SameTally) hD hX rfl mixes (fi := fnI Try.f23) (by kernel_rfl) (by kernel_rfl) (cast (by kernel_rfl : vc.spoorref15_SameTally a0_0 a0_1 a0_2 a0_3 a0_4 a0_5 a0_6 a1_0 a1_1 a1_2 a1_3 a1_4 a1_5 a1_6 s Q = wpC P C.spoorref15_SameTally 1000000 (fnI Try.f23).body ⟨PT.setAll .nil 0 [.agg [.int .u64 a0_0, .int .u64 a0_1, .int .u64 a0_2, .int .u64 a0_3, .int .u64 a0_4, .int .u64 a0_5, a0_6], .agg [.int .u64 a1_0, .int .u64 a1_1, .int .u64 a1_2, .int .u64 a1_3, .int .u64 a1_4, .int .u64 a1_5, a1_6]], max [.agg [.int .u64 a0_0, .int .u64 a0_1, .int .u64 a0_2, .int .u64 a0_3, .int .u64 a0_4, .int .u64 a0_5, a0_6], .agg [.int .u64 a1_0, .int .u64 a1_1, .int .u64 a1_2, .int .u64 a1_3, .int .u64 a1_4, .int .u64 a1_5, a1_6]].length (fnI Try.f23).nt, s, []⟩ (endW C.spoorref15_SameTally (fnI Try.f23).results Q)) h)
/-! ### spoor/spoorref15.SameEdges -/
def C.spoorref15_SameEdges : Cx := { D := D, rt := rt, its := [], lps := [(0, [41, 40, 39, 38, 37, 36, 35, 34, 33, 32, 31, 30, 29, 28, 27, 26, 25, 24, 23, 22, 21, 20, 19, 18, 17, 4, 15, 16, 5, 11, 12, 13, 14], [5])], det := true }
set_option maxRecDepth 100000 in
def vc.spoorref15_SameEdges (a0 : AV) (a1 : AV) (s : St) (Q : (AV → (St → Prop))) : Prop :=
  slenK a0 fun m1 =>
  slenK a1 fun m2 =>
  bsel (((m1 : Nat) : Int) != ((m2 : Nat) : Int)) (
    (Q (AV.bool false) s)
  ) (
    ∃ (I3 : (Int → (St → (Nat → Prop)))),
    (
      ∃ (m4 : Nat),
      (I3 0 s m4)
    ) ∧
    ∀ (n5 : Int) (s6 : St) (m7 : Nat),
    (I3 n5 s6 m7) →
    slenK a0 fun m8 =>
    bsel (decide (n5 < ((m8 : Nat) : Int))) (
      ∀ (s9 : St),
      (Bump s6 25 s9) →
      ixsK 9 a0 n5 fun m10 m11 =>
      ∃ (t12 : ByteArray) (t13 : ByteArray),
      ((ldN s9 (AV.ptr m10 m11) 2) = (some [(AV.str t12), (AV.str t13)])) ∧
      ixsK 9 a1 n5 fun m14 m15 =>
      ∃ (t16 : ByteArray) (t17 : ByteArray),
      ((ldN s9 (AV.ptr m14 m15) 2) = (some [(AV.str t16), (AV.str t17)])) ∧
      bsel (if (false = true) then ((bytesEq (Array.toList (ByteArray.data t12)) (Array.toList (ByteArray.data t16))) && ((bytesEq (Array.toList (ByteArray.data t13)) (Array.toList (ByteArray.data t17))) && true)) else (! ((bytesEq (Array.toList (ByteArray.data t12)) (Array.toList (ByteArray.data t16))) && ((bytesEq (Array.toList (ByteArray.data t13)) (Array.toList (ByteArray.data t17))) && true)))) (
        (Q (AV.bool false) s9)
      ) (
        ixsK 9 a0 n5 fun m18 m19 =>
        ∃ (n20 : Int) (n21 : Int) (n22 : Int) (n23 : Int) (n24 : Int) (n25 : Int) (x26 : AV),
        ((ldN s9 (AV.ptr m18 (m19 + 2)) 7) = (some [(AV.int .u64 n20), (AV.int .u64 n21), (AV.int .u64 n22), (AV.int .u64 n23), (AV.int .u64 n24), (AV.int .u64 n25), x26])) ∧
        ixsK 9 a1 n5 fun m27 m28 =>
        ∃ (n29 : Int) (n30 : Int) (n31 : Int) (n32 : Int) (n33 : Int) (n34 : Int) (x35 : AV),
        ((ldN s9 (AV.ptr m27 (m28 + 2)) 7) = (some [(AV.int .u64 n29), (AV.int .u64 n30), (AV.int .u64 n31), (AV.int .u64 n32), (AV.int .u64 n33), (AV.int .u64 n34), x35])) ∧
        CallsD P F.spoorref15_SameTally [(AV.agg [(AV.int .u64 n20), (AV.int .u64 n21), (AV.int .u64 n22), (AV.int .u64 n23), (AV.int .u64 n24), (AV.int .u64 n25), x26]), (AV.agg [(AV.int .u64 n29), (AV.int .u64 n30), (AV.int .u64 n31), (AV.int .u64 n32), (AV.int .u64 n33), (AV.int .u64 n34), x35])] s9 fun x36 s37 =>
        ∃ (c38 : Bool),
        (x36 = (AV.bool c38)) ∧
        bsel (!c38) (
          (Q (AV.bool false) s37)
        ) (
          ∃ (m39 : Nat),
          (m39 < m7) ∧
          (I3 (IntKind.wrap .i64 (n5 + 1)) s37 m39)
        )
      )
    ) (
      (Q (AV.bool true) s6)
    )
  )
set_option maxRecDepth 100000 in
theorem vc.spoorref15_SameEdges_ok {a0 : AV} {a1 : AV} {s : St} {Q : AV → St → Prop} (h : vc.spoorref15_SameEdges a0 a1 s Q) : CallsD P F.spoorref15_SameEdges [a0, a1] s Q :=
  fnD_ok (C := C.spoorref15_SameEdges) hD hX rfl mixes (fi := fnI Try.f13) (by kernel_rfl) (by kernel_rfl) (cast (by kernel_rfl : vc.spoorref15_SameEdges a0 a1 s Q = wpC P C.spoorref15_SameEdges 1000000 (fnI Try.f13).body ⟨PT.setAll .nil 0 [a0, a1], max [a0, a1].length (fnI Try.f13).nt, s, []⟩ (endW C.spoorref15_SameEdges (fnI Try.f13).results Q)) h)
end
end Go.Eng.S

