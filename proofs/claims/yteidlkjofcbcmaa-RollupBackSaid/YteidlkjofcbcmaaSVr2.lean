/-
  What is to be shown of functions of the program, and that it suffices.
-/
import Derived.Test.YteidlkjofcbcmaaSDefs
namespace Go.Eng.S
open Go Go.Eng Go.Proofs
noncomputable section
/-! ### spoor/rollup.order -/
def C.rollup_order : Cx := { D := D, rt := rt, its := [], lps := [], det := true }
set_option maxRecDepth 100000 in
def vc.rollup_order (a0_0 : ByteArray) (a0_1 : ByteArray) (a0_2 : Int) (a0_3 : Int) (a0_4 : Int) (a0_5 : Int) (a0_6 : Int) (a0_7 : Int) (a0_8 : AV) (a1_0 : ByteArray) (a1_1 : ByteArray) (a1_2 : Int) (a1_3 : Int) (a1_4 : Int) (a1_5 : Int) (a1_6 : Int) (a1_7 : Int) (a1_8 : AV) (s : St) (Q : (AV → (St → Prop))) : Prop :=
  ∀ (m1 : Nat) (s2 : St),
  (NewO s (cellsO [(AV.str a0_0), (AV.str a0_1), (AV.int .u64 a0_2), (AV.int .u64 a0_3), (AV.int .u64 a0_4), (AV.int .u64 a0_5), (AV.int .u64 a0_6), (AV.int .u64 a0_7), a0_8]) m1 s2) →
  ∀ (m3 : Nat) (s4 : St),
  (NewO s2 (cellsO [(AV.str a1_0), (AV.str a1_1), (AV.int .u64 a1_2), (AV.int .u64 a1_3), (AV.int .u64 a1_4), (AV.int .u64 a1_5), (AV.int .u64 a1_6), (AV.int .u64 a1_7), a1_8]) m3 s4) →
  ∀ (s5 : St),
  (Bump s4 17 s5) →
  ∃ (t6 : ByteArray),
  ((ld1 s5 (AV.ptr m1 0)) = (some (AV.str t6))) ∧
  ∃ (t7 : ByteArray),
  ((ld1 s5 (AV.ptr m3 0)) = (some (AV.str t7))) ∧
  CallsD P F.cmp_Compare_string [(AV.str t6), (AV.str t7)] s5 fun x8 s9 =>
  ∃ (n10 : Int),
  (x8 = (AV.int .i64 n10)) ∧
  ∃ (t11 : ByteArray),
  ((ld1 s9 (AV.ptr m1 1)) = (some (AV.str t11))) ∧
  ((ld1 s5 (AV.ptr m1 1)) = (some (AV.str t11))) ∧
  ∃ (t12 : ByteArray),
  ((ld1 s9 (AV.ptr m3 1)) = (some (AV.str t12))) ∧
  ((ld1 s5 (AV.ptr m3 1)) = (some (AV.str t12))) ∧
  CallsD P F.cmp_Compare_string [(AV.str t11), (AV.str t12)] s9 fun x13 s14 =>
  ∃ (n15 : Int),
  (x13 = (AV.int .i64 n15)) ∧
  CallsD P F.cmp_Or_int [(AV.slice ((St.nx s4) + 14) 0 2 (ACap.exact 2))] (hsetS s14 ((St.nx s4) + 14) (cellsO [(AV.int .i64 n10), (AV.int .i64 n15)])) fun x16 s17 =>
  ∃ (n18 : Int),
  (x16 = (AV.int .i64 n18)) ∧
  (Q (AV.int .i64 n18) s17)
set_option maxRecDepth 100000 in
theorem vc.rollup_order_ok {a0_0 : ByteArray} {a0_1 : ByteArray} {a0_2 : Int} {a0_3 : Int} {a0_4 : Int} {a0_5 : Int} {a0_6 : Int} {a0_7 : Int} {a0_8 : AV} {a1_0 : ByteArray} {a1_1 : ByteArray} {a1_2 : Int} {a1_3 : Int} {a1_4 : Int} {a1_5 : Int} {a1_6 : Int} {a1_7 : Int} {a1_8 : AV} {s : St} {Q : AV → St → Prop} (h : vc.rollup_order a0_0 a0_1 a0_2 a0_3 a0_4 a0_5 a0_6 a0_7 a0_8 a1_0 a1_1 a1_2 a1_3 a1_4 a1_5 a1_6 a1_7 a1_8 s Q) : CallsD P F.rollup_order [.agg [.str a0_0, .str a0_1, .int .u64 a0_2, .int .u64 a0_3, .int .u64 a0_4, .int .u64 a0_5, .int .u64 a0_6, .int .u64 a0_7, a0_8], .agg [.str a1_0, .str a1_1, .int .u64 a1_2, .int .u64 a1_3, .int .u64 a1_4, .int .u64 a1_5, .int .u64 a1_6, .int .u64 a1_7, a1_8]] s Q :=
  fnD_ok (C := C.rollup_order) hD hX rfl mixes (fi := fnI Try.f46) (by kernel_rfl) (by kernel_rfl) (cast (by kernel_rfl : vc.rollup_order a0_0 a0_1 a0_2 a0_3 a0_4 a0_5 a0_6 a0_7 a0_8 a1_0 a1_1 a1_2 a1_3 a1_4 a1_5 a1_6 a1_7 a1_8 s Q = wpC P C.rollup_order 1000000 (fnI Try.f46).body ⟨PT.setAll .nil 0 [.agg [.str a0_0, .str a0_1, .int .u64 a0_2, .int .u64 a0_3, .int .u64 a0_4, .int .u64 a0_5, .int .u64 a0_6, .int .u64 a0_7, a0_8], .agg [.str a1_0, .str a1_1, .int .u64 a1_2, .int .u64 a1_3, .int .u64 a1_4, .int .u64 a1_5, .int .u64 a1_6, .int .u64 a1_7, a1_8]], max [.agg [.str a0_0, .str a0_1, .int .u64 a0_2, .int .u64 a0_3, .int .u64 a0_4, .int .u64 a0_5, .int .u64 a0_6, .int .u64 a0_7, a0_8], .agg [.str a1_0, .str a1_1, .int .u64 a1_2, .int .u64 a1_3, .int .u64 a1_4, .int .u64 a1_5, .int .u64 a1_6, .int .u64 a1_7, a1_8]].length (fnI Try.f46).nt, s, []⟩ (endW C.rollup_order (fnI Try.f46).results Q)) h)
/-! ### cmp.Or[int] -/
def C.cmp_Or_int : Cx := { D := D, rt := rt, its := [], lps := [(0, [8, 16, 14, 13, 12, 15, 2, 10, 11, 5, 9], [8])], det := true }
set_option maxRecDepth 100000 in
def vc.cmp_Or_int (a0 : AV) (s : St) (Q : (AV → (St → Prop))) : Prop :=
  slenK a0 fun m1 =>
  ∃ (I2 : (Int → (St → (Nat → Prop)))),
  (
    ∃ (m3 : Nat),
    (I2 0 s m3)
  ) ∧
  ∀ (n4 : Int) (s5 : St) (m6 : Nat),
  (I2 n4 s5 m6) →
  bsel (decide (n4 < ((m1 : Nat) : Int))) (
    ixsK 1 a0 n4 fun m7 m8 =>
    ∃ (n9 : Int),
    ((ld1 s5 (AV.ptr m7 m8)) = (some (AV.int .i64 n9))) ∧
    bsel (n9 != 0) (
      (Q (AV.int .i64 n9) s5)
    ) (
      ∃ (m10 : Nat),
      (m10 < m6) ∧
      (I2 (IntKind.wrap .i64 (n4 + 1)) s5 m10)
    )
  ) (
    (Q (AV.int .i64 0) s5)
  )
set_option maxRecDepth 100000 in
theorem vc.cmp_Or_int_ok {a0 : AV} {s : St} {Q : AV → St → Prop} (h : vc.cmp_Or_int a0 s Q) : CallsD P F.cmp_Or_int [a0] s Q :=
  fnD_ok (C := C.cmp_Or_int) hD hX rfl mixes (fi := fnI Try.f56) (by kernel_rfl) (by kernel_rfl) (cast (by kernel_rfl : vc.cmp_Or_int a0 s Q = wpC P C.cmp_Or_int 1000000 (fnI Try.f56).body ⟨PT.setAll .nil 0 [a0], max [a0].length (fnI Try.f56).nt, s, []⟩ (endW C.cmp_Or_int (fnI Try.f56).results Q)) h)
/-! ### cmp.Compare[string] -/
def C.cmp_Compare_string : Cx := { D := D, rt := rt, its := [], lps := [], det := true }
set_option maxRecDepth 100000 in
def vc.cmp_Compare_string (a0 : ByteArray) (a1 : ByteArray) (s : St) (Q : (AV → (St → Prop))) : Prop :=
  CallsD P F.cmp_isNaN_string [(AV.str a0)] s fun x1 s2 =>
  ∃ (c3 : Bool),
  (x1 = (AV.bool c3)) ∧
  CallsD P F.cmp_isNaN_string [(AV.str a1)] s2 fun x4 s5 =>
  ∃ (c6 : Bool),
  (x4 = (AV.bool c6)) ∧
  bsel c3 (
    bsel c6 (
      (Q (AV.int .i64 0) s5)
    ) (
      (Q (AV.int .i64 (-1)) s5)
    )
  ) (
    bsel c6 (
      (Q (AV.int .i64 1) s5)
    ) (
      bsel (bytesLt (Array.toList (ByteArray.data a0)) (Array.toList (ByteArray.data a1))) (
        (Q (AV.int .i64 (-1)) s5)
      ) (
        bsel (! ((bytesLt (Array.toList (ByteArray.data a0)) (Array.toList (ByteArray.data a1))) || (bytesEq (Array.toList (ByteArray.data a0)) (Array.toList (ByteArray.data a1))))) (
          (Q (AV.int .i64 1) s5)
        ) (
          (Q (AV.int .i64 0) s5)
        )
      )
    )
  )
set_option maxRecDepth 100000 in
theorem vc.cmp_Compare_string_ok {a0 : ByteArray} {a1 : ByteArray} {s : St} {Q : AV → St → Prop} (h : vc.cmp_Compare_string a0 a1 s Q) : CallsD P F.cmp_Compare_string [.str a0, .str a1] s Q :=
  fnD_ok (C := C.cmp_Compare_string) hD hX rfl mixes (fi := fnI Try.f61) (by kernel_rfl) (by kernel_rfl) (cast (by kernel_rfl : vc.cmp_Compare_string a0 a1 s Q = wpC P C.cmp_Compare_string 1000000 (fnI Try.f61).body ⟨PT.setAll .nil 0 [.str a0, .str a1], max [.str a0, .str a1].length (fnI Try.f61).nt, s, []⟩ (endW C.cmp_Compare_string (fnI Try.f61).results Q)) h)
/-! ### cmp.isNaN[string] -/
def C.cmp_isNaN_string : Cx := { D := D, rt := rt, its := [], lps := [], det := true }
set_option maxRecDepth 100000 in
def vc.cmp_isNaN_string (a0 : ByteArray) (s : St) (Q : (AV → (St → Prop))) : Prop :=
  (Q (AV.bool (! (bytesEq (Array.toList (ByteArray.data a0)) (Array.toList (ByteArray.data a0))))) s)
set_option maxRecDepth 100000 in
theorem vc.cmp_isNaN_string_ok {a0 : ByteArray} {s : St} {Q : AV → St → Prop} (h : vc.cmp_isNaN_string a0 s Q) : CallsD P F.cmp_isNaN_string [.str a0] s Q :=
  fnD_ok (C := C.cmp_isNaN_string) hD hX rfl mixes (fi := fnI Try.f90) (by kernel_rfl) (by kernel_rfl) (cast (by kernel_rfl : vc.cmp_isNaN_string a0 s Q = wpC P C.cmp_isNaN_string 1000000 (fnI Try.f90).body ⟨PT.setAll .nil 0 [.str a0], max [.str a0].length (fnI Try.f90).nt, s, []⟩ (endW C.cmp_isNaN_string (fnI Try.f90).results Q)) h)
/-! ### (*spoor/rollup.Rollup).sum -/
def C.p_rollup_Rollup_sum : Cx := { D := D, rt := rt, its := [(20, 81), (35, 87), (52, 87)], lps := [(0, [33, 32, 31, 30, 29, 28, 27, 26, 37, 36, 11, 10, 40, 39, 38, 42, 43, 44, 45, 46, 47, 48, 41, 49, 50, 34, 35, 23, 24, 25, 8, 9, 21, 22], []), (2, [50, 49, 41, 48, 47, 46, 45, 44, 43, 42, 38, 39, 40, 10, 11, 36, 37], []), (4, [12, 63, 62, 61, 60, 59, 58, 55, 56, 57, 13, 14, 53, 54], [12])] }
set_option maxRecDepth 100000 in
def vc.p_rollup_Rollup_sum (a0 : AV) (a1 : Int) (a2 : Int) (s : St) (Q : (AV → (St → Prop))) : Prop :=
  ∀ (m1 : Nat) (s2 : St),
  (NewO s mapO m1 s2) →
  ptrK a0 0 fun m3 m4 =>
  ∃ (x5 : AV),
  ((ld1 s2 (AV.ptr m3 (m4 + 1))) = (some x5)) ∧
  ∃ (m6 : Nat) (s7 : St),
  ((rangeA D s2 T.map_int64_rollup_edges x5) = (some ((AV.ptr m6 0), s7))) ∧
  ∃ (I8 : (St → (Nat → Prop))),
  (
    ∃ (m9 : Nat),
    (I8 s7 m9)
  ) ∧
  ∀ (s10 : St) (m11 : Nat),
  (I8 s10 m11) →
  ∃ (l12 : (List (AV × St))),
  ((nextA s10 (AV.ptr m6 0) false) = (some l12)) ∧
  ∀ (x13 : AV) (s14 : St),
  ((x13, s14) ∈ l12) →
  (((x13 = (AV.tuple [(AV.bool false)])) ∧ (∃ m15 : Nat, (∃ s16 : St, (((rangeA D s14 T.rollup_edges (AV.map m1)) = (some ((AV.ptr m15 0), s16))) ∧ (∃ I17 : (AV → (St → (Nat → Prop))), ((∃ m18 : Nat, (I17 AV.nilslice s16 m18)) ∧ (∀ x19 : AV, (∀ s20 : St, (∀ m21 : Nat, ((I17 x19 s20 m21) → (∃ l22 : (List (AV × St)), (((nextA s20 (AV.ptr m15 0) false) = (some l22)) ∧ (∀ x23 : AV, (∀ s24 : St, (((x23, s24) ∈ l22) → (((x23 = (AV.tuple [(AV.bool false)])) ∧ (CallsA P F.slices_SortFunc_sl_api_EdgeTally_api_EdgeTally [x19, (AV.func F.rollup_order [] [])] s24 (fun x25 => (fun s26 => ((x25 = (AV.tuple [])) ∧ (Q x19 s26)))))) ∨ (∃ t27 : ByteArray, (∃ t28 : ByteArray, (∃ n29 : Int, (∃ n30 : Int, (∃ n31 : Int, (∃ n32 : Int, (∃ n33 : Int, (∃ n34 : Int, (∃ x35 : AV, ((x23 = (AV.tuple [(AV.bool true), (AV.agg [(AV.str t27), (AV.str t28)]), (AV.agg [(AV.int .u64 n29), (AV.int .u64 n30), (AV.int .u64 n31), (AV.int .u64 n32), (AV.int .u64 n33), (AV.int .u64 n34), x35])])) ∧ (∃ t36 : ByteArray, (∃ t37 : ByteArray, (∃ n38 : Int, (∃ n39 : Int, (∃ n40 : Int, (∃ n41 : Int, (∃ n42 : Int, (∃ n43 : Int, (∃ x44 : AV, (((entryA s24 (AV.ptr m15 0)) = (some (AV.tuple [(AV.agg [(AV.str t36), (AV.str t37)]), (AV.agg [(AV.int .u64 n38), (AV.int .u64 n39), (AV.int .u64 n40), (AV.int .u64 n41), (AV.int .u64 n42), (AV.int .u64 n43), x44])]))) ∧ (∀ m45 : Nat, (∀ s46 : St, ((NewO s24 (cellsO [(AV.str ByteArray.empty), (AV.str ByteArray.empty)]) m45 s46) → (∀ m47 : Nat, (∀ s48 : St, ((NewO s46 (cellsO [(AV.int .u64 0), (AV.int .u64 0), (AV.int .u64 0), (AV.int .u64 0), (AV.int .u64 0), (AV.int .u64 0), AV.nilslice]) m47 s48) → (∃ s49 : St, (((wrN s48 (AV.ptr m45 0) [(AV.str t36), (AV.str t37)]) = (some s49)) ∧ (∃ s50 : St, (((wrN s49 (AV.ptr m47 0) [(AV.int .u64 n38), (AV.int .u64 n39), (AV.int .u64 n40), (AV.int .u64 n41), (AV.int .u64 n42), (AV.int .u64 n43), x44]) = (some s50)) ∧ (∃ t51 : ByteArray, (∃ t52 : ByteArray, (((ldN s50 (AV.ptr m45 0) 2) = (some [(AV.str t51), (AV.str t52)])) ∧ (∃ n53 : Int, (∃ n54 : Int, (∃ n55 : Int, (∃ n56 : Int, (∃ n57 : Int, (∃ n58 : Int, (∃ x59 : AV, (((ldN s50 (AV.ptr m47 0) 7) = (some [(AV.int .u64 n53), (AV.int .u64 n54), (AV.int .u64 n55), (AV.int .u64 n56), (AV.int .u64 n57), (AV.int .u64 n58), x59])) ∧ (∀ m60 : Nat, (∀ s61 : St, ((NewO s50 (cellsO [(AV.str t51), (AV.str t52), (AV.int .u64 n53), (AV.int .u64 n54), (AV.int .u64 n55), (AV.int .u64 n56), (AV.int .u64 n57), (AV.int .u64 n58), x59]) m60 s61) → (∃ x62 : AV, (∃ s63 : St, (((appendX D s61 T.sl_api_EdgeTally T.sl_api_EdgeTally x19 (AV.slice m60 0 1 (ACap.exact 1))) = (some (x62, s63))) ∧ (∃ m64 : Nat, ((m64 < m21) ∧ (I17 x62 s63 m64)))))))))))))))))))))))))))))))))))))))))))))))))))))))))))))))))) ∨ (∃ n65 : Int, (∃ x66 : AV, ((x13 = (AV.tuple [(AV.bool true), (AV.int .i64 n65), x66])) ∧ (∃ n67 : Int, (∃ x68 : AV, (((entryA s14 (AV.ptr m6 0)) = (some (AV.tuple [(AV.int .i64 n67), x68]))) ∧ (bsel (decide (n67 < a1)) (∃ m69 : Nat, ((m69 < m11) ∧ (I8 s14 m69))) (bsel (decide (n67 ≥ a2)) (∃ m70 : Nat, ((m70 < m11) ∧ (I8 s14 m70))) (∃ m71 : Nat, (∃ s72 : St, (((rangeA D s14 T.rollup_edges x68) = (some ((AV.ptr m71 0), s72))) ∧ (∃ I73 : (St → (Nat → Prop)), ((∃ m74 : Nat, (I73 s72 m74)) ∧ (∀ s75 : St, (∀ m76 : Nat, ((I73 s75 m76) → (∃ l77 : (List (AV × St)), (((nextA s75 (AV.ptr m71 0) false) = (some l77)) ∧ (∀ x78 : AV, (∀ s79 : St, (((x78, s79) ∈ l77) → (((x78 = (AV.tuple [(AV.bool false)])) ∧ (∃ m80 : Nat, ((m80 < m11) ∧ (I8 s79 m80)))) ∨ (∃ t81 : ByteArray, (∃ t82 : ByteArray, (∃ n83 : Int, (∃ n84 : Int, (∃ n85 : Int, (∃ n86 : Int, (∃ n87 : Int, (∃ n88 : Int, (∃ x89 : AV, ((x78 = (AV.tuple [(AV.bool true), (AV.agg [(AV.str t81), (AV.str t82)]), (AV.agg [(AV.int .u64 n83), (AV.int .u64 n84), (AV.int .u64 n85), (AV.int .u64 n86), (AV.int .u64 n87), (AV.int .u64 n88), x89])])) ∧ (∃ t90 : ByteArray, (∃ t91 : ByteArray, (∃ n92 : Int, (∃ n93 : Int, (∃ n94 : Int, (∃ n95 : Int, (∃ n96 : Int, (∃ n97 : Int, (∃ x98 : AV, (((entryA s79 (AV.ptr m71 0)) = (some (AV.tuple [(AV.agg [(AV.str t90), (AV.str t91)]), (AV.agg [(AV.int .u64 n92), (AV.int .u64 n93), (AV.int .u64 n94), (AV.int .u64 n95), (AV.int .u64 n96), (AV.int .u64 n97), x98])]))) ∧ (∀ m99 : Nat, (∀ s100 : St, ((NewO s79 (cellsO [(AV.str ByteArray.empty), (AV.str ByteArray.empty)]) m99 s100) → (∀ m101 : Nat, (∀ s102 : St, ((NewO s100 (cellsO [(AV.int .u64 0), (AV.int .u64 0), (AV.int .u64 0), (AV.int .u64 0), (AV.int .u64 0), (AV.int .u64 0), AV.nilslice]) m101 s102) → (∃ s103 : St, (((wrN s102 (AV.ptr m99 0) [(AV.str t90), (AV.str t91)]) = (some s103)) ∧ (∃ s104 : St, (((wrN s103 (AV.ptr m101 0) [(AV.int .u64 n92), (AV.int .u64 n93), (AV.int .u64 n94), (AV.int .u64 n95), (AV.int .u64 n96), (AV.int .u64 n97), x98]) = (some s104)) ∧ (∀ s105 : St, ((Bump s104 11 s105) → (∃ t106 : ByteArray, (∃ t107 : ByteArray, (((ldN s105 (AV.ptr m99 0) 2) = (some [(AV.str t106), (AV.str t107)])) ∧ (∃ t108 : ByteArray, (∃ t109 : ByteArray, (((ldN s105 (AV.ptr m99 0) 2) = (some [(AV.str t108), (AV.str t109)])) ∧ (∃ n110 : Int, (∃ n111 : Int, (∃ n112 : Int, (∃ n113 : Int, (∃ n114 : Int, (∃ n115 : Int, (∃ x116 : AV, (((lookupA D s105 T.rollup_edges (AV.map m1) (AV.agg [(AV.str t108), (AV.str t109)]) false) = (some (AV.agg [(AV.int .u64 n110), (AV.int .u64 n111), (AV.int .u64 n112), (AV.int .u64 n113), (AV.int .u64 n114), (AV.int .u64 n115), x116]))) ∧ (∃ n117 : Int, (∃ n118 : Int, (∃ n119 : Int, (∃ n120 : Int, (∃ n121 : Int, (∃ n122 : Int, (∃ x123 : AV, (((ldN s105 (AV.ptr m101 0) 7) = (some [(AV.int .u64 n117), (AV.int .u64 n118), (AV.int .u64 n119), (AV.int .u64 n120), (AV.int .u64 n121), (AV.int .u64 n122), x123])) ∧ (CallsD P F.calls_Plus [(AV.agg [(AV.int .u64 n110), (AV.int .u64 n111), (AV.int .u64 n112), (AV.int .u64 n113), (AV.int .u64 n114), (AV.int .u64 n115), x116]), (AV.agg [(AV.int .u64 n117), (AV.int .u64 n118), (AV.int .u64 n119), (AV.int .u64 n120), (AV.int .u64 n121), (AV.int .u64 n122), x123])] s105 (fun x124 => (fun s125 => (∃ n126 : Int, (∃ n127 : Int, (∃ n128 : Int, (∃ n129 : Int, (∃ n130 : Int, (∃ n131 : Int, (∃ x132 : AV, (∃ n133 : Int, ((x124 = (AV.tuple [(AV.agg [(AV.int .u64 n126), (AV.int .u64 n127), (AV.int .u64 n128), (AV.int .u64 n129), (AV.int .u64 n130), (AV.int .u64 n131), x132]), (AV.int .i64 n133)])) ∧ (((ldN s125 (AV.ptr m99 0) 2) = (some [(AV.str t106), (AV.str t107)])) ∧ (∃ s134 : St, (((mapUpdA D s125 T.rollup_edges (AV.map m1) (AV.agg [(AV.str t106), (AV.str t107)]) (AV.agg [(AV.int .u64 n126), (AV.int .u64 n127), (AV.int .u64 n128), (AV.int .u64 n129), (AV.int .u64 n130), (AV.int .u64 n131), x132])) = (some s134)) ∧ (∃ m135 : Nat, ((m135 < m76) ∧ (I73 s134 m135)))))))))))))))))))))))))))))))))))))))))))))))))))))))))))))))))))))))))))))))))))))))))))))))
set_option maxRecDepth 100000 in
theorem vc.p_rollup_Rollup_sum_ok {a0 : AV} {a1 : Int} {a2 : Int} {s : St} {Q : AV → St → Prop} (h : vc.p_rollup_Rollup_sum a0 a1 a2 s Q) : CallsA P F.p_rollup_Rollup_sum [a0, .int .i64 a1, .int .i64 a2] s Q :=
  fnB_ok (C := C.p_rollup_Rollup_sum) hD hX mixes (fi := fnI Try.f29) (by kernel_rfl) (by kernel_rfl) (cast (by kernel_rfl : vc.p_rollup_Rollup_sum a0 a1 a2 s Q = wpC P C.p_rollup_Rollup_sum 1000000 (fnI Try.f29).body ⟨PT.setAll .nil 0 [a0, .int .i64 a1, .int .i64 a2], max [a0, .int .i64 a1, .int .i64 a2].length (fnI Try.f29).nt, s, []⟩ (endW C.p_rollup_Rollup_sum (fnI Try.f29).results Q)) h)
/-! ### (*spoor/rollup.Rollup).Range -/
def C.p_rollup_Rollup_Range : Cx := { D := D, rt := rt, its := [], lps := [] }
set_option maxRecDepth 100000 in
def vc.p_rollup_Rollup_Range (a0 : AV) (a1 : Int) (a2 : Int) (s : St) (Q : (AV → (St → Prop))) : Prop :=
  bsel (decide (a1 < 0)) (
    (Q (AV.tuple [AV.nilslice, (AV.int .i64 151)]) s)
  ) (
    bsel (decide (a1 > a2)) (
      (Q (AV.tuple [AV.nilslice, (AV.int .i64 151)]) s)
    ) (
      bsel (decide (a2 > 2097152)) (
        (Q (AV.tuple [AV.nilslice, (AV.int .i64 151)]) s)
      ) (
        CallsA P F.p_rollup_Rollup_sum [a0, (AV.int .i64 a1), (AV.int .i64 a2)] s fun x1 s2 =>
        ∃ (x3 : AV),
        (x1 = x3) ∧
        (Q (AV.tuple [x3, (AV.int .i64 0)]) s2)
      )
    )
  )
set_option maxRecDepth 100000 in
theorem vc.p_rollup_Rollup_Range_ok {a0 : AV} {a1 : Int} {a2 : Int} {s : St} {Q : AV → St → Prop} (h : vc.p_rollup_Rollup_Range a0 a1 a2 s Q) : CallsA P F.p_rollup_Rollup_Range [a0, .int .i64 a1, .int .i64 a2] s Q :=
  fnB_ok (C := C.p_rollup_Rollup_Range) hD hX mixes (fi := fnI Try.f11) (by kernel_rfl) (by kernel_rfl) (cast (by kernel_rfl : vc.p_rollup_Rollup_Range a0 a1 a2 s Q = wpC P C.p_rollup_Rollup_Range 1000000 (fnI Try.f11).body ⟨PT.setAll .nil 0 [a0, .int .i64 a1, .int .i64 a2], max [a0, .int .i64 a1, .int .i64 a2].length (fnI Try.f11).nt, s, []⟩ (endW C.p_rollup_Rollup_Range (fnI Try.f11).results Q)) h)
/-! ### spoor/spoorlaw15.edges -/
def C.spoorlaw15_edges : Cx := { D := D, rt := rt, its := [], lps := [] }
set_option maxRecDepth 100000 in
def vc.spoorlaw15_edges (a0 : AV) (a1 : Int) (a2 : Int) (s : St) (Q : (AV → (St → Prop))) : Prop :=
  CallsA P F.p_rollup_Rollup_Range [a0, (AV.int .i64 a1), (AV.int .i64 a2)] s fun x1 s2 =>
  ∃ (x3 : AV) (n4 : Int),
  (x1 = (AV.tuple [x3, (AV.int .i64 n4)])) ∧
  (Q x3 s2)
set_option maxRecDepth 100000 in
theorem vc.spoorlaw15_edges_ok {a0 : AV} {a1 : Int} {a2 : Int} {s : St} {Q : AV → St → Prop} (h : vc.spoorlaw15_edges a0 a1 a2 s Q) : CallsA P F.spoorlaw15_edges [a0, .int .i64 a1, .int .i64 a2] s Q :=
  fnB_ok (C := C.spoorlaw15_edges) hD hX mixes (fi := fnI Try.f14) (by kernel_rfl) (by kernel_rfl) (cast (by kernel_rfl : vc.spoorlaw15_edges a0 a1 a2 s Q = wpC P C.spoorlaw15_edges 1000000 (fnI Try.f14).body ⟨PT.setAll .nil 0 [a0, .int .i64 a1, .int .i64 a2], max [a0, .int .i64 a1, .int .i64 a2].length (fnI Try.f14).nt, s, []⟩ (endW C.spoorlaw15_edges (fnI Try.f14).results Q)) h)
end
end Go.Eng.S

