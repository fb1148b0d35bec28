/-
  What is to be shown of functions of the program, and that it suffices.
-/
import Derived.Test.YteidlkjofcbcmaaSDefs
namespace Go.Eng.S
open Go Go.Eng Go.Proofs
noncomputable section
/-! ### spoor/spoorlaw15.filled -/
def C.spoorlaw15_filled : Cx := { D := D, rt := rt, its := [], lps := [(0, [41, 40, 39, 38, 37, 36, 35, 34, 33, 32, 31, 30, 29, 28, 27, 26, 25, 23, 24, 7, 15, 16, 17, 18, 19, 20, 21, 22], [7])], det := true }
set_option maxRecDepth 100000 in
def vc.spoorlaw15_filled (a0 : Int) (a1 : AV) (s : St) (Q : (AV → (St → Prop))) : Prop :=
  CallsD P F.rollup_New [(AV.int .i64 a0)] s fun x1 s2 =>
  ∃ (x3 : AV) (n4 : Int),
  (x1 = (AV.tuple [x3, (AV.int .i64 n4)])) ∧
  bsel (n4 != 0) (
    (Q AV.nilptr s2)
  ) (
    ∃ (I5 : (Int → (St → (Nat → Prop)))),
    (
      ∃ (m6 : Nat),
      (I5 0 s2 m6)
    ) ∧
    ∀ (n7 : Int) (s8 : St) (m9 : Nat),
    (I5 n7 s8 m9) →
    slenK a1 fun m10 =>
    bsel (decide (n7 < ((m10 : Nat) : Int))) (
      nilK (TD.ptr 83) x3 false fun c11 =>
      bsel c11 (
        ∀ (s12 : St),
        (Bump s8 17 s12) →
        ixsK 10 a1 n7 fun m13 m14 =>
        ∃ (n15 : Int),
        ((ld1 s12 (AV.ptr m13 m14)) = (some (AV.int .i64 n15))) ∧
        ixsK 10 a1 n7 fun m16 m17 =>
        ∃ (t18 : ByteArray) (t19 : ByteArray),
        ((ldN s12 (AV.ptr m16 (m17 + 1)) 2) = (some [(AV.str t18), (AV.str t19)])) ∧
        ixsK 10 a1 n7 fun m20 m21 =>
        ∃ (n22 : Int) (n23 : Int) (n24 : Int) (n25 : Int) (n26 : Int) (n27 : Int) (x28 : AV),
        ((ldN s12 (AV.ptr m20 (m21 + 3)) 7) = (some [(AV.int .u64 n22), (AV.int .u64 n23), (AV.int .u64 n24), (AV.int .u64 n25), (AV.int .u64 n26), (AV.int .u64 n27), x28])) ∧
        CallsD P F.p_rollup_Rollup_Put [x3, (AV.int .i64 n15), (AV.agg [(AV.str t18), (AV.str t19)]), (AV.agg [(AV.int .u64 n22), (AV.int .u64 n23), (AV.int .u64 n24), (AV.int .u64 n25), (AV.int .u64 n26), (AV.int .u64 n27), x28])] s12 fun x29 s30 =>
        ∃ (n31 : Int),
        (x29 = (AV.int .i64 n31)) ∧
        ∃ (m32 : Nat),
        (m32 < m9) ∧
        (I5 (IntKind.wrap .i64 (n7 + 1)) s30 m32)
      ) (
        (Q x3 s8)
      )
    ) (
      (Q x3 s8)
    )
  )
set_option maxRecDepth 100000 in
theorem vc.spoorlaw15_filled_ok {a0 : Int} {a1 : AV} {s : St} {Q : AV → St → Prop} (h : vc.spoorlaw15_filled a0 a1 s Q) : CallsD P F.spoorlaw15_filled [.int .i64 a0, a1] s Q :=
  fnD_ok (C := C.spoorlaw15_filled) hD hX rfl mixes (fi := fnI Try.f10) (by kernel_rfl) (by kernel_rfl) (cast (by kernel_rfl : vc.spoorlaw15_filled a0 a1 s Q = wpC P C.spoorlaw15_filled 1000000 (fnI Try.f10).body ⟨PT.setAll .nil 0 [.int .i64 a0, a1], max [.int .i64 a0, a1].length (fnI Try.f10).nt, s, []⟩ (endW C.spoorlaw15_filled (fnI Try.f10).results Q)) h)
/-! ### spoor/spoorref14.One -/
def C.spoorref14_One : Cx := { D := D, rt := rt, its := [], lps := [], det := true }
set_option maxRecDepth 100000 in
def vc.spoorref14_One (a0_0 : Int) (a0_1 : ByteArray) (a0_2 : ByteArray) (a0_3 : Bool) (a0_4 : Int) (s : St) (Q : (AV → (St → Prop))) : Prop :=
  ∀ (m1 : Nat) (s2 : St),
  (NewO s (cellsO [(AV.int .i64 a0_0), (AV.str a0_1), (AV.str a0_2), (AV.bool a0_3), (AV.int .u64 a0_4)]) m1 s2) →
  ∀ (m3 : Nat) (s4 : St),
  (NewO s2 (cellsO [(AV.int .u64 0), (AV.int .u64 0), (AV.int .u64 0), (AV.int .u64 0), (AV.int .u64 0), (AV.int .u64 0), AV.nilslice]) m3 s4) →
  ∀ (s5 : St),
  (Bump s4 12 s5) →
  ∃ (n6 : Int),
  ((ld1 s5 (AV.ptr m1 4)) = (some (AV.int .u64 n6))) ∧
  ∃ (n7 : Int),
  ((ld1 s5 (AV.ptr m1 4)) = (some (AV.int .u64 n7))) ∧
  CallsD P F.spoorref13_Index [(AV.int .u64 n7)] s5 fun x8 s9 =>
  ∃ (n10 : Int),
  (x8 = (AV.int .i64 n10)) ∧
  ((ld1 s9 (AV.ptr m1 4)) = (some (AV.int .u64 n6))) ∧
  ∃ (s11 : St),
  (
    ((wrN (hsetS (hsetS s9 ((St.nx s4) + 10) (cellsO [(AV.int .u64 0), (AV.int .u64 0), (AV.int .u64 0), (AV.int .u64 0), (AV.int .u64 0), (AV.int .u64 0), AV.nilslice])) ((St.nx s4) + 8) (cellsO [(AV.int .i64 n10), (AV.int .u64 1)])) (AV.ptr ((St.nx s4) + 10) 0) [(AV.int .u64 0), (AV.int .u64 1), (AV.int .u64 0), (AV.int .u64 0), (AV.int .u64 0), (AV.int .u64 n6), (AV.slice ((St.nx s4) + 8) 0 1 (ACap.exact 1))]) = (some s11))
  ) ∧
  ∃ (c12 : Bool),
  ((ld1 s11 (AV.ptr m1 3)) = (some (AV.bool c12))) ∧
  bsel c12 (
    ∃ (s13 : St),
    ((wrN s11 (AV.ptr ((St.nx s4) + 10) 3) [(AV.int .u64 1)]) = (some s13)) ∧
    ∃ (n14 : Int) (n15 : Int) (n16 : Int) (n17 : Int) (n18 : Int) (n19 : Int) (x20 : AV),
    ((ldN s13 (AV.ptr ((St.nx s4) + 10) 0) 7) = (some [(AV.int .u64 n14), (AV.int .u64 n15), (AV.int .u64 n16), (AV.int .u64 n17), (AV.int .u64 n18), (AV.int .u64 n19), x20])) ∧
    ∃ (s21 : St),
    ((wrN s13 (AV.ptr m3 0) [(AV.int .u64 n14), (AV.int .u64 n15), (AV.int .u64 n16), (AV.int .u64 n17), (AV.int .u64 n18), (AV.int .u64 n19), x20]) = (some s21)) ∧
    ∃ (n22 : Int) (n23 : Int) (n24 : Int) (n25 : Int) (n26 : Int) (n27 : Int) (x28 : AV),
    ((ldN s21 (AV.ptr m3 0) 7) = (some [(AV.int .u64 n22), (AV.int .u64 n23), (AV.int .u64 n24), (AV.int .u64 n25), (AV.int .u64 n26), (AV.int .u64 n27), x28])) ∧
    (Q (AV.agg [(AV.int .u64 n22), (AV.int .u64 n23), (AV.int .u64 n24), (AV.int .u64 n25), (AV.int .u64 n26), (AV.int .u64 n27), x28]) s21)
  ) (
    ∃ (n29 : Int) (n30 : Int) (n31 : Int) (n32 : Int) (n33 : Int) (n34 : Int) (x35 : AV),
    ((ldN s11 (AV.ptr ((St.nx s4) + 10) 0) 7) = (some [(AV.int .u64 n29), (AV.int .u64 n30), (AV.int .u64 n31), (AV.int .u64 n32), (AV.int .u64 n33), (AV.int .u64 n34), x35])) ∧
    ∃ (s36 : St),
    ((wrN s11 (AV.ptr m3 0) [(AV.int .u64 n29), (AV.int .u64 n30), (AV.int .u64 n31), (AV.int .u64 n32), (AV.int .u64 n33), (AV.int .u64 n34), x35]) = (some s36)) ∧
    ∃ (n37 : Int) (n38 : Int) (n39 : Int) (n40 : Int) (n41 : Int) (n42 : Int) (x43 : AV),
    ((ldN s36 (AV.ptr m3 0) 7) = (some [(AV.int .u64 n37), (AV.int .u64 n38), (AV.int .u64 n39), (AV.int .u64 n40), (AV.int .u64 n41), (AV.int .u64 n42), x43])) ∧
    (Q (AV.agg [(AV.int .u64 n37), (AV.int .u64 n38), (AV.int .u64 n39), (AV.int .u64 n40), (AV.int .u64 n41), (AV.int .u64 n42), x43]) s36)
  )
set_option maxRecDepth 100000 in
theorem vc.spoorref14_One_ok {a0_0 : Int} {a0_1 : ByteArray} {a0_2 : ByteArray} {a0_3 : Bool} {a0_4 : Int} {s : St} {Q : AV → St → Prop} (h : vc.spoorref14_One a0_0 a0_1 a0_2 a0_3 a0_4 s Q) : CallsD P F.spoorref14_One [.agg [.int .i64 a0_0, .str a0_1, .str a0_2, .bool a0_3, .int .u64 a0_4]] s Q :=
  fnD_ok (C := C.spoorref14_One) hD hX rfl mixes (fi := fnI Try.f21) (by kernel_rfl) (by kernel_rfl) (cast (by kernel_rfl : vc.spoorref14_One a0_0 a0_1 a0_2 a0_3 a0_4 s Q = wpC P C.spoorref14_One 1000000 (fnI Try.f21).body ⟨PT.setAll .nil 0 [.agg [.int .i64 a0_0, .str a0_1, .str a0_2, .bool a0_3, .int .u64 a0_4]], max [.agg [.int .i64 a0_0, .str a0_1, .str a0_2, .bool a0_3, .int .u64 a0_4]].length (fnI Try.f21).nt, s, []⟩ (endW C.spoorref14_One (fnI Try.f21).results Q)) h)
/-! ### spoor/spoorref13.Index -/
def C.spoorref13_Index : Cx := { D := D, rt := rt, its := [], lps := [(0, [3, 17, 16, 14, 15, 4, 12, 13], [3, 4]), (2, [5, 26, 25, 23, 24, 6, 19, 20, 21, 22], [5, 6])], det := true }
set_option maxRecDepth 100000 in
def vc.spoorref13_Index (a0 : Int) (s : St) (Q : (AV → (St → Prop))) : Prop :=
  bsel (decide (a0 < 64)) (
    (Q (AV.int .i64 (IntKind.wrap .i64 a0)) s)
  ) (
    ∃ (I1 : (Int → (Int → (St → (Nat → Prop))))),
    (
      ∃ (m2 : Nat),
      (I1 0 a0 s m2)
    ) ∧
    ∀ (n3 : Int) (n4 : Int) (s5 : St) (m6 : Nat),
    (I1 n3 n4 s5 m6) →
    bsel (decide (n4 > 1)) (
      ((2 : Int) ≠ 0) ∧
      ∃ (m7 : Nat),
      (m7 < m6) ∧
      (I1 (IntKind.wrap .i64 (n3 + 1)) (IntKind.wrap .u64 (Int.tdiv n4 2)) s5 m7)
    ) (
      ∃ (I8 : (Int → (Int → (St → (Nat → Prop))))),
      (
        ∃ (m9 : Nat),
        (I8 a0 0 s5 m9)
      ) ∧
      ∀ (n10 : Int) (n11 : Int) (s12 : St) (m13 : Nat),
      (I8 n10 n11 s12 m13) →
      bsel (decide (n11 < (IntKind.wrap .i64 (n3 - 5)))) (
        ((2 : Int) ≠ 0) ∧
        ∃ (m14 : Nat),
        (m14 < m13) ∧
        (I8 (IntKind.wrap .u64 (Int.tdiv n10 2)) (IntKind.wrap .i64 (n11 + 1)) s12 m14)
      ) (
        (Q (AV.int .i64 (IntKind.wrap .i64 ((IntKind.wrap .i64 ((IntKind.wrap .i64 (64 + (IntKind.wrap .i64 (32 * (IntKind.wrap .i64 (n3 - 6)))))) + (IntKind.wrap .i64 n10))) - 32))) s12)
      )
    )
  )
set_option maxRecDepth 100000 in
theorem vc.spoorref13_Index_ok {a0 : Int} {s : St} {Q : AV → St → Prop} (h : vc.spoorref13_Index a0 s Q) : CallsD P F.spoorref13_Index [.int .u64 a0] s Q :=
  fnD_ok (C := C.spoorref13_Index) hD hX rfl mixes (fi := fnI Try.f36) (by kernel_rfl) (by kernel_rfl) (cast (by kernel_rfl : vc.spoorref13_Index a0 s Q = wpC P C.spoorref13_Index 1000000 (fnI Try.f36).body ⟨PT.setAll .nil 0 [.int .u64 a0], max [.int .u64 a0].length (fnI Try.f36).nt, s, []⟩ (endW C.spoorref13_Index (fnI Try.f36).results Q)) h)
/-! ### spoor/spoorlaw15.RollupCalls -/
def C.spoorlaw15_RollupCalls : Cx := { D := D, rt := rt, its := [], lps := [(0, [65, 64, 63, 62, 61, 60, 59, 58, 57, 56, 55, 54, 53, 52, 51, 50, 49, 48, 86, 85, 84, 83, 82, 81, 80, 79, 78, 77, 76, 75, 74, 73, 8, 66, 67, 68, 69, 70, 71, 72, 12, 46, 47, 13, 42, 43, 44, 45], [12, 13]), (2, [120, 119, 118, 117, 116, 115, 114, 113, 112, 111, 110, 109, 108, 107, 106, 105, 121, 122, 123, 124, 125, 126, 127, 128, 129, 130, 131, 132, 133, 134, 135, 16, 103, 104, 17, 99, 100, 101, 102], [16, 17])] }
set_option maxRecDepth 100000 in
def vc.spoorlaw15_RollupCalls (a0 : Int) (a1 : AV) (a2 : Int) (a3 : Int) (s : St) (Q : (AV → (St → Prop))) : Prop :=
  CallsA P F.spoorlaw15_alive [] s fun x1 s2 =>
  ∃ (c3 : Bool),
  (x1 = (AV.bool c3)) ∧
  CallsA P F.rollup_New [(AV.int .i64 a0)] s2 fun x4 s5 =>
  ∃ (x6 : AV) (n7 : Int),
  (x4 = (AV.tuple [x6, (AV.int .i64 n7)])) ∧
  bsel (!c3) (
    bsel c3 (
      nilK (TD.ptr 83) x6 true fun c8 =>
      (Q (AV.bool (if (true = true) then (c8 == (n7 != 0)) else (! (c8 == (n7 != 0))))) s5)
    ) (
      (Q (AV.bool false) s5)
    )
  ) (
    bsel (n7 != 0) (
      bsel c3 (
        nilK (TD.ptr 83) x6 true fun c9 =>
        (Q (AV.bool (if (true = true) then (c9 == (n7 != 0)) else (! (c9 == (n7 != 0))))) s5)
      ) (
        (Q (AV.bool false) s5)
      )
    ) (
      nilK (TD.ptr 83) x6 true fun c10 =>
      bsel c10 (
        bsel c3 (
          nilK (TD.ptr 83) x6 true fun c11 =>
          (Q (AV.bool (if (true = true) then (c11 == (n7 != 0)) else (! (c11 == (n7 != 0))))) s5)
        ) (
          (Q (AV.bool false) s5)
        )
      ) (
        ∃ (I12 : (AV → (Int → (St → (Nat → Prop))))),
        (
          ∃ (m13 : Nat),
          (I12 AV.nilslice 0 s5 m13)
        ) ∧
        ∀ (x14 : AV) (n15 : Int) (s16 : St) (m17 : Nat),
        (I12 x14 n15 s16 m17) →
        slenK a1 fun m18 =>
        bsel (decide (n15 < ((m18 : Nat) : Int))) (
          ∀ (s19 : St),
          (Bump s16 18 s19) →
          ixsK 5 a1 n15 fun m20 m21 =>
          ∃ (n22 : Int),
          ((ld1 s19 (AV.ptr m20 m21)) = (some (AV.int .i64 n22))) ∧
          ixsK 5 a1 n15 fun m23 m24 =>
          ∃ (t25 : ByteArray) (t26 : ByteArray),
          ((ldN s19 (AV.ptr m23 (m24 + 1)) 2) = (some [(AV.str t25), (AV.str t26)])) ∧
          ixsK 5 a1 n15 fun m27 m28 =>
          ∃ (n29 : Int) (t30 : ByteArray) (t31 : ByteArray) (c32 : Bool) (n33 : Int),
          ((ldN s19 (AV.ptr m27 m28) 5) = (some [(AV.int .i64 n29), (AV.str t30), (AV.str t31), (AV.bool c32), (AV.int .u64 n33)])) ∧
          CallsD P F.spoorref14_One [(AV.agg [(AV.int .i64 n29), (AV.str t30), (AV.str t31), (AV.bool c32), (AV.int .u64 n33)])] s19 fun x34 s35 =>
          ∃ (n36 : Int) (n37 : Int) (n38 : Int) (n39 : Int) (n40 : Int) (n41 : Int) (x42 : AV),
          (x34 = (AV.agg [(AV.int .u64 n36), (AV.int .u64 n37), (AV.int .u64 n38), (AV.int .u64 n39), (AV.int .u64 n40), (AV.int .u64 n41), x42])) ∧
          ((ldN s35 (AV.ptr m23 (m24 + 1)) 2) = (some [(AV.str t25), (AV.str t26)])) ∧
          (noSym a1 (((ld1 s35 (AV.ptr m20 m21)) = (some (AV.int .i64 n22))) ∧ (noSym a1 (CallsD P F.p_rollup_Rollup_Put [x6, (AV.int .i64 n22), (AV.agg [(AV.str t25), (AV.str t26)]), (AV.agg [(AV.int .u64 n36), (AV.int .u64 n37), (AV.int .u64 n38), (AV.int .u64 n39), (AV.int .u64 n40), (AV.int .u64 n41), x42])] s35 (fun x43 => (fun s44 => (∃ n45 : Int, ((x43 = (AV.int .i64 n45)) ∧ (bsel (n45 == 0) (ixsK 5 a1 n15 (fun m46 => (fun m47 => (∃ n48 : Int, (∃ t49 : ByteArray, (∃ t50 : ByteArray, (∃ c51 : Bool, (∃ n52 : Int, (((ldN s44 (AV.ptr m46 m47) 5) = (some [(AV.int .i64 n48), (AV.str t49), (AV.str t50), (AV.bool c51), (AV.int .u64 n52)])) ∧ (∀ m53 : Nat, (∀ s54 : St, ((NewO s44 (cellsO [(AV.int .i64 n48), (AV.str t49), (AV.str t50), (AV.bool c51), (AV.int .u64 n52)]) m53 s54) → (∃ x55 : AV, (∃ s56 : St, (((appendX D s54 T.sl_api_Call T.sl_api_Call x14 (AV.slice m53 0 1 (ACap.exact 1))) = (some (x55, s56))) ∧ (∃ m57 : Nat, ((m57 < m17) ∧ (I12 x55 (IntKind.wrap .i64 (n15 + 1)) s56 m57)))))))))))))))))) (ixsK 5 a1 n15 (fun m58 => (fun m59 => (∃ n60 : Int, (((ld1 s44 (AV.ptr m58 m59)) = (some (AV.int .i64 n60))) ∧ (bsel (decide (n60 ≥ 0)) (ixsK 5 a1 n15 (fun m61 => (fun m62 => (∃ n63 : Int, (((ld1 s44 (AV.ptr m61 m62)) = (some (AV.int .i64 n63))) ∧ (bsel (decide (n63 ≤ 2097151)) (Q (AV.bool false) s44) (∃ m64 : Nat, ((m64 < m17) ∧ (I12 x14 (IntKind.wrap .i64 (n15 + 1)) s44 m64))))))))) (∃ m65 : Nat, ((m65 < m17) ∧ (I12 x14 (IntKind.wrap .i64 (n15 + 1)) s44 m65))))))))))))))))))
        ) (
          CallsA P F.p_rollup_Rollup_Range [x6, (AV.int .i64 a2), (AV.int .i64 a3)] s16 fun x66 s67 =>
          ∃ (x68 : AV) (n69 : Int),
          (x66 = (AV.tuple [x68, (AV.int .i64 n69)])) ∧
          bsel (n69 != 0) (
            slenK x68 fun m70 =>
            (Q (AV.bool (((m70 : Nat) : Int) == 0)) s67)
          ) (
            ∃ (I71 : (AV → (Int → (St → (Nat → Prop))))),
            (
              ∃ (m72 : Nat),
              (I71 AV.nilslice 0 s67 m72)
            ) ∧
            ∀ (x73 : AV) (n74 : Int) (s75 : St) (m76 : Nat),
            (I71 x73 n74 s75 m76) →
            slenK x14 fun m77 =>
            bsel (decide (n74 < ((m77 : Nat) : Int))) (
              ixsK 5 x14 n74 fun m78 m79 =>
              ∃ (n80 : Int),
              ((ld1 s75 (AV.ptr m78 m79)) = (some (AV.int .i64 n80))) ∧
              bsel (decide (n80 ≥ a2)) (
                ixsK 5 x14 n74 fun m81 m82 =>
                ∃ (n83 : Int),
                ((ld1 s75 (AV.ptr m81 m82)) = (some (AV.int .i64 n83))) ∧
                bsel (decide (n83 < a3)) (
                  ∀ (s84 : St),
                  (Bump s75 16 s84) →
                  ixsK 5 x14 n74 fun m85 m86 =>
                  ∃ (t87 : ByteArray) (t88 : ByteArray),
                  ((ldN s84 (AV.ptr m85 (m86 + 1)) 2) = (some [(AV.str t87), (AV.str t88)])) ∧
                  ixsK 5 x14 n74 fun m89 m90 =>
                  ∃ (n91 : Int) (t92 : ByteArray) (t93 : ByteArray) (c94 : Bool) (n95 : Int),
                  ((ldN s84 (AV.ptr m89 m90) 5) = (some [(AV.int .i64 n91), (AV.str t92), (AV.str t93), (AV.bool c94), (AV.int .u64 n95)])) ∧
                  CallsD P F.spoorref14_One [(AV.agg [(AV.int .i64 n91), (AV.str t92), (AV.str t93), (AV.bool c94), (AV.int .u64 n95)])] s84 fun x96 s97 =>
                  ∃ (n98 : Int) (n99 : Int) (n100 : Int) (n101 : Int) (n102 : Int) (n103 : Int) (x104 : AV),
                  (x96 = (AV.agg [(AV.int .u64 n98), (AV.int .u64 n99), (AV.int .u64 n100), (AV.int .u64 n101), (AV.int .u64 n102), (AV.int .u64 n103), x104])) ∧
                  ((ldN s97 (AV.ptr m85 (m86 + 1)) 2) = (some [(AV.str t87), (AV.str t88)])) ∧
                  (noSym x14 (∃ x105 : AV, (∃ s106 : St, (((appendX D (hsetS (hsetS s97 ((St.nx s75) + 13) (cellsO [(AV.slice ((St.nx s75) + 12) 0 1 (ACap.exact 1))])) ((St.nx s75) + 12) (cellsO [(AV.str t87), (AV.str t88), (AV.int .u64 n98), (AV.int .u64 n99), (AV.int .u64 n100), (AV.int .u64 n101), (AV.int .u64 n102), (AV.int .u64 n103), x104])) T.sl_sl_api_EdgeTally T.sl_sl_api_EdgeTally x73 (AV.slice ((St.nx s75) + 13) 0 1 (ACap.exact 1))) = (some (x105, s106))) ∧ (∃ m107 : Nat, ((m107 < m76) ∧ (I71 x105 (IntKind.wrap .i64 (n74 + 1)) s106 m107)))))))
                ) (
                  ∃ (m108 : Nat),
                  (m108 < m76) ∧
                  (I71 x73 (IntKind.wrap .i64 (n74 + 1)) s75 m108)
                )
              ) (
                ∃ (m109 : Nat),
                (m109 < m76) ∧
                (I71 x73 (IntKind.wrap .i64 (n74 + 1)) s75 m109)
              )
            ) (
              CallsA P F.spoorref15_Sum [x73] s75 fun x110 s111 =>
              ∃ (x112 : AV),
              (x110 = x112) ∧
              CallsA P F.spoorref15_SameEdges [x112, x68] s111 fun x113 s114 =>
              ∃ (c115 : Bool),
              (x113 = (AV.bool c115)) ∧
              (Q (AV.bool c115) s114)
            )
          )
        )
      )
    )
  )
set_option maxRecDepth 100000 in
theorem vc.spoorlaw15_RollupCalls_ok {a0 : Int} {a1 : AV} {a2 : Int} {a3 : Int} {s : St} {Q : AV → St → Prop} (h : vc.spoorlaw15_RollupCalls a0 a1 a2 a3 s Q) : CallsA P F.spoorlaw15_RollupCalls [.int .i64 a0, a1, .int .i64 a2, .int .i64 a3] s Q :=
  fnB_ok (C := C.spoorlaw15_RollupCalls) hD hX mixes (fi := fnI Try.f5) (by kernel_rfl) (by kernel_rfl) (cast (by kernel_rfl : vc.spoorlaw15_RollupCalls a0 a1 a2 a3 s Q = wpC P C.spoorlaw15_RollupCalls 1000000 (fnI Try.f5).body ⟨PT.setAll .nil 0 [.int .i64 a0, a1, .int .i64 a2, .int .i64 a3], max [.int .i64 a0, a1, .int .i64 a2, .int .i64 a3].length (fnI Try.f5).nt, s, []⟩ (endW C.spoorlaw15_RollupCalls (fnI Try.f5).results Q)) h)
end
end Go.Eng.S

