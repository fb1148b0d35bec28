/-
  What is to be shown of functions of the program, and that it suffices.
-/
import Derived.Test.YteidlkjofcbcmaaSDefs
namespace Go.Eng.S
open Go Go.Eng Go.Proofs
noncomputable section
/-! ### (*spoor/rollup.Rollup).wide -/
def C.p_rollup_Rollup_wide : Cx := { D := D, rt := rt, its := [], lps := [(0, [10, 20, 6, 19, 18, 17, 16, 15, 14, 5, 4, 12, 13, 11], [6, 10])], det := true }
set_option maxRecDepth 100000 in
def vc.p_rollup_Rollup_wide (a0 : AV) (a1 : Int) (s : St) (Q : (AV → (St → Prop))) : Prop :=
  bsel (decide (a1 < 0)) (
    (Q (AV.tuple [(AV.int .i64 0), (AV.bool false)]) s)
  ) (
    ∃ (I1 : (Int → (Int → (St → (Nat → Prop))))),
    (
      ∃ (m2 : Nat),
      (I1 1 0 s m2)
    ) ∧
    ∀ (n3 : Int) (n4 : Int) (s5 : St) (m6 : Nat),
    (I1 n3 n4 s5 m6) →
    bsel (decide (n4 < a1)) (
      bsel (decide (n3 ≥ 2097152)) (
        (Q (AV.tuple [(AV.int .i64 0), (AV.bool false)]) s5)
      ) (
        ptrK a0 0 fun m7 m8 =>
        ∃ (n9 : Int),
        ((ld1 s5 (AV.ptr m7 m8)) = (some (AV.int .i64 n9))) ∧
        ∃ (m10 : Nat),
        (m10 < m6) ∧
        (I1 (IntKind.wrap .i64 (n3 * n9)) (IntKind.wrap .i64 (n4 + 1)) s5 m10)
      )
    ) (
      (Q (AV.tuple [(AV.int .i64 n3), (AV.bool true)]) s5)
    )
  )
set_option maxRecDepth 100000 in
theorem vc.p_rollup_Rollup_wide_ok {a0 : AV} {a1 : Int} {s : St} {Q : AV → St → Prop} (h : vc.p_rollup_Rollup_wide a0 a1 s Q) : CallsD P F.p_rollup_Rollup_wide [a0, .int .i64 a1] s Q :=
  fnD_ok (C := C.p_rollup_Rollup_wide) hD hX rfl mixes (fi := fnI Try.f30) (by kernel_rfl) (by kernel_rfl) (cast (by kernel_rfl : vc.p_rollup_Rollup_wide a0 a1 s Q = wpC P C.p_rollup_Rollup_wide 1000000 (fnI Try.f30).body ⟨PT.setAll .nil 0 [a0, .int .i64 a1], max [a0, .int .i64 a1].length (fnI Try.f30).nt, s, []⟩ (endW C.p_rollup_Rollup_wide (fnI Try.f30).results Q)) h)
/-! ### (*spoor/rollup.Rollup).window -/
def C.p_rollup_Rollup_window : Cx := { D := D, rt := rt, its := [], lps := [] }
set_option maxRecDepth 100000 in
def vc.p_rollup_Rollup_window (a0 : AV) (a1 : Int) (a2 : Int) (s : St) (Q : (AV → (St → Prop))) : Prop :=
  ∀ (m1 : Nat) (s2 : St),
  (NewO s (cellsO [(AV.int .i64 0), (AV.int .i64 0), AV.nilslice]) m1 s2) →
  CallsA P F.p_rollup_Rollup_sum [a0, (AV.int .i64 a1), (AV.int .i64 (IntKind.wrap .i64 (a1 + a2)))] s2 fun x3 s4 =>
  ∃ (x5 : AV),
  (x3 = x5) ∧
  (oneK x5 (∃ s6 : St, (((wrN s4 (AV.ptr m1 0) [(AV.int .i64 a1), (AV.int .i64 a2), x5]) = (some s6)) ∧ (∃ n7 : Int, (∃ n8 : Int, (∃ x9 : AV, (((ldN s6 (AV.ptr m1 0) 3) = (some [(AV.int .i64 n7), (AV.int .i64 n8), x9])) ∧ (Q (AV.agg [(AV.int .i64 n7), (AV.int .i64 n8), x9]) s6))))))))
set_option maxRecDepth 100000 in
theorem vc.p_rollup_Rollup_window_ok {a0 : AV} {a1 : Int} {a2 : Int} {s : St} {Q : AV → St → Prop} (h : vc.p_rollup_Rollup_window a0 a1 a2 s Q) : CallsA P F.p_rollup_Rollup_window [a0, .int .i64 a1, .int .i64 a2] s Q :=
  fnB_ok (C := C.p_rollup_Rollup_window) hD hX mixes (fi := fnI Try.f31) (by kernel_rfl) (by kernel_rfl) (cast (by kernel_rfl : vc.p_rollup_Rollup_window a0 a1 a2 s Q = wpC P C.p_rollup_Rollup_window 1000000 (fnI Try.f31).body ⟨PT.setAll .nil 0 [a0, .int .i64 a1, .int .i64 a2], max [a0, .int .i64 a1, .int .i64 a2].length (fnI Try.f31).nt, s, []⟩ (endW C.p_rollup_Rollup_window (fnI Try.f31).results Q)) h)
/-! ### (*spoor/rollup.Rollup).Cover -/
def C.p_rollup_Rollup_Cover : Cx := { D := D, rt := rt, its := [], lps := [(0, [9, 8, 57, 56, 55, 54, 53, 52, 51, 58, 59, 60, 1, 12, 11, 34, 33, 29, 32, 31, 30, 50, 35, 36, 37, 38, 39, 40, 41, 42, 43, 44, 45, 46, 47, 48, 49, 27, 28, 10, 24, 25, 26], [1, 8]), (2, [10, 28, 27, 49, 48, 47, 46, 45, 44, 43, 42, 41, 40, 39, 38, 37, 36, 35, 50, 9, 30, 31, 32, 29, 33, 34, 11, 12], [9, 10])] }
set_option maxRecDepth 100000 in
def vc.p_rollup_Rollup_Cover (a0 : AV) (a1 : Int) (a2 : Int) (s : St) (Q : (AV → (St → Prop))) : Prop :=
  bsel (decide (a1 < 0)) (
    (Q (AV.tuple [AV.nilslice, (AV.int .i64 151)]) s)
  ) (
    bsel (decide (a1 > a2)) (
      (Q (AV.tuple [AV.nilslice, (AV.int .i64 151)]) s)
    ) (
      bsel (decide (a2 > 2097152)) (
        (Q (AV.tuple [AV.nilslice, (AV.int .i64 151)]) s)
      ) (
        ∃ (I1 : (Int → (AV → (St → (Nat → Prop))))),
        (
          ∃ (m2 : Nat),
          (I1 a1 AV.nilslice s m2)
        ) ∧
        ∀ (n3 : Int) (x4 : AV) (s5 : St) (m6 : Nat),
        (I1 n3 x4 s5 m6) →
        bsel (decide (n3 < a2)) (
          ∃ (I7 : (Int → (Int → (St → (Nat → Prop))))),
          (
            ∃ (m8 : Nat),
            (I7 1 1 s5 m8)
          ) ∧
          ∀ (n9 : Int) (n10 : Int) (s11 : St) (m12 : Nat),
          (I7 n9 n10 s11 m12) →
          CallsA P F.p_rollup_Rollup_wide [a0, (AV.int .i64 n10)] s11 fun x13 s14 =>
          ∃ (n15 : Int) (c16 : Bool),
          (x13 = (AV.tuple [(AV.int .i64 n15), (AV.bool c16)])) ∧
          bsel (!c16) (
            CallsA P F.p_rollup_Rollup_window [a0, (AV.int .i64 n3), (AV.int .i64 n9)] s14 fun x17 s18 =>
            ∃ (n19 : Int) (n20 : Int) (x21 : AV),
            (x17 = (AV.agg [(AV.int .i64 n19), (AV.int .i64 n20), x21])) ∧
            ∀ (m22 : Nat) (s23 : St),
            (NewO s18 (cellsO [(AV.int .i64 n19), (AV.int .i64 n20), x21]) m22 s23) →
            ∃ (x24 : AV) (s25 : St),
            ((appendX D s23 T.sl_api_Window T.sl_api_Window x4 (AV.slice m22 0 1 (ACap.exact 1))) = (some (x24, s25))) ∧
            ∃ (m26 : Nat),
            (m26 < m6) ∧
            (I1 (IntKind.wrap .i64 (n3 + n9)) x24 s25 m26)
          ) (
            ((n15 : Int) ≠ 0) ∧
            bsel ((Int.tmod n3 n15) != 0) (
              CallsA P F.p_rollup_Rollup_window [a0, (AV.int .i64 n3), (AV.int .i64 n9)] s14 fun x27 s28 =>
              ∃ (n29 : Int) (n30 : Int) (x31 : AV),
              (x27 = (AV.agg [(AV.int .i64 n29), (AV.int .i64 n30), x31])) ∧
              ∀ (m32 : Nat) (s33 : St),
              (NewO s28 (cellsO [(AV.int .i64 n29), (AV.int .i64 n30), x31]) m32 s33) →
              ∃ (x34 : AV) (s35 : St),
              ((appendX D s33 T.sl_api_Window T.sl_api_Window x4 (AV.slice m32 0 1 (ACap.exact 1))) = (some (x34, s35))) ∧
              ∃ (m36 : Nat),
              (m36 < m6) ∧
              (I1 (IntKind.wrap .i64 (n3 + n9)) x34 s35 m36)
            ) (
              bsel (decide ((IntKind.wrap .i64 (n3 + n15)) > a2)) (
                CallsA P F.p_rollup_Rollup_window [a0, (AV.int .i64 n3), (AV.int .i64 n9)] s14 fun x37 s38 =>
                ∃ (n39 : Int) (n40 : Int) (x41 : AV),
                (x37 = (AV.agg [(AV.int .i64 n39), (AV.int .i64 n40), x41])) ∧
                ∀ (m42 : Nat) (s43 : St),
                (NewO s38 (cellsO [(AV.int .i64 n39), (AV.int .i64 n40), x41]) m42 s43) →
                ∃ (x44 : AV) (s45 : St),
                ((appendX D s43 T.sl_api_Window T.sl_api_Window x4 (AV.slice m42 0 1 (ACap.exact 1))) = (some (x44, s45))) ∧
                ∃ (m46 : Nat),
                (m46 < m6) ∧
                (I1 (IntKind.wrap .i64 (n3 + n9)) x44 s45 m46)
              ) (
                ∃ (m47 : Nat),
                (m47 < m12) ∧
                (I7 n15 (IntKind.wrap .i64 (n10 + 1)) s14 m47)
              )
            )
          )
        ) (
          (Q (AV.tuple [x4, (AV.int .i64 0)]) s5)
        )
      )
    )
  )
set_option maxRecDepth 100000 in
theorem vc.p_rollup_Rollup_Cover_ok {a0 : AV} {a1 : Int} {a2 : Int} {s : St} {Q : AV → St → Prop} (h : vc.p_rollup_Rollup_Cover a0 a1 a2 s Q) : CallsA P F.p_rollup_Rollup_Cover [a0, .int .i64 a1, .int .i64 a2] s Q :=
  fnB_ok (C := C.p_rollup_Rollup_Cover) hD hX mixes (fi := fnI Try.f12) (by kernel_rfl) (by kernel_rfl) (cast (by kernel_rfl : vc.p_rollup_Rollup_Cover a0 a1 a2 s Q = wpC P C.p_rollup_Rollup_Cover 1000000 (fnI Try.f12).body ⟨PT.setAll .nil 0 [a0, .int .i64 a1, .int .i64 a2], max [a0, .int .i64 a1, .int .i64 a2].length (fnI Try.f12).nt, s, []⟩ (endW C.p_rollup_Rollup_Cover (fnI Try.f12).results Q)) h)
/-! ### spoor/spoorlaw15.RollupCover -/
def C.spoorlaw15_RollupCover : Cx := { D := D, rt := rt, its := [], lps := [(0, [136, 135, 134, 133, 132, 131, 130, 129, 128, 127, 126, 125, 124, 123, 122, 121, 120, 119, 118, 117, 116, 115, 114, 113, 112, 111, 110, 109, 108, 107, 106, 105, 104, 103, 102, 101, 100, 99, 98, 97, 96, 95, 94, 93, 10, 17, 151, 150, 149, 148, 147, 146, 145, 144, 137, 138, 139, 140, 141, 142, 143, 18, 91, 92, 19, 87, 88, 89, 90], [17, 18, 19])] }
set_option maxRecDepth 100000 in
def vc.spoorlaw15_RollupCover (a0 : Int) (a1 : AV) (a2 : Int) (a3 : Int) (a4 : Int) (s : St) (Q : (AV → (St → Prop))) : Prop :=
  CallsA P F.spoorlaw15_alive [] s fun x1 s2 =>
  ∃ (c3 : Bool),
  (x1 = (AV.bool c3)) ∧
  CallsA P F.spoorlaw15_filled [(AV.int .i64 a0), a1] s2 fun x4 s5 =>
  ∃ (x6 : AV),
  (x4 = x6) ∧
  bsel (!c3) (
    bsel c3 (
      bsel (decide (a0 < 2)) (
        (Q (AV.bool true) s5)
      ) (
        (Q (AV.bool (decide (a0 > 16))) s5)
      )
    ) (
      (Q (AV.bool false) s5)
    )
  ) (
    nilK (TD.ptr 83) x6 true fun c7 =>
    bsel c7 (
      bsel c3 (
        bsel (decide (a0 < 2)) (
          (Q (AV.bool true) s5)
        ) (
          (Q (AV.bool (decide (a0 > 16))) s5)
        )
      ) (
        (Q (AV.bool false) s5)
      )
    ) (
      CallsA P F.p_rollup_Rollup_Range [x6, (AV.int .i64 a2), (AV.int .i64 a3)] s5 fun x8 s9 =>
      ∃ (x10 : AV) (n11 : Int),
      (x8 = (AV.tuple [x10, (AV.int .i64 n11)])) ∧
      CallsA P F.p_rollup_Rollup_Cover [x6, (AV.int .i64 a2), (AV.int .i64 a3)] s9 fun x12 s13 =>
      ∃ (x14 : AV) (n15 : Int),
      (x12 = (AV.tuple [x14, (AV.int .i64 n15)])) ∧
      bsel (n11 != n15) (
        bsel (n11 == n15) (
          slenK x10 fun m16 =>
          bsel (((m16 : Nat) : Int) == 0) (
            slenK x14 fun m17 =>
            bsel (((m17 : Nat) : Int) == 0) (
              bsel (decide (a2 < 0)) (
                (Q (AV.bool true) s13)
              ) (
                bsel (decide (a3 < a2)) (
                  (Q (AV.bool true) s13)
                ) (
                  (Q (AV.bool (decide (a3 > 2097152))) s13)
                )
              )
            ) (
              (Q (AV.bool false) s13)
            )
          ) (
            (Q (AV.bool false) s13)
          )
        ) (
          (Q (AV.bool false) s13)
        )
      ) (
        bsel (n11 != 0) (
          bsel (n11 == n15) (
            slenK x10 fun m18 =>
            bsel (((m18 : Nat) : Int) == 0) (
              slenK x14 fun m19 =>
              bsel (((m19 : Nat) : Int) == 0) (
                bsel (decide (a2 < 0)) (
                  (Q (AV.bool true) s13)
                ) (
                  bsel (decide (a3 < a2)) (
                    (Q (AV.bool true) s13)
                  ) (
                    (Q (AV.bool (decide (a3 > 2097152))) s13)
                  )
                )
              ) (
                (Q (AV.bool false) s13)
              )
            ) (
              (Q (AV.bool false) s13)
            )
          ) (
            (Q (AV.bool false) s13)
          )
        ) (
          ∃ (I20 : (AV → (Int → (Int → (St → (Nat → Prop)))))),
          (
            ∃ (m21 : Nat),
            (I20 AV.nilslice a2 0 s13 m21)
          ) ∧
          ∀ (x22 : AV) (n23 : Int) (n24 : Int) (s25 : St) (m26 : Nat),
          (I20 x22 n23 n24 s25 m26) →
          slenK x14 fun m27 =>
          bsel (decide (n24 < ((m27 : Nat) : Int))) (
            ∀ (s28 : St),
            (Bump s25 44 s28) →
            ixsK 3 x14 n24 fun m29 m30 =>
            ∃ (n31 : Int),
            ((ld1 s28 (AV.ptr m29 m30)) = (some (AV.int .i64 n31))) ∧
            bsel (n31 != n23) (
              (Q (AV.bool false) s28)
            ) (
              ixsK 3 x14 n24 fun m32 m33 =>
              ∃ (n34 : Int),
              ((ld1 s28 (AV.ptr m32 (m33 + 1))) = (some (AV.int .i64 n34))) ∧
              bsel (decide (n34 < 1)) (
                (Q (AV.bool false) s28)
              ) (
                ixsK 3 x14 n24 fun m35 m36 =>
                ∃ (n37 : Int),
                ((ld1 s28 (AV.ptr m35 (m36 + 1))) = (some (AV.int .i64 n37))) ∧
                ((n37 : Int) ≠ 0) ∧
                bsel ((Int.tmod n23 n37) != 0) (
                  (Q (AV.bool false) s28)
                ) (
                  ixsK 3 x14 n24 fun m38 m39 =>
                  ∃ (x40 : AV),
                  ((ld1 s28 (AV.ptr m38 (m39 + 2))) = (some x40)) ∧
                  ixsK 3 x14 n24 fun m41 m42 =>
                  ∃ (n43 : Int),
                  ((ld1 s28 (AV.ptr m41 (m42 + 1))) = (some (AV.int .i64 n43))) ∧
                  CallsD P F.spoorlaw15_edges [x6, (AV.int .i64 n23), (AV.int .i64 (IntKind.wrap .i64 (n23 + n43)))] s28 fun x44 s45 =>
                  ∃ (x46 : AV),
                  (x44 = x46) ∧
                  ((ld1 s45 (AV.ptr m38 (m39 + 2))) = (some x40)) ∧
                  (noSym x14 (CallsD P F.spoorref15_SameEdges [x40, x46] s45 (fun x47 => (fun s48 => (∃ c49 : Bool, ((x47 = (AV.bool c49)) ∧ (bsel (!c49) (Q (AV.bool false) s48) (ixsK 3 x14 n24 (fun m50 => (fun m51 => (∃ n52 : Int, (((ld1 s48 (AV.ptr m50 (m51 + 1))) = (some (AV.int .i64 n52))) ∧ (ixsK 3 x14 n24 (fun m53 => (fun m54 => (∃ x55 : AV, (((ld1 s48 (AV.ptr m53 (m54 + 2))) = (some x55)) ∧ (oneK x55 (∀ m56 : Nat, (∀ s57 : St, ((NewO s48 (cellsO [x55]) m56 s57) → (∃ x58 : AV, (∃ s59 : St, (((appendX D s57 T.sl_sl_api_EdgeTally T.sl_sl_api_EdgeTally x22 (AV.slice m56 0 1 (ACap.exact 1))) = (some (x58, s59))) ∧ (∃ m60 : Nat, ((m60 < m26) ∧ (I20 x58 (IntKind.wrap .i64 (n23 + n52)) (IntKind.wrap .i64 (n24 + 1)) s59 m60)))))))))))))))))))))))))))
                )
              )
            )
          ) (
            bsel (n23 != a3) (
              (Q (AV.bool false) s25)
            ) (
              CallsA P F.spoorref15_Sum [x22] s25 fun x61 s62 =>
              ∃ (x63 : AV),
              (x61 = x63) ∧
              CallsA P F.spoorref15_SameEdges [x63, x10] s62 fun x64 s65 =>
              ∃ (c66 : Bool),
              (x64 = (AV.bool c66)) ∧
              bsel (!c66) (
                (Q (AV.bool false) s65)
              ) (
                bsel (decide (a4 < a2)) (
                  CallsA P F.spoorlaw15_edges [x6, (AV.int .i64 a2), (AV.int .i64 a2)] s65 fun x67 s68 =>
                  ∃ (x69 : AV),
                  (x67 = x69) ∧
                  CallsA P F.spoorlaw15_edges [x6, (AV.int .i64 a2), (AV.int .i64 a3)] s68 fun x70 s71 =>
                  ∃ (x72 : AV),
                  (x70 = x72) ∧
                  (oneK x69 (oneK x72 (∀ m73 : Nat, (∀ s74 : St, ((NewO s71 (cellsO [x69, x72]) m73 s74) → (CallsA P F.spoorref15_Sum [(AV.slice m73 0 2 (ACap.exact 2))] s74 (fun x75 => (fun s76 => (∃ x77 : AV, ((x75 = x77) ∧ (CallsA P F.spoorref15_SameEdges [x77, x10] s76 (fun x78 => (fun s79 => (∃ c80 : Bool, ((x78 = (AV.bool c80)) ∧ (Q (AV.bool c80) s79))))))))))))))))
                ) (
                  bsel (decide (a4 > a3)) (
                    CallsA P F.spoorlaw15_edges [x6, (AV.int .i64 a2), (AV.int .i64 a2)] s65 fun x81 s82 =>
                    ∃ (x83 : AV),
                    (x81 = x83) ∧
                    CallsA P F.spoorlaw15_edges [x6, (AV.int .i64 a2), (AV.int .i64 a3)] s82 fun x84 s85 =>
                    ∃ (x86 : AV),
                    (x84 = x86) ∧
                    (oneK x83 (oneK x86 (∀ m87 : Nat, (∀ s88 : St, ((NewO s85 (cellsO [x83, x86]) m87 s88) → (CallsA P F.spoorref15_Sum [(AV.slice m87 0 2 (ACap.exact 2))] s88 (fun x89 => (fun s90 => (∃ x91 : AV, ((x89 = x91) ∧ (CallsA P F.spoorref15_SameEdges [x91, x10] s90 (fun x92 => (fun s93 => (∃ c94 : Bool, ((x92 = (AV.bool c94)) ∧ (Q (AV.bool c94) s93))))))))))))))))
                  ) (
                    CallsA P F.spoorlaw15_edges [x6, (AV.int .i64 a2), (AV.int .i64 a4)] s65 fun x95 s96 =>
                    ∃ (x97 : AV),
                    (x95 = x97) ∧
                    CallsA P F.spoorlaw15_edges [x6, (AV.int .i64 a4), (AV.int .i64 a3)] s96 fun x98 s99 =>
                    ∃ (x100 : AV),
                    (x98 = x100) ∧
                    (oneK x97 (oneK x100 (∀ m101 : Nat, (∀ s102 : St, ((NewO s99 (cellsO [x97, x100]) m101 s102) → (CallsA P F.spoorref15_Sum [(AV.slice m101 0 2 (ACap.exact 2))] s102 (fun x103 => (fun s104 => (∃ x105 : AV, ((x103 = x105) ∧ (CallsA P F.spoorref15_SameEdges [x105, x10] s104 (fun x106 => (fun s107 => (∃ c108 : Bool, ((x106 = (AV.bool c108)) ∧ (Q (AV.bool c108) s107))))))))))))))))
                  )
                )
              )
            )
          )
        )
      )
    )
  )
set_option maxRecDepth 100000 in
theorem vc.spoorlaw15_RollupCover_ok {a0 : Int} {a1 : AV} {a2 : Int} {a3 : Int} {a4 : Int} {s : St} {Q : AV → St → Prop} (h : vc.spoorlaw15_RollupCover a0 a1 a2 a3 a4 s Q) : CallsA P F.spoorlaw15_RollupCover [.int .i64 a0, a1, .int .i64 a2, .int .i64 a3, .int .i64 a4] s Q :=
  fnB_ok (C := C.spoorlaw15_RollupCover) hD hX mixes (fi := fnI Try.f3) (by kernel_rfl) (by kernel_rfl) (cast (by kernel_rfl : vc.spoorlaw15_RollupCover a0 a1 a2 a3 a4 s Q = wpC P C.spoorlaw15_RollupCover 1000000 (fnI Try.f3).body ⟨PT.setAll .nil 0 [.int .i64 a0, a1, .int .i64 a2, .int .i64 a3, .int .i64 a4], max [.int .i64 a0, a1, .int .i64 a2, .int .i64 a3, .int .i64 a4].length (fnI Try.f3).nt, s, []⟩ (endW C.spoorlaw15_RollupCover (fnI Try.f3).results Q)) h)
end
end Go.Eng.S

