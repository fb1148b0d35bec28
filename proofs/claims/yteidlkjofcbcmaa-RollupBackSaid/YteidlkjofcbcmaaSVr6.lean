/-
  What is to be shown of functions of the program, and that it suffices.
-/
import Derived.Test.YteidlkjofcbcmaaSDefs
namespace Go.Eng.S
open Go Go.Eng Go.Proofs
noncomputable section
/-! ### spoor/spoorlaw15.room -/
def C.spoorlaw15_room : Cx := { D := D, rt := rt, its := [], lps := [(0, [4, 16, 15, 14, 13, 12, 5, 46, 45, 44, 43, 42, 41, 40, 38, 39, 33, 34, 35, 36, 37, 2, 17, 18, 19, 20, 21, 22, 23, 24, 25, 26, 27, 28, 29, 30, 31, 32, 10, 11, 3, 6, 7, 8, 9], [3]), (2, [46, 45, 44, 43, 42, 41, 40, 2, 38, 39, 5, 33, 34, 35, 36, 37], [5])], det := true }
set_option maxRecDepth 100000 in
def vc.spoorlaw15_room (a0 : AV) (s : St) (Q : (AV → (St → Prop))) : Prop :=
  ∃ (I1 : (Int → (St → (Nat → Prop)))),
  (
    ∃ (m2 : Nat),
    (I1 0 s m2)
  ) ∧
  ∀ (n3 : Int) (s4 : St) (m5 : Nat),
  (I1 n3 s4 m5) →
  slenK a0 fun m6 =>
  bsel (decide (n3 < ((m6 : Nat) : Int))) (
    ixsK 10 a0 n3 fun m7 m8 =>
    ∃ (n9 : Int) (n10 : Int) (n11 : Int) (n12 : Int) (n13 : Int) (n14 : Int) (x15 : AV),
    ((ldN s4 (AV.ptr m7 (m8 + 3)) 7) = (some [(AV.int .u64 n9), (AV.int .u64 n10), (AV.int .u64 n11), (AV.int .u64 n12), (AV.int .u64 n13), (AV.int .u64 n14), x15])) ∧
    ∀ (m16 : Nat) (s17 : St),
    (NewO s4 (cellsO [(AV.int .u64 0), (AV.int .u64 0), (AV.int .u64 0), (AV.int .u64 0), (AV.int .u64 0), (AV.int .u64 0), AV.nilslice]) m16 s17) →
    ∃ (s18 : St),
    ((wrN s17 (AV.ptr m16 0) [(AV.int .u64 n9), (AV.int .u64 n10), (AV.int .u64 n11), (AV.int .u64 n12), (AV.int .u64 n13), (AV.int .u64 n14), x15]) = (some s18)) ∧
    ∃ (n19 : Int),
    ((ld1 s18 (AV.ptr m16 0)) = (some (AV.int .u64 n19))) ∧
    bsel (decide (n19 > 4294967296)) (
      (Q (AV.bool false) s18)
    ) (
      ∃ (n20 : Int),
      ((ld1 s18 (AV.ptr m16 2)) = (some (AV.int .u64 n20))) ∧
      bsel (decide (n20 > 4294967296)) (
        (Q (AV.bool false) s18)
      ) (
        ∃ (n21 : Int),
        ((ld1 s18 (AV.ptr m16 4)) = (some (AV.int .u64 n21))) ∧
        bsel (decide (n21 > 4294967296)) (
          (Q (AV.bool false) s18)
        ) (
          ∃ (I22 : (Int → (St → (Nat → Prop)))),
          (
            ∃ (m23 : Nat),
            (I22 0 s18 m23)
          ) ∧
          ∀ (n24 : Int) (s25 : St) (m26 : Nat),
          (I22 n24 s25 m26) →
          ∃ (x27 : AV),
          ((ld1 s25 (AV.ptr m16 6)) = (some x27)) ∧
          slenK x27 fun m28 =>
          bsel (decide (n24 < ((m28 : Nat) : Int))) (
            ∃ (x29 : AV),
            ((ld1 s25 (AV.ptr m16 6)) = (some x29)) ∧
            ixsK 2 x29 n24 fun m30 m31 =>
            ∃ (n32 : Int),
            ((ld1 s25 (AV.ptr m30 (m31 + 1))) = (some (AV.int .u64 n32))) ∧
            bsel (decide (n32 > 1099511627776)) (
              (Q (AV.bool false) s25)
            ) (
              ∃ (m33 : Nat),
              (m33 < m26) ∧
              (I22 (IntKind.wrap .i64 (n24 + 1)) s25 m33)
            )
          ) (
            ∃ (m34 : Nat),
            (m34 < m5) ∧
            (I1 (IntKind.wrap .i64 (n3 + 1)) s25 m34)
          )
        )
      )
    )
  ) (
    slenK a0 fun m35 =>
    (Q (AV.bool (decide (((m35 : Nat) : Int) < 1048576))) s4)
  )
set_option maxRecDepth 100000 in
theorem vc.spoorlaw15_room_ok {a0 : AV} {s : St} {Q : AV → St → Prop} (h : vc.spoorlaw15_room a0 s Q) : CallsD P F.spoorlaw15_room [a0] s Q :=
  fnD_ok (C := C.spoorlaw15_room) hD hX rfl mixes (fi := fnI Try.f16) (by kernel_rfl) (by kernel_rfl) (cast (by kernel_rfl : vc.spoorlaw15_room a0 s Q = wpC P C.spoorlaw15_room 1000000 (fnI Try.f16).body ⟨PT.setAll .nil 0 [a0], max [a0].length (fnI Try.f16).nt, s, []⟩ (endW C.spoorlaw15_room (fnI Try.f16).results Q)) h)
/-! ### spoor/spoorlaw15.RollupBack -/
def C.spoorlaw15_RollupBack : Cx := { D := D, rt := rt, its := [], lps := [(0, [14, 77, 76, 75, 74, 73, 72, 71, 70, 69, 68, 67, 66, 65, 64, 63, 62, 61, 12, 86, 85, 84, 83, 82, 81, 80, 78, 79, 59, 60, 13, 55, 56, 57, 58], [12, 13]), (2, [16, 106, 105, 104, 103, 102, 101, 100, 99, 98, 97, 96, 95, 94, 113, 112, 6, 114, 115, 116, 117, 118, 119, 120, 121, 122, 123, 124, 125, 126, 127, 128, 129, 130, 131, 132, 133, 134, 135, 136, 137, 138, 139, 140, 141, 142, 143, 144, 145, 107, 108, 109, 110, 111, 17, 92, 93, 15, 90, 91], [15]), (4, [169, 168, 167, 166, 165, 164, 163, 162, 161, 160, 159, 158, 157, 156, 155, 154, 153, 152, 6, 150, 151, 18, 146, 147, 148, 149], [18])] }
set_option maxRecDepth 100000 in
def vc.spoorlaw15_RollupBack (a0 : Int) (a1 : AV) (a2 : AV) (s : St) (Q : (AV → (St → Prop))) : Prop :=
  CallsA P F.spoorlaw15_alive [] s fun x1 s2 =>
  ∃ (c3 : Bool),
  (x1 = (AV.bool c3)) ∧
  CallsA P F.spoorlaw15_filled [(AV.int .i64 a0), a1] s2 fun x4 s5 =>
  ∃ (x6 : AV),
  (x4 = x6) ∧
  bsel (!c3) (
    bsel c3 (
      bsel (decide (a0 < 2)) (
        (Q (AV.bool true) s5)
      ) (
        (Q (AV.bool (decide (a0 > 16))) s5)
      )
    ) (
      (Q (AV.bool false) s5)
    )
  ) (
    nilK (TD.ptr 83) x6 true fun c7 =>
    bsel c7 (
      bsel c3 (
        bsel (decide (a0 < 2)) (
          (Q (AV.bool true) s5)
        ) (
          (Q (AV.bool (decide (a0 > 16))) s5)
        )
      ) (
        (Q (AV.bool false) s5)
      )
    ) (
      CallsA P F.spoorlaw15_room [a1] s5 fun x8 s9 =>
      ∃ (c10 : Bool),
      (x8 = (AV.bool c10)) ∧
      bsel (!c10) (
        (Q (AV.bool true) s9)
      ) (
        CallsA P F.spoorlaw15_room [a2] s9 fun x11 s12 =>
        ∃ (c13 : Bool),
        (x11 = (AV.bool c13)) ∧
        bsel (!c13) (
          (Q (AV.bool true) s12)
        ) (
          CallsA P F.spoorlaw15_edges [x6, (AV.int .i64 0), (AV.int .i64 2097152)] s12 fun x14 s15 =>
          ∃ (x16 : AV),
          (x14 = x16) ∧
          CallsA P F.p_rollup_Rollup_Hours [x6] s15 fun x17 s18 =>
          ∃ (n19 : Int) (n20 : Int),
          (x17 = (AV.tuple [(AV.int .i64 n19), (AV.int .i64 n20)])) ∧
          ∃ (I21 : (AV → (Int → (St → (Nat → Prop))))),
          (
            ∃ (m22 : Nat),
            (I21 AV.nilslice 0 s18 m22)
          ) ∧
          ∀ (x23 : AV) (n24 : Int) (s25 : St) (m26 : Nat),
          (I21 x23 n24 s25 m26) →
          slenK a2 fun m27 =>
          bsel (decide (n24 < ((m27 : Nat) : Int))) (
            ∀ (s28 : St),
            (Bump s25 18 s28) →
            ixsK 10 a2 n24 fun m29 m30 =>
            ∃ (n31 : Int),
            ((ld1 s28 (AV.ptr m29 m30)) = (some (AV.int .i64 n31))) ∧
            ixsK 10 a2 n24 fun m32 m33 =>
            ∃ (t34 : ByteArray) (t35 : ByteArray),
            ((ldN s28 (AV.ptr m32 (m33 + 1)) 2) = (some [(AV.str t34), (AV.str t35)])) ∧
            ixsK 10 a2 n24 fun m36 m37 =>
            ∃ (n38 : Int) (n39 : Int) (n40 : Int) (n41 : Int) (n42 : Int) (n43 : Int) (x44 : AV),
            ((ldN s28 (AV.ptr m36 (m37 + 3)) 7) = (some [(AV.int .u64 n38), (AV.int .u64 n39), (AV.int .u64 n40), (AV.int .u64 n41), (AV.int .u64 n42), (AV.int .u64 n43), x44])) ∧
            CallsD P F.p_rollup_Rollup_Put [x6, (AV.int .i64 n31), (AV.agg [(AV.str t34), (AV.str t35)]), (AV.agg [(AV.int .u64 n38), (AV.int .u64 n39), (AV.int .u64 n40), (AV.int .u64 n41), (AV.int .u64 n42), (AV.int .u64 n43), x44])] s28 fun x45 s46 =>
            ∃ (n47 : Int),
            (x45 = (AV.int .i64 n47)) ∧
            bsel (n47 == 0) (
              ixsK 10 a2 n24 fun m48 m49 =>
              ∃ (n50 : Int) (t51 : ByteArray) (t52 : ByteArray) (n53 : Int) (n54 : Int) (n55 : Int) (n56 : Int) (n57 : Int) (n58 : Int) (x59 : AV),
              ((ldN s46 (AV.ptr m48 m49) 10) = (some [(AV.int .i64 n50), (AV.str t51), (AV.str t52), (AV.int .u64 n53), (AV.int .u64 n54), (AV.int .u64 n55), (AV.int .u64 n56), (AV.int .u64 n57), (AV.int .u64 n58), x59])) ∧
              ∀ (m60 : Nat) (s61 : St),
              (NewO s46 (cellsO [(AV.int .i64 n50), (AV.str t51), (AV.str t52), (AV.int .u64 n53), (AV.int .u64 n54), (AV.int .u64 n55), (AV.int .u64 n56), (AV.int .u64 n57), (AV.int .u64 n58), x59]) m60 s61) →
              ∃ (x62 : AV) (s63 : St),
              ((appendX D s61 T.sl_spoorlaw15_Put T.sl_spoorlaw15_Put x23 (AV.slice m60 0 1 (ACap.exact 1))) = (some (x62, s63))) ∧
              ∃ (m64 : Nat),
              (m64 < m26) ∧
              (I21 x62 (IntKind.wrap .i64 (n24 + 1)) s63 m64)
            ) (
              ∃ (m65 : Nat),
              (m65 < m26) ∧
              (I21 x23 (IntKind.wrap .i64 (n24 + 1)) s46 m65)
            )
          ) (
            slenK x23 fun m66 =>
            ∃ (I67 : (Int → (St → (Nat → Prop)))),
            (
              ∃ (m68 : Nat),
              (I67 (IntKind.wrap .i64 (((m66 : Nat) : Int) - 1)) s25 m68)
            ) ∧
            ∀ (n69 : Int) (s70 : St) (m71 : Nat),
            (I67 n69 s70 m71) →
            bsel (decide (n69 ≥ 0)) (
              ∀ (s72 : St),
              (Bump s70 14 s72) →
              ixsK 10 x23 n69 fun m73 m74 =>
              ∃ (n75 : Int),
              ((ld1 s72 (AV.ptr m73 m74)) = (some (AV.int .i64 n75))) ∧
              ixsK 10 x23 n69 fun m76 m77 =>
              ∃ (n78 : Int),
              ((ld1 s72 (AV.ptr m76 m77)) = (some (AV.int .i64 n78))) ∧
              CallsD P F.spoorlaw15_edges [x6, (AV.int .i64 n75), (AV.int .i64 (IntKind.wrap .i64 (n78 + 1)))] s72 fun x79 s80 =>
              ∃ (x81 : AV),
              (x79 = x81) ∧
              ixsK 10 x23 n69 fun m82 m83 =>
              ∃ (n84 : Int) (n85 : Int) (n86 : Int) (n87 : Int) (n88 : Int) (n89 : Int) (x90 : AV),
              ((ldN s80 (AV.ptr m82 (m83 + 3)) 7) = (some [(AV.int .u64 n84), (AV.int .u64 n85), (AV.int .u64 n86), (AV.int .u64 n87), (AV.int .u64 n88), (AV.int .u64 n89), x90])) ∧
              ∀ (m91 : Nat) (s92 : St),
              (NewO s80 (cellsO [(AV.int .u64 0), (AV.int .u64 0), (AV.int .u64 0), (AV.int .u64 0), (AV.int .u64 0), (AV.int .u64 0), AV.nilslice]) m91 s92) →
              ∃ (s93 : St),
              ((wrN s92 (AV.ptr m91 0) [(AV.int .u64 n84), (AV.int .u64 n85), (AV.int .u64 n86), (AV.int .u64 n87), (AV.int .u64 n88), (AV.int .u64 n89), x90]) = (some s93)) ∧
              ∃ (s94 : St),
              ((wrN s93 (AV.ptr m91 0) [(AV.int .u64 18446744073709551615), (AV.int .u64 18446744073709551615)]) = (some s94)) ∧
              ∀ (s95 : St),
              (Bump s94 32 s95) →
              ixsK 10 x23 n69 fun m96 m97 =>
              ∃ (n98 : Int),
              ((ld1 s95 (AV.ptr m96 m97)) = (some (AV.int .i64 n98))) ∧
              ixsK 10 x23 n69 fun m99 m100 =>
              ∃ (t101 : ByteArray) (t102 : ByteArray),
              ((ldN s95 (AV.ptr m99 (m100 + 1)) 2) = (some [(AV.str t101), (AV.str t102)])) ∧
              ∃ (n103 : Int) (n104 : Int) (n105 : Int) (n106 : Int) (n107 : Int) (n108 : Int) (x109 : AV),
              ((ldN s95 (AV.ptr m91 0) 7) = (some [(AV.int .u64 n103), (AV.int .u64 n104), (AV.int .u64 n105), (AV.int .u64 n106), (AV.int .u64 n107), (AV.int .u64 n108), x109])) ∧
              CallsD P F.p_rollup_Rollup_Take [x6, (AV.int .i64 n98), (AV.agg [(AV.str t101), (AV.str t102)]), (AV.agg [(AV.int .u64 n103), (AV.int .u64 n104), (AV.int .u64 n105), (AV.int .u64 n106), (AV.int .u64 n107), (AV.int .u64 n108), x109])] s95 fun x110 s111 =>
              ∃ (n112 : Int),
              (x110 = (AV.int .i64 n112)) ∧
              bsel (n112 != 152) (
                (Q (AV.bool false) s111)
              ) (
                ixsK 10 x23 n69 fun m113 m114 =>
                ∃ (n115 : Int),
                ((ld1 s111 (AV.ptr m113 m114)) = (some (AV.int .i64 n115))) ∧
                ixsK 10 x23 n69 fun m116 m117 =>
                ∃ (n118 : Int),
                ((ld1 s111 (AV.ptr m116 m117)) = (some (AV.int .i64 n118))) ∧
                CallsD P F.spoorlaw15_edges [x6, (AV.int .i64 n115), (AV.int .i64 (IntKind.wrap .i64 (n118 + 1)))] s111 fun x119 s120 =>
                ∃ (x121 : AV),
                (x119 = x121) ∧
                CallsD P F.spoorref15_SameEdges [x121, x81] s120 fun x122 s123 =>
                ∃ (c124 : Bool),
                (x122 = (AV.bool c124)) ∧
                bsel (!c124) (
                  (Q (AV.bool false) s123)
                ) (
                  ∃ (m125 : Nat),
                  (m125 < m71) ∧
                  (I67 (IntKind.wrap .i64 (n69 - 1)) s123 m125)
                )
              )
            ) (
              ∃ (I126 : (Int → (St → (Nat → Prop)))),
              (
                ∃ (m127 : Nat),
                (I126 0 s70 m127)
              ) ∧
              ∀ (n128 : Int) (s129 : St) (m130 : Nat),
              (I126 n128 s129 m130) →
              slenK x23 fun m131 =>
              bsel (decide (n128 < ((m131 : Nat) : Int))) (
                ∀ (s132 : St),
                (Bump s129 18 s132) →
                ixsK 10 x23 n128 fun m133 m134 =>
                ∃ (n135 : Int),
                ((ld1 s132 (AV.ptr m133 m134)) = (some (AV.int .i64 n135))) ∧
                ixsK 10 x23 n128 fun m136 m137 =>
                ∃ (t138 : ByteArray) (t139 : ByteArray),
                ((ldN s132 (AV.ptr m136 (m137 + 1)) 2) = (some [(AV.str t138), (AV.str t139)])) ∧
                ixsK 10 x23 n128 fun m140 m141 =>
                ∃ (n142 : Int) (n143 : Int) (n144 : Int) (n145 : Int) (n146 : Int) (n147 : Int) (x148 : AV),
                ((ldN s132 (AV.ptr m140 (m141 + 3)) 7) = (some [(AV.int .u64 n142), (AV.int .u64 n143), (AV.int .u64 n144), (AV.int .u64 n145), (AV.int .u64 n146), (AV.int .u64 n147), x148])) ∧
                CallsD P F.p_rollup_Rollup_Take [x6, (AV.int .i64 n135), (AV.agg [(AV.str t138), (AV.str t139)]), (AV.agg [(AV.int .u64 n142), (AV.int .u64 n143), (AV.int .u64 n144), (AV.int .u64 n145), (AV.int .u64 n146), (AV.int .u64 n147), x148])] s132 fun x149 s150 =>
                ∃ (n151 : Int),
                (x149 = (AV.int .i64 n151)) ∧
                bsel (n151 != 0) (
                  (Q (AV.bool false) s150)
                ) (
                  ∃ (m152 : Nat),
                  (m152 < m130) ∧
                  (I126 (IntKind.wrap .i64 (n128 + 1)) s150 m152)
                )
              ) (
                CallsA P F.p_rollup_Rollup_Hours [x6] s129 fun x153 s154 =>
                ∃ (n155 : Int) (n156 : Int),
                (x153 = (AV.tuple [(AV.int .i64 n155), (AV.int .i64 n156)])) ∧
                bsel (n155 == n19) (
                  bsel (n156 == n20) (
                    CallsA P F.spoorlaw15_edges [x6, (AV.int .i64 0), (AV.int .i64 2097152)] s154 fun x157 s158 =>
                    ∃ (x159 : AV),
                    (x157 = x159) ∧
                    CallsA P F.spoorref15_SameEdges [x159, x16] s158 fun x160 s161 =>
                    ∃ (c162 : Bool),
                    (x160 = (AV.bool c162)) ∧
                    (Q (AV.bool c162) s161)
                  ) (
                    (Q (AV.bool false) s154)
                  )
                ) (
                  (Q (AV.bool false) s154)
                )
              )
            )
          )
        )
      )
    )
  )
set_option maxRecDepth 100000 in
theorem vc.spoorlaw15_RollupBack_ok {a0 : Int} {a1 : AV} {a2 : AV} {s : St} {Q : AV → St → Prop} (h : vc.spoorlaw15_RollupBack a0 a1 a2 s Q) : CallsA P F.spoorlaw15_RollupBack [.int .i64 a0, a1, a2] s Q :=
  fnB_ok (C := C.spoorlaw15_RollupBack) hD hX mixes (fi := fnI Try.f4) (by kernel_rfl) (by kernel_rfl) (cast (by kernel_rfl : vc.spoorlaw15_RollupBack a0 a1 a2 s Q = wpC P C.spoorlaw15_RollupBack 1000000 (fnI Try.f4).body ⟨PT.setAll .nil 0 [.int .i64 a0, a1, a2], max [.int .i64 a0, a1, a2].length (fnI Try.f4).nt, s, []⟩ (endW C.spoorlaw15_RollupBack (fnI Try.f4).results Q)) h)
end
end Go.Eng.S

