/-
  What is to be shown of functions of the program, and that it suffices.
-/
import Derived.Test.YthjagnpghdcbcaaGreatDoorSDefs
namespace Go.Eng.S
open Go Go.Eng Go.Proofs
noncomputable section
/-! ### spoor/spoorlaw14.CallsBack -/
def C.spoorlaw14_CallsBack : Cx := { D := D, rt := rt, its := [], lps := [] }
set_option maxRecDepth 100000 in
def vc.spoorlaw14_CallsBack (a0_0 : Int) (a0_1 : Int) (a0_2 : Int) (a0_3 : Int) (a0_4 : Int) (a0_5 : Int) (a0_6 : AV) (a1_0 : Int) (a1_1 : Int) (a1_2 : Int) (a1_3 : Int) (a1_4 : Int) (a1_5 : Int) (a1_6 : AV) (s : St) (Q : (AV → (St → Prop))) : Prop :=
  ∀ (m1 : Nat) (s2 : St),
  (NewO s (cellsO [(AV.int .u64 a0_0), (AV.int .u64 a0_1), (AV.int .u64 a0_2), (AV.int .u64 a0_3), (AV.int .u64 a0_4), (AV.int .u64 a0_5), a0_6]) m1 s2) →
  ∀ (m3 : Nat) (s4 : St),
  (NewO s2 (cellsO [(AV.int .u64 a1_0), (AV.int .u64 a1_1), (AV.int .u64 a1_2), (AV.int .u64 a1_3), (AV.int .u64 a1_4), (AV.int .u64 a1_5), a1_6]) m3 s4) →
  CallsA P F.spoorlaw14_shown [] s4 fun x5 s6 =>
  ∃ (c7 : Bool),
  (x5 = (AV.bool c7)) ∧
  ∃ (n8 : Int) (n9 : Int) (n10 : Int) (n11 : Int) (n12 : Int) (n13 : Int) (x14 : AV),
  ((ldN s6 (AV.ptr m1 0) 7) = (some [(AV.int .u64 n8), (AV.int .u64 n9), (AV.int .u64 n10), (AV.int .u64 n11), (AV.int .u64 n12), (AV.int .u64 n13), x14])) ∧
  CallsA P F.spoorlaw14_may [(AV.agg [(AV.int .u64 n8), (AV.int .u64 n9), (AV.int .u64 n10), (AV.int .u64 n11), (AV.int .u64 n12), (AV.int .u64 n13), x14])] s6 fun x15 s16 =>
  ∃ (c17 : Bool),
  (x15 = (AV.bool c17)) ∧
  ∃ (n18 : Int) (n19 : Int) (n20 : Int) (n21 : Int) (n22 : Int) (n23 : Int) (x24 : AV),
  ((ldN s16 (AV.ptr m3 0) 7) = (some [(AV.int .u64 n18), (AV.int .u64 n19), (AV.int .u64 n20), (AV.int .u64 n21), (AV.int .u64 n22), (AV.int .u64 n23), x24])) ∧
  CallsA P F.spoorlaw14_may [(AV.agg [(AV.int .u64 n18), (AV.int .u64 n19), (AV.int .u64 n20), (AV.int .u64 n21), (AV.int .u64 n22), (AV.int .u64 n23), x24])] s16 fun x25 s26 =>
  ∃ (c27 : Bool),
  (x25 = (AV.bool c27)) ∧
  bsel (!c7) (
    (Q (AV.bool c7) s26)
  ) (
    bsel (!c17) (
      (Q (AV.bool c7) s26)
    ) (
      bsel (!c27) (
        (Q (AV.bool c7) s26)
      ) (
        ∃ (n28 : Int) (n29 : Int) (n30 : Int) (n31 : Int) (n32 : Int) (n33 : Int) (x34 : AV),
        ((ldN s26 (AV.ptr m1 0) 7) = (some [(AV.int .u64 n28), (AV.int .u64 n29), (AV.int .u64 n30), (AV.int .u64 n31), (AV.int .u64 n32), (AV.int .u64 n33), x34])) ∧
        ∃ (n35 : Int) (n36 : Int) (n37 : Int) (n38 : Int) (n39 : Int) (n40 : Int) (x41 : AV),
        ((ldN s26 (AV.ptr m3 0) 7) = (some [(AV.int .u64 n35), (AV.int .u64 n36), (AV.int .u64 n37), (AV.int .u64 n38), (AV.int .u64 n39), (AV.int .u64 n40), x41])) ∧
        CallsA P F.calls_Plus [(AV.agg [(AV.int .u64 n28), (AV.int .u64 n29), (AV.int .u64 n30), (AV.int .u64 n31), (AV.int .u64 n32), (AV.int .u64 n33), x34]), (AV.agg [(AV.int .u64 n35), (AV.int .u64 n36), (AV.int .u64 n37), (AV.int .u64 n38), (AV.int .u64 n39), (AV.int .u64 n40), x41])] s26 fun x42 s43 =>
        ∃ (n44 : Int) (n45 : Int) (n46 : Int) (n47 : Int) (n48 : Int) (n49 : Int) (x50 : AV) (n51 : Int),
        (x42 = (AV.tuple [(AV.agg [(AV.int .u64 n44), (AV.int .u64 n45), (AV.int .u64 n46), (AV.int .u64 n47), (AV.int .u64 n48), (AV.int .u64 n49), x50]), (AV.int .i64 n51)])) ∧
        ∀ (m52 : Nat) (s53 : St),
        (NewO s43 (cellsO [(AV.int .u64 0), (AV.int .u64 0), (AV.int .u64 0), (AV.int .u64 0), (AV.int .u64 0), (AV.int .u64 0), AV.nilslice]) m52 s53) →
        ∃ (s54 : St),
        ((wrN s53 (AV.ptr m52 0) [(AV.int .u64 n44), (AV.int .u64 n45), (AV.int .u64 n46), (AV.int .u64 n47), (AV.int .u64 n48), (AV.int .u64 n49), x50]) = (some s54)) ∧
        ∃ (n55 : Int) (n56 : Int) (n57 : Int) (n58 : Int) (n59 : Int) (n60 : Int) (x61 : AV),
        ((ldN s54 (AV.ptr m52 0) 7) = (some [(AV.int .u64 n55), (AV.int .u64 n56), (AV.int .u64 n57), (AV.int .u64 n58), (AV.int .u64 n59), (AV.int .u64 n60), x61])) ∧
        CallsA P F.spoorlaw14_most [(AV.agg [(AV.int .u64 n55), (AV.int .u64 n56), (AV.int .u64 n57), (AV.int .u64 n58), (AV.int .u64 n59), (AV.int .u64 n60), x61])] s54 fun x62 s63 =>
        ∃ (c64 : Bool),
        (x62 = (AV.bool c64)) ∧
        bsel (n51 != 0) (
          (Q (AV.bool (n51 == 0)) s63)
        ) (
          bsel c64 (
            (Q (AV.bool (n51 == 0)) s63)
          ) (
            ∃ (n65 : Int) (n66 : Int) (n67 : Int) (n68 : Int) (n69 : Int) (n70 : Int) (x71 : AV),
            ((ldN s63 (AV.ptr m52 0) 7) = (some [(AV.int .u64 n65), (AV.int .u64 n66), (AV.int .u64 n67), (AV.int .u64 n68), (AV.int .u64 n69), (AV.int .u64 n70), x71])) ∧
            ∃ (n72 : Int) (n73 : Int) (n74 : Int) (n75 : Int) (n76 : Int) (n77 : Int) (x78 : AV),
            ((ldN s63 (AV.ptr m3 0) 7) = (some [(AV.int .u64 n72), (AV.int .u64 n73), (AV.int .u64 n74), (AV.int .u64 n75), (AV.int .u64 n76), (AV.int .u64 n77), x78])) ∧
            CallsA P F.calls_Minus [(AV.agg [(AV.int .u64 n65), (AV.int .u64 n66), (AV.int .u64 n67), (AV.int .u64 n68), (AV.int .u64 n69), (AV.int .u64 n70), x71]), (AV.agg [(AV.int .u64 n72), (AV.int .u64 n73), (AV.int .u64 n74), (AV.int .u64 n75), (AV.int .u64 n76), (AV.int .u64 n77), x78])] s63 fun x79 s80 =>
            ∃ (n81 : Int) (n82 : Int) (n83 : Int) (n84 : Int) (n85 : Int) (n86 : Int) (x87 : AV) (n88 : Int),
            (x79 = (AV.tuple [(AV.agg [(AV.int .u64 n81), (AV.int .u64 n82), (AV.int .u64 n83), (AV.int .u64 n84), (AV.int .u64 n85), (AV.int .u64 n86), x87]), (AV.int .i64 n88)])) ∧
            ∀ (m89 : Nat) (s90 : St),
            (NewO s80 (cellsO [(AV.int .u64 0), (AV.int .u64 0), (AV.int .u64 0), (AV.int .u64 0), (AV.int .u64 0), (AV.int .u64 0), AV.nilslice]) m89 s90) →
            ∃ (s91 : St),
            ((wrN s90 (AV.ptr m89 0) [(AV.int .u64 n81), (AV.int .u64 n82), (AV.int .u64 n83), (AV.int .u64 n84), (AV.int .u64 n85), (AV.int .u64 n86), x87]) = (some s91)) ∧
            ∃ (n92 : Int) (n93 : Int) (n94 : Int) (n95 : Int) (n96 : Int) (n97 : Int) (x98 : AV),
            ((ldN s91 (AV.ptr m89 0) 7) = (some [(AV.int .u64 n92), (AV.int .u64 n93), (AV.int .u64 n94), (AV.int .u64 n95), (AV.int .u64 n96), (AV.int .u64 n97), x98])) ∧
            ∃ (n99 : Int) (n100 : Int) (n101 : Int) (n102 : Int) (n103 : Int) (n104 : Int) (x105 : AV),
            ((ldN s91 (AV.ptr m1 0) 7) = (some [(AV.int .u64 n99), (AV.int .u64 n100), (AV.int .u64 n101), (AV.int .u64 n102), (AV.int .u64 n103), (AV.int .u64 n104), x105])) ∧
            CallsA P F.spoorlaw14_sameTally [(AV.agg [(AV.int .u64 n92), (AV.int .u64 n93), (AV.int .u64 n94), (AV.int .u64 n95), (AV.int .u64 n96), (AV.int .u64 n97), x98]), (AV.agg [(AV.int .u64 n99), (AV.int .u64 n100), (AV.int .u64 n101), (AV.int .u64 n102), (AV.int .u64 n103), (AV.int .u64 n104), x105])] s91 fun x106 s107 =>
            ∃ (c108 : Bool),
            (x106 = (AV.bool c108)) ∧
            ∃ (n109 : Int) (n110 : Int) (n111 : Int) (n112 : Int) (n113 : Int) (n114 : Int) (x115 : AV),
            ((ldN s107 (AV.ptr m52 0) 7) = (some [(AV.int .u64 n109), (AV.int .u64 n110), (AV.int .u64 n111), (AV.int .u64 n112), (AV.int .u64 n113), (AV.int .u64 n114), x115])) ∧
            ∀ (m116 : Nat) (s117 : St),
            (NewO s107 (cellsO [(AV.int .u64 0), (AV.int .u64 0), (AV.int .u64 0), (AV.int .u64 0), (AV.int .u64 0), (AV.int .u64 0), AV.nilslice]) m116 s117) →
            ∃ (s118 : St),
            ((wrN s117 (AV.ptr m116 0) [(AV.int .u64 n109), (AV.int .u64 n110), (AV.int .u64 n111), (AV.int .u64 n112), (AV.int .u64 n113), (AV.int .u64 n114), x115]) = (some s118)) ∧
            ∃ (n119 : Int),
            ((ld1 s118 (AV.ptr m116 1)) = (some (AV.int .u64 n119))) ∧
            ∃ (s120 : St),
            ((wrN s118 (AV.ptr m116 1) [(AV.int .u64 (IntKind.wrap .u64 (n119 + 1)))]) = (some s120)) ∧
            ∃ (n121 : Int),
            ((ld1 s120 (AV.ptr m116 1)) = (some (AV.int .u64 n121))) ∧
            bsel (n121 == 0) (
              ∃ (n122 : Int),
              ((ld1 s120 (AV.ptr m116 0)) = (some (AV.int .u64 n122))) ∧
              ∃ (s123 : St),
              ((wrN s120 (AV.ptr m116 0) [(AV.int .u64 (IntKind.wrap .u64 (n122 + 1)))]) = (some s123)) ∧
              ∃ (n124 : Int) (n125 : Int) (n126 : Int) (n127 : Int) (n128 : Int) (n129 : Int) (x130 : AV),
              ((ldN s123 (AV.ptr m52 0) 7) = (some [(AV.int .u64 n124), (AV.int .u64 n125), (AV.int .u64 n126), (AV.int .u64 n127), (AV.int .u64 n128), (AV.int .u64 n129), x130])) ∧
              ∃ (n131 : Int) (n132 : Int) (n133 : Int) (n134 : Int) (n135 : Int) (n136 : Int) (x137 : AV),
              ((ldN s123 (AV.ptr m116 0) 7) = (some [(AV.int .u64 n131), (AV.int .u64 n132), (AV.int .u64 n133), (AV.int .u64 n134), (AV.int .u64 n135), (AV.int .u64 n136), x137])) ∧
              CallsA P F.calls_Minus [(AV.agg [(AV.int .u64 n124), (AV.int .u64 n125), (AV.int .u64 n126), (AV.int .u64 n127), (AV.int .u64 n128), (AV.int .u64 n129), x130]), (AV.agg [(AV.int .u64 n131), (AV.int .u64 n132), (AV.int .u64 n133), (AV.int .u64 n134), (AV.int .u64 n135), (AV.int .u64 n136), x137])] s123 fun x138 s139 =>
              ∃ (n140 : Int) (n141 : Int) (n142 : Int) (n143 : Int) (n144 : Int) (n145 : Int) (x146 : AV) (n147 : Int),
              (x138 = (AV.tuple [(AV.agg [(AV.int .u64 n140), (AV.int .u64 n141), (AV.int .u64 n142), (AV.int .u64 n143), (AV.int .u64 n144), (AV.int .u64 n145), x146]), (AV.int .i64 n147)])) ∧
              ∀ (m148 : Nat) (s149 : St),
              (NewO s139 (cellsO [(AV.int .u64 0), (AV.int .u64 0), (AV.int .u64 0), (AV.int .u64 0), (AV.int .u64 0), (AV.int .u64 0), AV.nilslice]) m148 s149) →
              ∃ (s150 : St),
              ((wrN s149 (AV.ptr m148 0) [(AV.int .u64 n140), (AV.int .u64 n141), (AV.int .u64 n142), (AV.int .u64 n143), (AV.int .u64 n144), (AV.int .u64 n145), x146]) = (some s150)) ∧
              bsel (n88 == 0) (
                bsel c108 (
                  bsel (n147 == 141) (
                    ∃ (n151 : Int) (n152 : Int),
                    ((ldN s150 (AV.ptr m148 0) 2) = (some [(AV.int .u64 n151), (AV.int .u64 n152)])) ∧
                    bsel (if (true = true) then ((n151 == 0) && ((n152 == 0) && true)) else (! ((n151 == 0) && ((n152 == 0) && true)))) (
                      ∃ (x153 : AV),
                      ((ld1 s150 (AV.ptr m148 6)) = (some x153)) ∧
                      slenK x153 fun m154 =>
                      (Q (AV.bool (((m154 : Nat) : Int) == 0)) s150)
                    ) (
                      (Q (AV.bool false) s150)
                    )
                  ) (
                    (Q (AV.bool false) s150)
                  )
                ) (
                  (Q (AV.bool false) s150)
                )
              ) (
                (Q (AV.bool false) s150)
              )
            ) (
              ∃ (n155 : Int) (n156 : Int) (n157 : Int) (n158 : Int) (n159 : Int) (n160 : Int) (x161 : AV),
              ((ldN s120 (AV.ptr m52 0) 7) = (some [(AV.int .u64 n155), (AV.int .u64 n156), (AV.int .u64 n157), (AV.int .u64 n158), (AV.int .u64 n159), (AV.int .u64 n160), x161])) ∧
              ∃ (n162 : Int) (n163 : Int) (n164 : Int) (n165 : Int) (n166 : Int) (n167 : Int) (x168 : AV),
              ((ldN s120 (AV.ptr m116 0) 7) = (some [(AV.int .u64 n162), (AV.int .u64 n163), (AV.int .u64 n164), (AV.int .u64 n165), (AV.int .u64 n166), (AV.int .u64 n167), x168])) ∧
              CallsA P F.calls_Minus [(AV.agg [(AV.int .u64 n155), (AV.int .u64 n156), (AV.int .u64 n157), (AV.int .u64 n158), (AV.int .u64 n159), (AV.int .u64 n160), x161]), (AV.agg [(AV.int .u64 n162), (AV.int .u64 n163), (AV.int .u64 n164), (AV.int .u64 n165), (AV.int .u64 n166), (AV.int .u64 n167), x168])] s120 fun x169 s170 =>
              ∃ (n171 : Int) (n172 : Int) (n173 : Int) (n174 : Int) (n175 : Int) (n176 : Int) (x177 : AV) (n178 : Int),
              (x169 = (AV.tuple [(AV.agg [(AV.int .u64 n171), (AV.int .u64 n172), (AV.int .u64 n173), (AV.int .u64 n174), (AV.int .u64 n175), (AV.int .u64 n176), x177]), (AV.int .i64 n178)])) ∧
              ∀ (m179 : Nat) (s180 : St),
              (NewO s170 (cellsO [(AV.int .u64 0), (AV.int .u64 0), (AV.int .u64 0), (AV.int .u64 0), (AV.int .u64 0), (AV.int .u64 0), AV.nilslice]) m179 s180) →
              ∃ (s181 : St),
              ((wrN s180 (AV.ptr m179 0) [(AV.int .u64 n171), (AV.int .u64 n172), (AV.int .u64 n173), (AV.int .u64 n174), (AV.int .u64 n175), (AV.int .u64 n176), x177]) = (some s181)) ∧
              bsel (n88 == 0) (
                bsel c108 (
                  bsel (n178 == 141) (
                    ∃ (n182 : Int) (n183 : Int),
                    ((ldN s181 (AV.ptr m179 0) 2) = (some [(AV.int .u64 n182), (AV.int .u64 n183)])) ∧
                    bsel (if (true = true) then ((n182 == 0) && ((n183 == 0) && true)) else (! ((n182 == 0) && ((n183 == 0) && true)))) (
                      ∃ (x184 : AV),
                      ((ld1 s181 (AV.ptr m179 6)) = (some x184)) ∧
                      slenK x184 fun m185 =>
                      (Q (AV.bool (((m185 : Nat) : Int) == 0)) s181)
                    ) (
                      (Q (AV.bool false) s181)
                    )
                  ) (
                    (Q (AV.bool false) s181)
                  )
                ) (
                  (Q (AV.bool false) s181)
                )
              ) (
                (Q (AV.bool false) s181)
              )
            )
          )
        )
      )
    )
  )
set_option maxRecDepth 100000 in
theorem vc.spoorlaw14_CallsBack_ok {a0_0 : Int} {a0_1 : Int} {a0_2 : Int} {a0_3 : Int} {a0_4 : Int} {a0_5 : Int} {a0_6 : AV} {a1_0 : Int} {a1_1 : Int} {a1_2 : Int} {a1_3 : Int} {a1_4 : Int} {a1_5 : Int} {a1_6 : AV} {s : St} {Q : AV → St → Prop} (h : vc.spoorlaw14_CallsBack a0_0 a0_1 a0_2 a0_3 a0_4 a0_5 a0_6 a1_0 a1_1 a1_2 a1_3 a1_4 a1_5 a1_6 s Q) : CallsA P F.spoorlaw14_CallsBack [.agg [.int .u64 a0_0, .int .u64 a0_1, .int .u64 a0_2, .int .u64 a0_3, .int .u64 a0_4, .int .u64 a0_5, a0_6], .agg [.int .u64 a1_0, .int .u64 a1_1, .int .u64 a1_2, .int .u64 a1_3, .int .u64 a1_4, .int .u64 a1_5, a1_6]] s Q :=
  fnB_ok (C := C.spoorlaw14_CallsBack) hD mixes (fi := fnI Tryz.f4) (by kernel_rfl) (by kernel_rfl) (cast (by kernel_rfl : vc.spoorlaw14_CallsBack a0_0 a0_1 a0_2 a0_3 a0_4 a0_5 a0_6 a1_0 a1_1 a1_2 a1_3 a1_4 a1_5 a1_6 s Q = wpC P C.spoorlaw14_CallsBack 1000000 (fnI Tryz.f4).body ⟨PT.setAll .nil 0 [.agg [.int .u64 a0_0, .int .u64 a0_1, .int .u64 a0_2, .int .u64 a0_3, .int .u64 a0_4, .int .u64 a0_5, a0_6], .agg [.int .u64 a1_0, .int .u64 a1_1, .int .u64 a1_2, .int .u64 a1_3, .int .u64 a1_4, .int .u64 a1_5, a1_6]], max [.agg [.int .u64 a0_0, .int .u64 a0_1, .int .u64 a0_2, .int .u64 a0_3, .int .u64 a0_4, .int .u64 a0_5, a0_6], .agg [.int .u64 a1_0, .int .u64 a1_1, .int .u64 a1_2, .int .u64 a1_3, .int .u64 a1_4, .int .u64 a1_5, a1_6]].length (fnI Tryz.f4).nt, s, []⟩ (endW C.spoorlaw14_CallsBack (fnI Tryz.f4).results Q)) h)
end
end Go.Eng.S

