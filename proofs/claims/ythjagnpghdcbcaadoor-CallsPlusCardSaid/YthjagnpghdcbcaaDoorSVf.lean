/-
  What is to be shown of functions of the program, and that it suffices.
-/
import Derived.Test.YthjagnpghdcbcaaDoorSDefs
namespace Go.Eng.S
open Go Go.Eng Go.Proofs
noncomputable section
/-! ### spoor/spoorlaw14.CallsPlus -/
def C.spoorlaw14_CallsPlus : Cx := { D := D, rt := rt, its := [], lps := [] }
set_option maxRecDepth 100000 in
def vc.spoorlaw14_CallsPlus (a0_0 : Int) (a0_1 : Int) (a0_2 : Int) (a0_3 : Int) (a0_4 : Int) (a0_5 : Int) (a0_6 : AV) (a1_0 : Int) (a1_1 : Int) (a1_2 : Int) (a1_3 : Int) (a1_4 : Int) (a1_5 : Int) (a1_6 : AV) (a2_0 : Int) (a2_1 : Int) (a2_2 : Int) (a2_3 : Int) (a2_4 : Int) (a2_5 : Int) (a2_6 : AV) (s : St) (Q : (AV → (St → Prop))) : Prop :=
  ∀ (m1 : Nat) (s2 : St),
  (NewO s (cellsO [(AV.int .u64 a0_0), (AV.int .u64 a0_1), (AV.int .u64 a0_2), (AV.int .u64 a0_3), (AV.int .u64 a0_4), (AV.int .u64 a0_5), a0_6]) m1 s2) →
  ∀ (m3 : Nat) (s4 : St),
  (NewO s2 (cellsO [(AV.int .u64 a1_0), (AV.int .u64 a1_1), (AV.int .u64 a1_2), (AV.int .u64 a1_3), (AV.int .u64 a1_4), (AV.int .u64 a1_5), a1_6]) m3 s4) →
  ∀ (m5 : Nat) (s6 : St),
  (NewO s4 (cellsO [(AV.int .u64 a2_0), (AV.int .u64 a2_1), (AV.int .u64 a2_2), (AV.int .u64 a2_3), (AV.int .u64 a2_4), (AV.int .u64 a2_5), a2_6]) m5 s6) →
  CallsA P F.spoorlaw14_shown [] s6 fun x7 s8 =>
  ∃ (c9 : Bool),
  (x7 = (AV.bool c9)) ∧
  ∃ (n10 : Int) (n11 : Int) (n12 : Int) (n13 : Int) (n14 : Int) (n15 : Int) (x16 : AV),
  ((ldN s8 (AV.ptr m1 0) 7) = (some [(AV.int .u64 n10), (AV.int .u64 n11), (AV.int .u64 n12), (AV.int .u64 n13), (AV.int .u64 n14), (AV.int .u64 n15), x16])) ∧
  CallsA P F.spoorlaw14_may [(AV.agg [(AV.int .u64 n10), (AV.int .u64 n11), (AV.int .u64 n12), (AV.int .u64 n13), (AV.int .u64 n14), (AV.int .u64 n15), x16])] s8 fun x17 s18 =>
  ∃ (c19 : Bool),
  (x17 = (AV.bool c19)) ∧
  ∃ (n20 : Int) (n21 : Int) (n22 : Int) (n23 : Int) (n24 : Int) (n25 : Int) (x26 : AV),
  ((ldN s18 (AV.ptr m3 0) 7) = (some [(AV.int .u64 n20), (AV.int .u64 n21), (AV.int .u64 n22), (AV.int .u64 n23), (AV.int .u64 n24), (AV.int .u64 n25), x26])) ∧
  CallsA P F.spoorlaw14_may [(AV.agg [(AV.int .u64 n20), (AV.int .u64 n21), (AV.int .u64 n22), (AV.int .u64 n23), (AV.int .u64 n24), (AV.int .u64 n25), x26])] s18 fun x27 s28 =>
  ∃ (c29 : Bool),
  (x27 = (AV.bool c29)) ∧
  ∃ (n30 : Int) (n31 : Int) (n32 : Int) (n33 : Int) (n34 : Int) (n35 : Int) (x36 : AV),
  ((ldN s28 (AV.ptr m5 0) 7) = (some [(AV.int .u64 n30), (AV.int .u64 n31), (AV.int .u64 n32), (AV.int .u64 n33), (AV.int .u64 n34), (AV.int .u64 n35), x36])) ∧
  CallsA P F.spoorlaw14_may [(AV.agg [(AV.int .u64 n30), (AV.int .u64 n31), (AV.int .u64 n32), (AV.int .u64 n33), (AV.int .u64 n34), (AV.int .u64 n35), x36])] s28 fun x37 s38 =>
  ∃ (c39 : Bool),
  (x37 = (AV.bool c39)) ∧
  ∃ (n40 : Int) (n41 : Int) (n42 : Int) (n43 : Int) (n44 : Int) (n45 : Int) (x46 : AV),
  ((ldN s38 (AV.ptr m1 0) 7) = (some [(AV.int .u64 n40), (AV.int .u64 n41), (AV.int .u64 n42), (AV.int .u64 n43), (AV.int .u64 n44), (AV.int .u64 n45), x46])) ∧
  ∃ (n47 : Int) (n48 : Int) (n49 : Int) (n50 : Int) (n51 : Int) (n52 : Int) (x53 : AV),
  ((ldN s38 (AV.ptr m3 0) 7) = (some [(AV.int .u64 n47), (AV.int .u64 n48), (AV.int .u64 n49), (AV.int .u64 n50), (AV.int .u64 n51), (AV.int .u64 n52), x53])) ∧
  CallsA P F.calls_Plus [(AV.agg [(AV.int .u64 n40), (AV.int .u64 n41), (AV.int .u64 n42), (AV.int .u64 n43), (AV.int .u64 n44), (AV.int .u64 n45), x46]), (AV.agg [(AV.int .u64 n47), (AV.int .u64 n48), (AV.int .u64 n49), (AV.int .u64 n50), (AV.int .u64 n51), (AV.int .u64 n52), x53])] s38 fun x54 s55 =>
  ∃ (n56 : Int) (n57 : Int) (n58 : Int) (n59 : Int) (n60 : Int) (n61 : Int) (x62 : AV) (n63 : Int),
  (x54 = (AV.tuple [(AV.agg [(AV.int .u64 n56), (AV.int .u64 n57), (AV.int .u64 n58), (AV.int .u64 n59), (AV.int .u64 n60), (AV.int .u64 n61), x62]), (AV.int .i64 n63)])) ∧
  ∀ (m64 : Nat) (s65 : St),
  (NewO s55 (cellsO [(AV.int .u64 0), (AV.int .u64 0), (AV.int .u64 0), (AV.int .u64 0), (AV.int .u64 0), (AV.int .u64 0), AV.nilslice]) m64 s65) →
  ∃ (s66 : St),
  ((wrN s65 (AV.ptr m64 0) [(AV.int .u64 n56), (AV.int .u64 n57), (AV.int .u64 n58), (AV.int .u64 n59), (AV.int .u64 n60), (AV.int .u64 n61), x62]) = (some s66)) ∧
  ∃ (n67 : Int) (n68 : Int) (n69 : Int) (n70 : Int) (n71 : Int) (n72 : Int) (x73 : AV),
  ((ldN s66 (AV.ptr m3 0) 7) = (some [(AV.int .u64 n67), (AV.int .u64 n68), (AV.int .u64 n69), (AV.int .u64 n70), (AV.int .u64 n71), (AV.int .u64 n72), x73])) ∧
  ∃ (n74 : Int) (n75 : Int) (n76 : Int) (n77 : Int) (n78 : Int) (n79 : Int) (x80 : AV),
  ((ldN s66 (AV.ptr m1 0) 7) = (some [(AV.int .u64 n74), (AV.int .u64 n75), (AV.int .u64 n76), (AV.int .u64 n77), (AV.int .u64 n78), (AV.int .u64 n79), x80])) ∧
  CallsA P F.calls_Plus [(AV.agg [(AV.int .u64 n67), (AV.int .u64 n68), (AV.int .u64 n69), (AV.int .u64 n70), (AV.int .u64 n71), (AV.int .u64 n72), x73]), (AV.agg [(AV.int .u64 n74), (AV.int .u64 n75), (AV.int .u64 n76), (AV.int .u64 n77), (AV.int .u64 n78), (AV.int .u64 n79), x80])] s66 fun x81 s82 =>
  ∃ (n83 : Int) (n84 : Int) (n85 : Int) (n86 : Int) (n87 : Int) (n88 : Int) (x89 : AV) (n90 : Int),
  (x81 = (AV.tuple [(AV.agg [(AV.int .u64 n83), (AV.int .u64 n84), (AV.int .u64 n85), (AV.int .u64 n86), (AV.int .u64 n87), (AV.int .u64 n88), x89]), (AV.int .i64 n90)])) ∧
  ∀ (m91 : Nat) (s92 : St),
  (NewO s82 (cellsO [(AV.int .u64 0), (AV.int .u64 0), (AV.int .u64 0), (AV.int .u64 0), (AV.int .u64 0), (AV.int .u64 0), AV.nilslice]) m91 s92) →
  ∃ (s93 : St),
  ((wrN s92 (AV.ptr m91 0) [(AV.int .u64 n83), (AV.int .u64 n84), (AV.int .u64 n85), (AV.int .u64 n86), (AV.int .u64 n87), (AV.int .u64 n88), x89]) = (some s93)) ∧
  bsel (!c9) (
    (Q (AV.bool false) s93)
  ) (
    bsel c19 (
      bsel (if (false = true) then ((n63 == 0) == c29) else (! ((n63 == 0) == c29))) (
        (Q (AV.bool false) s93)
      ) (
        bsel (n63 != n90) (
          (Q (AV.bool false) s93)
        ) (
          bsel (!c19) (
            (Q (AV.bool true) s93)
          ) (
            bsel (!c29) (
              (Q (AV.bool true) s93)
            ) (
              bsel (!c39) (
                (Q (AV.bool true) s93)
              ) (
                ∃ (n94 : Int) (n95 : Int) (n96 : Int) (n97 : Int) (n98 : Int) (n99 : Int) (x100 : AV),
                ((ldN s93 (AV.ptr m64 0) 7) = (some [(AV.int .u64 n94), (AV.int .u64 n95), (AV.int .u64 n96), (AV.int .u64 n97), (AV.int .u64 n98), (AV.int .u64 n99), x100])) ∧
                ∃ (n101 : Int) (n102 : Int) (n103 : Int) (n104 : Int) (n105 : Int) (n106 : Int) (x107 : AV),
                ((ldN s93 (AV.ptr m5 0) 7) = (some [(AV.int .u64 n101), (AV.int .u64 n102), (AV.int .u64 n103), (AV.int .u64 n104), (AV.int .u64 n105), (AV.int .u64 n106), x107])) ∧
                CallsA P F.calls_Plus [(AV.agg [(AV.int .u64 n94), (AV.int .u64 n95), (AV.int .u64 n96), (AV.int .u64 n97), (AV.int .u64 n98), (AV.int .u64 n99), x100]), (AV.agg [(AV.int .u64 n101), (AV.int .u64 n102), (AV.int .u64 n103), (AV.int .u64 n104), (AV.int .u64 n105), (AV.int .u64 n106), x107])] s93 fun x108 s109 =>
                ∃ (n110 : Int) (n111 : Int) (n112 : Int) (n113 : Int) (n114 : Int) (n115 : Int) (x116 : AV) (n117 : Int),
                (x108 = (AV.tuple [(AV.agg [(AV.int .u64 n110), (AV.int .u64 n111), (AV.int .u64 n112), (AV.int .u64 n113), (AV.int .u64 n114), (AV.int .u64 n115), x116]), (AV.int .i64 n117)])) ∧
                ∀ (m118 : Nat) (s119 : St),
                (NewO s109 (cellsO [(AV.int .u64 0), (AV.int .u64 0), (AV.int .u64 0), (AV.int .u64 0), (AV.int .u64 0), (AV.int .u64 0), AV.nilslice]) m118 s119) →
                ∃ (s120 : St),
                ((wrN s119 (AV.ptr m118 0) [(AV.int .u64 n110), (AV.int .u64 n111), (AV.int .u64 n112), (AV.int .u64 n113), (AV.int .u64 n114), (AV.int .u64 n115), x116]) = (some s120)) ∧
                ∃ (n121 : Int) (n122 : Int) (n123 : Int) (n124 : Int) (n125 : Int) (n126 : Int) (x127 : AV),
                ((ldN s120 (AV.ptr m3 0) 7) = (some [(AV.int .u64 n121), (AV.int .u64 n122), (AV.int .u64 n123), (AV.int .u64 n124), (AV.int .u64 n125), (AV.int .u64 n126), x127])) ∧
                ∃ (n128 : Int) (n129 : Int) (n130 : Int) (n131 : Int) (n132 : Int) (n133 : Int) (x134 : AV),
                ((ldN s120 (AV.ptr m5 0) 7) = (some [(AV.int .u64 n128), (AV.int .u64 n129), (AV.int .u64 n130), (AV.int .u64 n131), (AV.int .u64 n132), (AV.int .u64 n133), x134])) ∧
                CallsA P F.calls_Plus [(AV.agg [(AV.int .u64 n121), (AV.int .u64 n122), (AV.int .u64 n123), (AV.int .u64 n124), (AV.int .u64 n125), (AV.int .u64 n126), x127]), (AV.agg [(AV.int .u64 n128), (AV.int .u64 n129), (AV.int .u64 n130), (AV.int .u64 n131), (AV.int .u64 n132), (AV.int .u64 n133), x134])] s120 fun x135 s136 =>
                ∃ (n137 : Int) (n138 : Int) (n139 : Int) (n140 : Int) (n141 : Int) (n142 : Int) (x143 : AV) (n144 : Int),
                (x135 = (AV.tuple [(AV.agg [(AV.int .u64 n137), (AV.int .u64 n138), (AV.int .u64 n139), (AV.int .u64 n140), (AV.int .u64 n141), (AV.int .u64 n142), x143]), (AV.int .i64 n144)])) ∧
                ∀ (m145 : Nat) (s146 : St),
                (NewO s136 (cellsO [(AV.int .u64 0), (AV.int .u64 0), (AV.int .u64 0), (AV.int .u64 0), (AV.int .u64 0), (AV.int .u64 0), AV.nilslice]) m145 s146) →
                ∃ (s147 : St),
                ((wrN s146 (AV.ptr m145 0) [(AV.int .u64 n137), (AV.int .u64 n138), (AV.int .u64 n139), (AV.int .u64 n140), (AV.int .u64 n141), (AV.int .u64 n142), x143]) = (some s147)) ∧
                ∃ (n148 : Int) (n149 : Int) (n150 : Int) (n151 : Int) (n152 : Int) (n153 : Int) (x154 : AV),
                ((ldN s147 (AV.ptr m1 0) 7) = (some [(AV.int .u64 n148), (AV.int .u64 n149), (AV.int .u64 n150), (AV.int .u64 n151), (AV.int .u64 n152), (AV.int .u64 n153), x154])) ∧
                ∃ (n155 : Int) (n156 : Int) (n157 : Int) (n158 : Int) (n159 : Int) (n160 : Int) (x161 : AV),
                ((ldN s147 (AV.ptr m145 0) 7) = (some [(AV.int .u64 n155), (AV.int .u64 n156), (AV.int .u64 n157), (AV.int .u64 n158), (AV.int .u64 n159), (AV.int .u64 n160), x161])) ∧
                CallsA P F.calls_Plus [(AV.agg [(AV.int .u64 n148), (AV.int .u64 n149), (AV.int .u64 n150), (AV.int .u64 n151), (AV.int .u64 n152), (AV.int .u64 n153), x154]), (AV.agg [(AV.int .u64 n155), (AV.int .u64 n156), (AV.int .u64 n157), (AV.int .u64 n158), (AV.int .u64 n159), (AV.int .u64 n160), x161])] s147 fun x162 s163 =>
                ∃ (n164 : Int) (n165 : Int) (n166 : Int) (n167 : Int) (n168 : Int) (n169 : Int) (x170 : AV) (n171 : Int),
                (x162 = (AV.tuple [(AV.agg [(AV.int .u64 n164), (AV.int .u64 n165), (AV.int .u64 n166), (AV.int .u64 n167), (AV.int .u64 n168), (AV.int .u64 n169), x170]), (AV.int .i64 n171)])) ∧
                ∀ (m172 : Nat) (s173 : St),
                (NewO s163 (cellsO [(AV.int .u64 0), (AV.int .u64 0), (AV.int .u64 0), (AV.int .u64 0), (AV.int .u64 0), (AV.int .u64 0), AV.nilslice]) m172 s173) →
                ∃ (s174 : St),
                ((wrN s173 (AV.ptr m172 0) [(AV.int .u64 n164), (AV.int .u64 n165), (AV.int .u64 n166), (AV.int .u64 n167), (AV.int .u64 n168), (AV.int .u64 n169), x170]) = (some s174)) ∧
                ∃ (n175 : Int) (n176 : Int) (n177 : Int) (n178 : Int) (n179 : Int) (n180 : Int) (x181 : AV),
                ((ldN s174 (AV.ptr m1 0) 7) = (some [(AV.int .u64 n175), (AV.int .u64 n176), (AV.int .u64 n177), (AV.int .u64 n178), (AV.int .u64 n179), (AV.int .u64 n180), x181])) ∧
                CallsA P F.calls_Plus [(AV.agg [(AV.int .u64 n175), (AV.int .u64 n176), (AV.int .u64 n177), (AV.int .u64 n178), (AV.int .u64 n179), (AV.int .u64 n180), x181]), (AV.agg [(AV.int .u64 0), (AV.int .u64 0), (AV.int .u64 0), (AV.int .u64 0), (AV.int .u64 0), (AV.int .u64 0), AV.nilslice])] s174 fun x182 s183 =>
                ∃ (n184 : Int) (n185 : Int) (n186 : Int) (n187 : Int) (n188 : Int) (n189 : Int) (x190 : AV) (n191 : Int),
                (x182 = (AV.tuple [(AV.agg [(AV.int .u64 n184), (AV.int .u64 n185), (AV.int .u64 n186), (AV.int .u64 n187), (AV.int .u64 n188), (AV.int .u64 n189), x190]), (AV.int .i64 n191)])) ∧
                ∀ (m192 : Nat) (s193 : St),
                (NewO s183 (cellsO [(AV.int .u64 0), (AV.int .u64 0), (AV.int .u64 0), (AV.int .u64 0), (AV.int .u64 0), (AV.int .u64 0), AV.nilslice]) m192 s193) →
                ∃ (s194 : St),
                ((wrN s193 (AV.ptr m192 0) [(AV.int .u64 n184), (AV.int .u64 n185), (AV.int .u64 n186), (AV.int .u64 n187), (AV.int .u64 n188), (AV.int .u64 n189), x190]) = (some s194)) ∧
                ∃ (n195 : Int) (n196 : Int) (n197 : Int) (n198 : Int) (n199 : Int) (n200 : Int) (x201 : AV),
                ((ldN s194 (AV.ptr m1 0) 7) = (some [(AV.int .u64 n195), (AV.int .u64 n196), (AV.int .u64 n197), (AV.int .u64 n198), (AV.int .u64 n199), (AV.int .u64 n200), x201])) ∧
                CallsA P F.calls_Plus [(AV.agg [(AV.int .u64 0), (AV.int .u64 0), (AV.int .u64 0), (AV.int .u64 0), (AV.int .u64 0), (AV.int .u64 0), AV.nilslice]), (AV.agg [(AV.int .u64 n195), (AV.int .u64 n196), (AV.int .u64 n197), (AV.int .u64 n198), (AV.int .u64 n199), (AV.int .u64 n200), x201])] s194 fun x202 s203 =>
                ∃ (n204 : Int) (n205 : Int) (n206 : Int) (n207 : Int) (n208 : Int) (n209 : Int) (x210 : AV) (n211 : Int),
                (x202 = (AV.tuple [(AV.agg [(AV.int .u64 n204), (AV.int .u64 n205), (AV.int .u64 n206), (AV.int .u64 n207), (AV.int .u64 n208), (AV.int .u64 n209), x210]), (AV.int .i64 n211)])) ∧
                ∀ (m212 : Nat) (s213 : St),
                (NewO s203 (cellsO [(AV.int .u64 0), (AV.int .u64 0), (AV.int .u64 0), (AV.int .u64 0), (AV.int .u64 0), (AV.int .u64 0), AV.nilslice]) m212 s213) →
                ∃ (s214 : St),
                ((wrN s213 (AV.ptr m212 0) [(AV.int .u64 n204), (AV.int .u64 n205), (AV.int .u64 n206), (AV.int .u64 n207), (AV.int .u64 n208), (AV.int .u64 n209), x210]) = (some s214)) ∧
                ∃ (n215 : Int) (n216 : Int) (n217 : Int) (n218 : Int) (n219 : Int) (n220 : Int) (x221 : AV),
                ((ldN s214 (AV.ptr m64 0) 7) = (some [(AV.int .u64 n215), (AV.int .u64 n216), (AV.int .u64 n217), (AV.int .u64 n218), (AV.int .u64 n219), (AV.int .u64 n220), x221])) ∧
                ∃ (n222 : Int) (n223 : Int) (n224 : Int) (n225 : Int) (n226 : Int) (n227 : Int) (x228 : AV),
                ((ldN s214 (AV.ptr m91 0) 7) = (some [(AV.int .u64 n222), (AV.int .u64 n223), (AV.int .u64 n224), (AV.int .u64 n225), (AV.int .u64 n226), (AV.int .u64 n227), x228])) ∧
                CallsA P F.spoorlaw14_sameTally [(AV.agg [(AV.int .u64 n215), (AV.int .u64 n216), (AV.int .u64 n217), (AV.int .u64 n218), (AV.int .u64 n219), (AV.int .u64 n220), x221]), (AV.agg [(AV.int .u64 n222), (AV.int .u64 n223), (AV.int .u64 n224), (AV.int .u64 n225), (AV.int .u64 n226), (AV.int .u64 n227), x228])] s214 fun x229 s230 =>
                ∃ (c231 : Bool),
                (x229 = (AV.bool c231)) ∧
                ∃ (n232 : Int) (n233 : Int) (n234 : Int) (n235 : Int) (n236 : Int) (n237 : Int) (x238 : AV),
                ((ldN s230 (AV.ptr m118 0) 7) = (some [(AV.int .u64 n232), (AV.int .u64 n233), (AV.int .u64 n234), (AV.int .u64 n235), (AV.int .u64 n236), (AV.int .u64 n237), x238])) ∧
                ∃ (n239 : Int) (n240 : Int) (n241 : Int) (n242 : Int) (n243 : Int) (n244 : Int) (x245 : AV),
                ((ldN s230 (AV.ptr m172 0) 7) = (some [(AV.int .u64 n239), (AV.int .u64 n240), (AV.int .u64 n241), (AV.int .u64 n242), (AV.int .u64 n243), (AV.int .u64 n244), x245])) ∧
                CallsA P F.spoorlaw14_sameTally [(AV.agg [(AV.int .u64 n232), (AV.int .u64 n233), (AV.int .u64 n234), (AV.int .u64 n235), (AV.int .u64 n236), (AV.int .u64 n237), x238]), (AV.agg [(AV.int .u64 n239), (AV.int .u64 n240), (AV.int .u64 n241), (AV.int .u64 n242), (AV.int .u64 n243), (AV.int .u64 n244), x245])] s230 fun x246 s247 =>
                ∃ (c248 : Bool),
                (x246 = (AV.bool c248)) ∧
                ∃ (n249 : Int) (n250 : Int) (n251 : Int) (n252 : Int) (n253 : Int) (n254 : Int) (x255 : AV),
                ((ldN s247 (AV.ptr m192 0) 7) = (some [(AV.int .u64 n249), (AV.int .u64 n250), (AV.int .u64 n251), (AV.int .u64 n252), (AV.int .u64 n253), (AV.int .u64 n254), x255])) ∧
                ∃ (n256 : Int) (n257 : Int) (n258 : Int) (n259 : Int) (n260 : Int) (n261 : Int) (x262 : AV),
                ((ldN s247 (AV.ptr m1 0) 7) = (some [(AV.int .u64 n256), (AV.int .u64 n257), (AV.int .u64 n258), (AV.int .u64 n259), (AV.int .u64 n260), (AV.int .u64 n261), x262])) ∧
                CallsA P F.spoorlaw14_sameTally [(AV.agg [(AV.int .u64 n249), (AV.int .u64 n250), (AV.int .u64 n251), (AV.int .u64 n252), (AV.int .u64 n253), (AV.int .u64 n254), x255]), (AV.agg [(AV.int .u64 n256), (AV.int .u64 n257), (AV.int .u64 n258), (AV.int .u64 n259), (AV.int .u64 n260), (AV.int .u64 n261), x262])] s247 fun x263 s264 =>
                ∃ (c265 : Bool),
                (x263 = (AV.bool c265)) ∧
                ∃ (n266 : Int) (n267 : Int) (n268 : Int) (n269 : Int) (n270 : Int) (n271 : Int) (x272 : AV),
                ((ldN s264 (AV.ptr m212 0) 7) = (some [(AV.int .u64 n266), (AV.int .u64 n267), (AV.int .u64 n268), (AV.int .u64 n269), (AV.int .u64 n270), (AV.int .u64 n271), x272])) ∧
                ∃ (n273 : Int) (n274 : Int) (n275 : Int) (n276 : Int) (n277 : Int) (n278 : Int) (x279 : AV),
                ((ldN s264 (AV.ptr m1 0) 7) = (some [(AV.int .u64 n273), (AV.int .u64 n274), (AV.int .u64 n275), (AV.int .u64 n276), (AV.int .u64 n277), (AV.int .u64 n278), x279])) ∧
                CallsA P F.spoorlaw14_sameTally [(AV.agg [(AV.int .u64 n266), (AV.int .u64 n267), (AV.int .u64 n268), (AV.int .u64 n269), (AV.int .u64 n270), (AV.int .u64 n271), x272]), (AV.agg [(AV.int .u64 n273), (AV.int .u64 n274), (AV.int .u64 n275), (AV.int .u64 n276), (AV.int .u64 n277), (AV.int .u64 n278), x279])] s264 fun x280 s281 =>
                ∃ (c282 : Bool),
                (x280 = (AV.bool c282)) ∧
                bsel c231 (
                  bsel c248 (
                    bsel c265 (
                      bsel c282 (
                        bsel (n117 == 0) (
                          bsel (n144 == 0) (
                            bsel (n171 == 0) (
                              bsel (n191 == 0) (
                                (Q (AV.bool (n211 == 0)) s281)
                              ) (
                                (Q (AV.bool false) s281)
                              )
                            ) (
                              (Q (AV.bool false) s281)
                            )
                          ) (
                            (Q (AV.bool false) s281)
                          )
                        ) (
                          (Q (AV.bool false) s281)
                        )
                      ) (
                        (Q (AV.bool false) s281)
                      )
                    ) (
                      (Q (AV.bool false) s281)
                    )
                  ) (
                    (Q (AV.bool false) s281)
                  )
                ) (
                  (Q (AV.bool false) s281)
                )
              )
            )
          )
        )
      )
    ) (
      bsel (if (false = true) then ((n63 == 0) == false) else (! ((n63 == 0) == false))) (
        (Q (AV.bool false) s93)
      ) (
        bsel (n63 != n90) (
          (Q (AV.bool false) s93)
        ) (
          bsel (!c19) (
            (Q (AV.bool true) s93)
          ) (
            bsel (!c29) (
              (Q (AV.bool true) s93)
            ) (
              bsel (!c39) (
                (Q (AV.bool true) s93)
              ) (
                ∃ (n283 : Int) (n284 : Int) (n285 : Int) (n286 : Int) (n287 : Int) (n288 : Int) (x289 : AV),
                ((ldN s93 (AV.ptr m64 0) 7) = (some [(AV.int .u64 n283), (AV.int .u64 n284), (AV.int .u64 n285), (AV.int .u64 n286), (AV.int .u64 n287), (AV.int .u64 n288), x289])) ∧
                ∃ (n290 : Int) (n291 : Int) (n292 : Int) (n293 : Int) (n294 : Int) (n295 : Int) (x296 : AV),
                ((ldN s93 (AV.ptr m5 0) 7) = (some [(AV.int .u64 n290), (AV.int .u64 n291), (AV.int .u64 n292), (AV.int .u64 n293), (AV.int .u64 n294), (AV.int .u64 n295), x296])) ∧
                CallsA P F.calls_Plus [(AV.agg [(AV.int .u64 n283), (AV.int .u64 n284), (AV.int .u64 n285), (AV.int .u64 n286), (AV.int .u64 n287), (AV.int .u64 n288), x289]), (AV.agg [(AV.int .u64 n290), (AV.int .u64 n291), (AV.int .u64 n292), (AV.int .u64 n293), (AV.int .u64 n294), (AV.int .u64 n295), x296])] s93 fun x297 s298 =>
                ∃ (n299 : Int) (n300 : Int) (n301 : Int) (n302 : Int) (n303 : Int) (n304 : Int) (x305 : AV) (n306 : Int),
                (x297 = (AV.tuple [(AV.agg [(AV.int .u64 n299), (AV.int .u64 n300), (AV.int .u64 n301), (AV.int .u64 n302), (AV.int .u64 n303), (AV.int .u64 n304), x305]), (AV.int .i64 n306)])) ∧
                ∀ (m307 : Nat) (s308 : St),
                (NewO s298 (cellsO [(AV.int .u64 0), (AV.int .u64 0), (AV.int .u64 0), (AV.int .u64 0), (AV.int .u64 0), (AV.int .u64 0), AV.nilslice]) m307 s308) →
                ∃ (s309 : St),
                ((wrN s308 (AV.ptr m307 0) [(AV.int .u64 n299), (AV.int .u64 n300), (AV.int .u64 n301), (AV.int .u64 n302), (AV.int .u64 n303), (AV.int .u64 n304), x305]) = (some s309)) ∧
                ∃ (n310 : Int) (n311 : Int) (n312 : Int) (n313 : Int) (n314 : Int) (n315 : Int) (x316 : AV),
                ((ldN s309 (AV.ptr m3 0) 7) = (some [(AV.int .u64 n310), (AV.int .u64 n311), (AV.int .u64 n312), (AV.int .u64 n313), (AV.int .u64 n314), (AV.int .u64 n315), x316])) ∧
                ∃ (n317 : Int) (n318 : Int) (n319 : Int) (n320 : Int) (n321 : Int) (n322 : Int) (x323 : AV),
                ((ldN s309 (AV.ptr m5 0) 7) = (some [(AV.int .u64 n317), (AV.int .u64 n318), (AV.int .u64 n319), (AV.int .u64 n320), (AV.int .u64 n321), (AV.int .u64 n322), x323])) ∧
                CallsA P F.calls_Plus [(AV.agg [(AV.int .u64 n310), (AV.int .u64 n311), (AV.int .u64 n312), (AV.int .u64 n313), (AV.int .u64 n314), (AV.int .u64 n315), x316]), (AV.agg [(AV.int .u64 n317), (AV.int .u64 n318), (AV.int .u64 n319), (AV.int .u64 n320), (AV.int .u64 n321), (AV.int .u64 n322), x323])] s309 fun x324 s325 =>
                ∃ (n326 : Int) (n327 : Int) (n328 : Int) (n329 : Int) (n330 : Int) (n331 : Int) (x332 : AV) (n333 : Int),
                (x324 = (AV.tuple [(AV.agg [(AV.int .u64 n326), (AV.int .u64 n327), (AV.int .u64 n328), (AV.int .u64 n329), (AV.int .u64 n330), (AV.int .u64 n331), x332]), (AV.int .i64 n333)])) ∧
                ∀ (m334 : Nat) (s335 : St),
                (NewO s325 (cellsO [(AV.int .u64 0), (AV.int .u64 0), (AV.int .u64 0), (AV.int .u64 0), (AV.int .u64 0), (AV.int .u64 0), AV.nilslice]) m334 s335) →
                ∃ (s336 : St),
                ((wrN s335 (AV.ptr m334 0) [(AV.int .u64 n326), (AV.int .u64 n327), (AV.int .u64 n328), (AV.int .u64 n329), (AV.int .u64 n330), (AV.int .u64 n331), x332]) = (some s336)) ∧
                ∃ (n337 : Int) (n338 : Int) (n339 : Int) (n340 : Int) (n341 : Int) (n342 : Int) (x343 : AV),
                ((ldN s336 (AV.ptr m1 0) 7) = (some [(AV.int .u64 n337), (AV.int .u64 n338), (AV.int .u64 n339), (AV.int .u64 n340), (AV.int .u64 n341), (AV.int .u64 n342), x343])) ∧
                ∃ (n344 : Int) (n345 : Int) (n346 : Int) (n347 : Int) (n348 : Int) (n349 : Int) (x350 : AV),
                ((ldN s336 (AV.ptr m334 0) 7) = (some [(AV.int .u64 n344), (AV.int .u64 n345), (AV.int .u64 n346), (AV.int .u64 n347), (AV.int .u64 n348), (AV.int .u64 n349), x350])) ∧
                CallsA P F.calls_Plus [(AV.agg [(AV.int .u64 n337), (AV.int .u64 n338), (AV.int .u64 n339), (AV.int .u64 n340), (AV.int .u64 n341), (AV.int .u64 n342), x343]), (AV.agg [(AV.int .u64 n344), (AV.int .u64 n345), (AV.int .u64 n346), (AV.int .u64 n347), (AV.int .u64 n348), (AV.int .u64 n349), x350])] s336 fun x351 s352 =>
                ∃ (n353 : Int) (n354 : Int) (n355 : Int) (n356 : Int) (n357 : Int) (n358 : Int) (x359 : AV) (n360 : Int),
                (x351 = (AV.tuple [(AV.agg [(AV.int .u64 n353), (AV.int .u64 n354), (AV.int .u64 n355), (AV.int .u64 n356), (AV.int .u64 n357), (AV.int .u64 n358), x359]), (AV.int .i64 n360)])) ∧
                ∀ (m361 : Nat) (s362 : St),
                (NewO s352 (cellsO [(AV.int .u64 0), (AV.int .u64 0), (AV.int .u64 0), (AV.int .u64 0), (AV.int .u64 0), (AV.int .u64 0), AV.nilslice]) m361 s362) →
                ∃ (s363 : St),
                ((wrN s362 (AV.ptr m361 0) [(AV.int .u64 n353), (AV.int .u64 n354), (AV.int .u64 n355), (AV.int .u64 n356), (AV.int .u64 n357), (AV.int .u64 n358), x359]) = (some s363)) ∧
                ∃ (n364 : Int) (n365 : Int) (n366 : Int) (n367 : Int) (n368 : Int) (n369 : Int) (x370 : AV),
                ((ldN s363 (AV.ptr m1 0) 7) = (some [(AV.int .u64 n364), (AV.int .u64 n365), (AV.int .u64 n366), (AV.int .u64 n367), (AV.int .u64 n368), (AV.int .u64 n369), x370])) ∧
                CallsA P F.calls_Plus [(AV.agg [(AV.int .u64 n364), (AV.int .u64 n365), (AV.int .u64 n366), (AV.int .u64 n367), (AV.int .u64 n368), (AV.int .u64 n369), x370]), (AV.agg [(AV.int .u64 0), (AV.int .u64 0), (AV.int .u64 0), (AV.int .u64 0), (AV.int .u64 0), (AV.int .u64 0), AV.nilslice])] s363 fun x371 s372 =>
                ∃ (n373 : Int) (n374 : Int) (n375 : Int) (n376 : Int) (n377 : Int) (n378 : Int) (x379 : AV) (n380 : Int),
                (x371 = (AV.tuple [(AV.agg [(AV.int .u64 n373), (AV.int .u64 n374), (AV.int .u64 n375), (AV.int .u64 n376), (AV.int .u64 n377), (AV.int .u64 n378), x379]), (AV.int .i64 n380)])) ∧
                ∀ (m381 : Nat) (s382 : St),
                (NewO s372 (cellsO [(AV.int .u64 0), (AV.int .u64 0), (AV.int .u64 0), (AV.int .u64 0), (AV.int .u64 0), (AV.int .u64 0), AV.nilslice]) m381 s382) →
                ∃ (s383 : St),
                ((wrN s382 (AV.ptr m381 0) [(AV.int .u64 n373), (AV.int .u64 n374), (AV.int .u64 n375), (AV.int .u64 n376), (AV.int .u64 n377), (AV.int .u64 n378), x379]) = (some s383)) ∧
                ∃ (n384 : Int) (n385 : Int) (n386 : Int) (n387 : Int) (n388 : Int) (n389 : Int) (x390 : AV),
                ((ldN s383 (AV.ptr m1 0) 7) = (some [(AV.int .u64 n384), (AV.int .u64 n385), (AV.int .u64 n386), (AV.int .u64 n387), (AV.int .u64 n388), (AV.int .u64 n389), x390])) ∧
                CallsA P F.calls_Plus [(AV.agg [(AV.int .u64 0), (AV.int .u64 0), (AV.int .u64 0), (AV.int .u64 0), (AV.int .u64 0), (AV.int .u64 0), AV.nilslice]), (AV.agg [(AV.int .u64 n384), (AV.int .u64 n385), (AV.int .u64 n386), (AV.int .u64 n387), (AV.int .u64 n388), (AV.int .u64 n389), x390])] s383 fun x391 s392 =>
                ∃ (n393 : Int) (n394 : Int) (n395 : Int) (n396 : Int) (n397 : Int) (n398 : Int) (x399 : AV) (n400 : Int),
                (x391 = (AV.tuple [(AV.agg [(AV.int .u64 n393), (AV.int .u64 n394), (AV.int .u64 n395), (AV.int .u64 n396), (AV.int .u64 n397), (AV.int .u64 n398), x399]), (AV.int .i64 n400)])) ∧
                ∀ (m401 : Nat) (s402 : St),
                (NewO s392 (cellsO [(AV.int .u64 0), (AV.int .u64 0), (AV.int .u64 0), (AV.int .u64 0), (AV.int .u64 0), (AV.int .u64 0), AV.nilslice]) m401 s402) →
                ∃ (s403 : St),
                ((wrN s402 (AV.ptr m401 0) [(AV.int .u64 n393), (AV.int .u64 n394), (AV.int .u64 n395), (AV.int .u64 n396), (AV.int .u64 n397), (AV.int .u64 n398), x399]) = (some s403)) ∧
                ∃ (n404 : Int) (n405 : Int) (n406 : Int) (n407 : Int) (n408 : Int) (n409 : Int) (x410 : AV),
                ((ldN s403 (AV.ptr m64 0) 7) = (some [(AV.int .u64 n404), (AV.int .u64 n405), (AV.int .u64 n406), (AV.int .u64 n407), (AV.int .u64 n408), (AV.int .u64 n409), x410])) ∧
                ∃ (n411 : Int) (n412 : Int) (n413 : Int) (n414 : Int) (n415 : Int) (n416 : Int) (x417 : AV),
                ((ldN s403 (AV.ptr m91 0) 7) = (some [(AV.int .u64 n411), (AV.int .u64 n412), (AV.int .u64 n413), (AV.int .u64 n414), (AV.int .u64 n415), (AV.int .u64 n416), x417])) ∧
                CallsA P F.spoorlaw14_sameTally [(AV.agg [(AV.int .u64 n404), (AV.int .u64 n405), (AV.int .u64 n406), (AV.int .u64 n407), (AV.int .u64 n408), (AV.int .u64 n409), x410]), (AV.agg [(AV.int .u64 n411), (AV.int .u64 n412), (AV.int .u64 n413), (AV.int .u64 n414), (AV.int .u64 n415), (AV.int .u64 n416), x417])] s403 fun x418 s419 =>
                ∃ (c420 : Bool),
                (x418 = (AV.bool c420)) ∧
                ∃ (n421 : Int) (n422 : Int) (n423 : Int) (n424 : Int) (n425 : Int) (n426 : Int) (x427 : AV),
                ((ldN s419 (AV.ptr m307 0) 7) = (some [(AV.int .u64 n421), (AV.int .u64 n422), (AV.int .u64 n423), (AV.int .u64 n424), (AV.int .u64 n425), (AV.int .u64 n426), x427])) ∧
                ∃ (n428 : Int) (n429 : Int) (n430 : Int) (n431 : Int) (n432 : Int) (n433 : Int) (x434 : AV),
                ((ldN s419 (AV.ptr m361 0) 7) = (some [(AV.int .u64 n428), (AV.int .u64 n429), (AV.int .u64 n430), (AV.int .u64 n431), (AV.int .u64 n432), (AV.int .u64 n433), x434])) ∧
                CallsA P F.spoorlaw14_sameTally [(AV.agg [(AV.int .u64 n421), (AV.int .u64 n422), (AV.int .u64 n423), (AV.int .u64 n424), (AV.int .u64 n425), (AV.int .u64 n426), x427]), (AV.agg [(AV.int .u64 n428), (AV.int .u64 n429), (AV.int .u64 n430), (AV.int .u64 n431), (AV.int .u64 n432), (AV.int .u64 n433), x434])] s419 fun x435 s436 =>
                ∃ (c437 : Bool),
                (x435 = (AV.bool c437)) ∧
                ∃ (n438 : Int) (n439 : Int) (n440 : Int) (n441 : Int) (n442 : Int) (n443 : Int) (x444 : AV),
                ((ldN s436 (AV.ptr m381 0) 7) = (some [(AV.int .u64 n438), (AV.int .u64 n439), (AV.int .u64 n440), (AV.int .u64 n441), (AV.int .u64 n442), (AV.int .u64 n443), x444])) ∧
                ∃ (n445 : Int) (n446 : Int) (n447 : Int) (n448 : Int) (n449 : Int) (n450 : Int) (x451 : AV),
                ((ldN s436 (AV.ptr m1 0) 7) = (some [(AV.int .u64 n445), (AV.int .u64 n446), (AV.int .u64 n447), (AV.int .u64 n448), (AV.int .u64 n449), (AV.int .u64 n450), x451])) ∧
                CallsA P F.spoorlaw14_sameTally [(AV.agg [(AV.int .u64 n438), (AV.int .u64 n439), (AV.int .u64 n440), (AV.int .u64 n441), (AV.int .u64 n442), (AV.int .u64 n443), x444]), (AV.agg [(AV.int .u64 n445), (AV.int .u64 n446), (AV.int .u64 n447), (AV.int .u64 n448), (AV.int .u64 n449), (AV.int .u64 n450), x451])] s436 fun x452 s453 =>
                ∃ (c454 : Bool),
                (x452 = (AV.bool c454)) ∧
                ∃ (n455 : Int) (n456 : Int) (n457 : Int) (n458 : Int) (n459 : Int) (n460 : Int) (x461 : AV),
                ((ldN s453 (AV.ptr m401 0) 7) = (some [(AV.int .u64 n455), (AV.int .u64 n456), (AV.int .u64 n457), (AV.int .u64 n458), (AV.int .u64 n459), (AV.int .u64 n460), x461])) ∧
                ∃ (n462 : Int) (n463 : Int) (n464 : Int) (n465 : Int) (n466 : Int) (n467 : Int) (x468 : AV),
                ((ldN s453 (AV.ptr m1 0) 7) = (some [(AV.int .u64 n462), (AV.int .u64 n463), (AV.int .u64 n464), (AV.int .u64 n465), (AV.int .u64 n466), (AV.int .u64 n467), x468])) ∧
                CallsA P F.spoorlaw14_sameTally [(AV.agg [(AV.int .u64 n455), (AV.int .u64 n456), (AV.int .u64 n457), (AV.int .u64 n458), (AV.int .u64 n459), (AV.int .u64 n460), x461]), (AV.agg [(AV.int .u64 n462), (AV.int .u64 n463), (AV.int .u64 n464), (AV.int .u64 n465), (AV.int .u64 n466), (AV.int .u64 n467), x468])] s453 fun x469 s470 =>
                ∃ (c471 : Bool),
                (x469 = (AV.bool c471)) ∧
                bsel c420 (
                  bsel c437 (
                    bsel c454 (
                      bsel c471 (
                        bsel (n306 == 0) (
                          bsel (n333 == 0) (
                            bsel (n360 == 0) (
                              bsel (n380 == 0) (
                                (Q (AV.bool (n400 == 0)) s470)
                              ) (
                                (Q (AV.bool false) s470)
                              )
                            ) (
                              (Q (AV.bool false) s470)
                            )
                          ) (
                            (Q (AV.bool false) s470)
                          )
                        ) (
                          (Q (AV.bool false) s470)
                        )
                      ) (
                        (Q (AV.bool false) s470)
                      )
                    ) (
                      (Q (AV.bool false) s470)
                    )
                  ) (
                    (Q (AV.bool false) s470)
                  )
                ) (
                  (Q (AV.bool false) s470)
                )
              )
            )
          )
        )
      )
    )
  )
set_option maxRecDepth 100000 in
theorem vc.spoorlaw14_CallsPlus_ok {a0_0 : Int} {a0_1 : Int} {a0_2 : Int} {a0_3 : Int} {a0_4 : Int} {a0_5 : Int} {a0_6 : AV} {a1_0 : Int} {a1_1 : Int} {a1_2 : Int} {a1_3 : Int} {a1_4 : Int} {a1_5 : Int} {a1_6 : AV} {a2_0 : Int} {a2_1 : Int} {a2_2 : Int} {a2_3 : Int} {a2_4 : Int} {a2_5 : Int} {a2_6 : AV} {s : St} {Q : AV → St → Prop} (h : vc.spoorlaw14_CallsPlus a0_0 a0_1 a0_2 a0_3 a0_4 a0_5 a0_6 a1_0 a1_1 a1_2 a1_3 a1_4 a1_5 a1_6 a2_0 a2_1 a2_2 a2_3 a2_4 a2_5 a2_6 s Q) : CallsA P F.spoorlaw14_CallsPlus [.agg [.int .u64 a0_0, .int .u64 a0_1, .int .u64 a0_2, .int .u64 a0_3, .int .u64 a0_4, .int .u64 a0_5, a0_6], .agg [.int .u64 a1_0, .int .u64 a1_1, .int .u64 a1_2, .int .u64 a1_3, .int .u64 a1_4, .int .u64 a1_5, a1_6], .agg [.int .u64 a2_0, .int .u64 a2_1, .int .u64 a2_2, .int .u64 a2_3, .int .u64 a2_4, .int .u64 a2_5, a2_6]] s Q :=
  fnB_ok (C := C.spoorlaw14_CallsPlus) hD mixes (fi := fnI Tryd.f3) (by kernel_rfl) (by kernel_rfl) (cast (by kernel_rfl : vc.spoorlaw14_CallsPlus a0_0 a0_1 a0_2 a0_3 a0_4 a0_5 a0_6 a1_0 a1_1 a1_2 a1_3 a1_4 a1_5 a1_6 a2_0 a2_1 a2_2 a2_3 a2_4 a2_5 a2_6 s Q = wpC P C.spoorlaw14_CallsPlus 1000000 (fnI Tryd.f3).body ⟨PT.setAll .nil 0 [.agg [.int .u64 a0_0, .int .u64 a0_1, .int .u64 a0_2, .int .u64 a0_3, .int .u64 a0_4, .int .u64 a0_5, a0_6], .agg [.int .u64 a1_0, .int .u64 a1_1, .int .u64 a1_2, .int .u64 a1_3, .int .u64 a1_4, .int .u64 a1_5, a1_6], .agg [.int .u64 a2_0, .int .u64 a2_1, .int .u64 a2_2, .int .u64 a2_3, .int .u64 a2_4, .int .u64 a2_5, a2_6]], max [.agg [.int .u64 a0_0, .int .u64 a0_1, .int .u64 a0_2, .int .u64 a0_3, .int .u64 a0_4, .int .u64 a0_5, a0_6], .agg [.int .u64 a1_0, .int .u64 a1_1, .int .u64 a1_2, .int .u64 a1_3, .int .u64 a1_4, .int .u64 a1_5, a1_6], .agg [.int .u64 a2_0, .int .u64 a2_1, .int .u64 a2_2, .int .u64 a2_3, .int .u64 a2_4, .int .u64 a2_5, a2_6]].length (fnI Tryd.f3).nt, s, []⟩ (endW C.spoorlaw14_CallsPlus (fnI Tryd.f3).results Q)) h)
end
end Go.Eng.S

