/-
  What is to be shown of functions of the program, and that it suffices.
-/
import Derived.Test.YthjagnpghdcbcaaGreatDoorSDefs
namespace Go.Eng.S
open Go Go.Eng Go.Proofs
noncomputable section
def C.spoorlaw14_CallsSums : Cx := { D := D, rt := rt, its := [], lps := [(0, [198, 197, 196, 195, 194, 193, 192, 191, 190, 189, 187, 188, 35, 182, 183, 184, 185, 186], [35])], jns := [(59, [119, 120, 121, 122, 123, 124, 125, 126, 127, 128, 129, 130, 131, 132, 133, 134, 135, 136, 137, 138, 139, 140, 141, 142, 143, 144, 145, 146, 147, 148, 149, 150, 151, 152, 153, 154, 155, 156, 157, 158, 159, 160, 161, 162, 163, 164, 165, 166, 167, 168, 169, 170, 171, 172, 173], [173], [.bool false]), (522, [6, 119, 120, 121, 122, 123, 124, 125, 126, 127, 128, 129, 130, 131, 132, 133, 134, 135, 136, 137, 138, 139, 140, 141, 142, 143, 144, 145, 146, 147, 148, 149, 150, 151, 152, 153, 154, 155, 156, 157, 158, 159, 160, 161, 162, 163, 164, 165, 166, 167, 168, 169, 170, 171, 172, 173], [], [])] }
set_option maxRecDepth 100000 in
def vc.spoorlaw14_CallsSums (a0_0 : Int) (a0_1 : ByteArray) (a0_2 : ByteArray) (a0_3 : Bool) (a0_4 : Int) (a1_0 : Int) (a1_1 : Int) (a1_2 : Int) (a1_3 : Int) (a1_4 : Int) (a1_5 : Int) (a1_6 : AV) (a2_0 : Int) (a2_1 : Int) (a2_2 : Int) (a2_3 : Int) (a2_4 : Int) (a2_5 : Int) (a2_6 : AV) (s : St) (Q : (AV → (St → Prop))) : Prop :=
 ∀ (m1 : Nat) (s2 : St),
 (NewO s (cellsO [(AV.int .i64 a0_0), (AV.str a0_1), (AV.str a0_2), (AV.bool a0_3), (AV.int .u64 a0_4)]) m1 s2) →
 ∀ (m3 : Nat) (s4 : St),
 (NewO s2 (cellsO [(AV.int .u64 a1_0), (AV.int .u64 a1_1), (AV.int .u64 a1_2), (AV.int .u64 a1_3), (AV.int .u64 a1_4), (AV.int .u64 a1_5), a1_6]) m3 s4) →
 ∀ (m5 : Nat) (s6 : St),
 (NewO s4 (cellsO [(AV.int .u64 a2_0), (AV.int .u64 a2_1), (AV.int .u64 a2_2), (AV.int .u64 a2_3), (AV.int .u64 a2_4), (AV.int .u64 a2_5), a2_6]) m5 s6) →
 CallsA P F.spoorlaw14_shown [] s6 fun x7 s8 =>
 ∃ (c9 : Bool),
 (x7 = (AV.bool c9)) ∧
 ∃ (n10 : Int) (n11 : Int) (n12 : Int) (n13 : Int) (n14 : Int) (n15 : Int) (x16 : AV),
 ((ldN s8 (AV.ptr m3 0) 7) = (some [(AV.int .u64 n10), (AV.int .u64 n11), (AV.int .u64 n12), (AV.int .u64 n13), (AV.int .u64 n14), (AV.int .u64 n15), x16])) ∧
 CallsA P F.spoorlaw14_lentTally [(AV.agg [(AV.int .u64 n10), (AV.int .u64 n11), (AV.int .u64 n12), (AV.int .u64 n13), (AV.int .u64 n14), (AV.int .u64 n15), x16])] s8 fun x17 s18 =>
 ∃ (n19 : Int) (n20 : Int) (n21 : Int) (n22 : Int) (n23 : Int) (n24 : Int) (x25 : AV) (x26 : AV),
 (x17 = (AV.tuple [(AV.agg [(AV.int .u64 n19), (AV.int .u64 n20), (AV.int .u64 n21), (AV.int .u64 n22), (AV.int .u64 n23), (AV.int .u64 n24), x25]), x26])) ∧
 ∀ (m27 : Nat) (s28 : St),
 (NewO s18 (cellsO [(AV.int .u64 0), (AV.int .u64 0), (AV.int .u64 0), (AV.int .u64 0), (AV.int .u64 0), (AV.int .u64 0), AV.nilslice]) m27 s28) →
 ∃ (s29 : St),
 ((wrN s28 (AV.ptr m27 0) [(AV.int .u64 n19), (AV.int .u64 n20), (AV.int .u64 n21), (AV.int .u64 n22), (AV.int .u64 n23), (AV.int .u64 n24), x25]) = (some s29)) ∧
 ∃ (n30 : Int) (n31 : Int) (n32 : Int) (n33 : Int) (n34 : Int) (n35 : Int) (x36 : AV),
 ((ldN s29 (AV.ptr m5 0) 7) = (some [(AV.int .u64 n30), (AV.int .u64 n31), (AV.int .u64 n32), (AV.int .u64 n33), (AV.int .u64 n34), (AV.int .u64 n35), x36])) ∧
 CallsA P F.spoorlaw14_lentTally [(AV.agg [(AV.int .u64 n30), (AV.int .u64 n31), (AV.int .u64 n32), (AV.int .u64 n33), (AV.int .u64 n34), (AV.int .u64 n35), x36])] s29 fun x37 s38 =>
 ∃ (n39 : Int) (n40 : Int) (n41 : Int) (n42 : Int) (n43 : Int) (n44 : Int) (x45 : AV) (x46 : AV),
 (x37 = (AV.tuple [(AV.agg [(AV.int .u64 n39), (AV.int .u64 n40), (AV.int .u64 n41), (AV.int .u64 n42), (AV.int .u64 n43), (AV.int .u64 n44), x45]), x46])) ∧
 ∀ (m47 : Nat) (s48 : St),
 (NewO s38 (cellsO [(AV.int .u64 0), (AV.int .u64 0), (AV.int .u64 0), (AV.int .u64 0), (AV.int .u64 0), (AV.int .u64 0), AV.nilslice]) m47 s48) →
 ∃ (s49 : St),
 ((wrN s48 (AV.ptr m47 0) [(AV.int .u64 n39), (AV.int .u64 n40), (AV.int .u64 n41), (AV.int .u64 n42), (AV.int .u64 n43), (AV.int .u64 n44), x45]) = (some s49)) ∧
 ∃ (n50 : Int) (t51 : ByteArray) (t52 : ByteArray) (c53 : Bool) (n54 : Int),
 ((ldN s49 (AV.ptr m1 0) 5) = (some [(AV.int .i64 n50), (AV.str t51), (AV.str t52), (AV.bool c53), (AV.int .u64 n54)])) ∧
 CallsA P F.calls_One [(AV.agg [(AV.int .i64 n50), (AV.str t51), (AV.str t52), (AV.bool c53), (AV.int .u64 n54)])] s49 fun x55 s56 =>
 ∃ (n57 : Int) (n58 : Int) (n59 : Int) (n60 : Int) (n61 : Int) (n62 : Int) (x63 : AV),
 (x55 = (AV.agg [(AV.int .u64 n57), (AV.int .u64 n58), (AV.int .u64 n59), (AV.int .u64 n60), (AV.int .u64 n61), (AV.int .u64 n62), x63])) ∧
 ∀ (m64 : Nat) (s65 : St),
 (NewO s56 (cellsO [(AV.int .u64 0), (AV.int .u64 0), (AV.int .u64 0), (AV.int .u64 0), (AV.int .u64 0), (AV.int .u64 0), AV.nilslice]) m64 s65) →
 ∃ (s66 : St),
 ((wrN s65 (AV.ptr m64 0) [(AV.int .u64 n57), (AV.int .u64 n58), (AV.int .u64 n59), (AV.int .u64 n60), (AV.int .u64 n61), (AV.int .u64 n62), x63]) = (some s66)) ∧
 ∃ (n67 : Int) (t68 : ByteArray) (t69 : ByteArray) (c70 : Bool) (n71 : Int),
 ((ldN s66 (AV.ptr m1 0) 5) = (some [(AV.int .i64 n67), (AV.str t68), (AV.str t69), (AV.bool c70), (AV.int .u64 n71)])) ∧
 CallsA P F.calls_One [(AV.agg [(AV.int .i64 n67), (AV.str t68), (AV.str t69), (AV.bool c70), (AV.int .u64 n71)])] s66 fun x72 s73 =>
 ∃ (n74 : Int) (n75 : Int) (n76 : Int) (n77 : Int) (n78 : Int) (n79 : Int) (x80 : AV),
 (x72 = (AV.agg [(AV.int .u64 n74), (AV.int .u64 n75), (AV.int .u64 n76), (AV.int .u64 n77), (AV.int .u64 n78), (AV.int .u64 n79), x80])) ∧
 ∀ (m81 : Nat) (s82 : St),
 (NewO s73 (cellsO [(AV.int .u64 0), (AV.int .u64 0), (AV.int .u64 0), (AV.int .u64 0), (AV.int .u64 0), (AV.int .u64 0), AV.nilslice]) m81 s82) →
 ∃ (s83 : St),
 ((wrN s82 (AV.ptr m81 0) [(AV.int .u64 n74), (AV.int .u64 n75), (AV.int .u64 n76), (AV.int .u64 n77), (AV.int .u64 n78), (AV.int .u64 n79), x80]) = (some s83)) ∧
 ∃ (n84 : Int) (n85 : Int) (n86 : Int) (n87 : Int) (n88 : Int) (n89 : Int) (x90 : AV),
 ((ldN s83 (AV.ptr m27 0) 7) = (some [(AV.int .u64 n84), (AV.int .u64 n85), (AV.int .u64 n86), (AV.int .u64 n87), (AV.int .u64 n88), (AV.int .u64 n89), x90])) ∧
 ∃ (n91 : Int) (n92 : Int) (n93 : Int) (n94 : Int) (n95 : Int) (n96 : Int) (x97 : AV),
 ((ldN s83 (AV.ptr m47 0) 7) = (some [(AV.int .u64 n91), (AV.int .u64 n92), (AV.int .u64 n93), (AV.int .u64 n94), (AV.int .u64 n95), (AV.int .u64 n96), x97])) ∧
 CallsA P F.calls_Plus [(AV.agg [(AV.int .u64 n84), (AV.int .u64 n85), (AV.int .u64 n86), (AV.int .u64 n87), (AV.int .u64 n88), (AV.int .u64 n89), x90]), (AV.agg [(AV.int .u64 n91), (AV.int .u64 n92), (AV.int .u64 n93), (AV.int .u64 n94), (AV.int .u64 n95), (AV.int .u64 n96), x97])] s83 fun x98 s99 =>
 ∃ (n100 : Int) (n101 : Int) (n102 : Int) (n103 : Int) (n104 : Int) (n105 : Int) (x106 : AV) (n107 : Int),
 (x98 = (AV.tuple [(AV.agg [(AV.int .u64 n100), (AV.int .u64 n101), (AV.int .u64 n102), (AV.int .u64 n103), (AV.int .u64 n104), (AV.int .u64 n105), x106]), (AV.int .i64 n107)])) ∧
 ∀ (m108 : Nat) (s109 : St),
 (NewO s99 (cellsO [(AV.int .u64 0), (AV.int .u64 0), (AV.int .u64 0), (AV.int .u64 0), (AV.int .u64 0), (AV.int .u64 0), AV.nilslice]) m108 s109) →
 ∃ (s110 : St),
 ((wrN s109 (AV.ptr m108 0) [(AV.int .u64 n100), (AV.int .u64 n101), (AV.int .u64 n102), (AV.int .u64 n103), (AV.int .u64 n104), (AV.int .u64 n105), x106]) = (some s110)) ∧
 ∃ (n111 : Int) (n112 : Int) (n113 : Int) (n114 : Int) (n115 : Int) (n116 : Int) (x117 : AV),
 ((ldN s110 (AV.ptr m27 0) 7) = (some [(AV.int .u64 n111), (AV.int .u64 n112), (AV.int .u64 n113), (AV.int .u64 n114), (AV.int .u64 n115), (AV.int .u64 n116), x117])) ∧
 ∃ (n118 : Int) (n119 : Int) (n120 : Int) (n121 : Int) (n122 : Int) (n123 : Int) (x124 : AV),
 ((ldN s110 (AV.ptr m47 0) 7) = (some [(AV.int .u64 n118), (AV.int .u64 n119), (AV.int .u64 n120), (AV.int .u64 n121), (AV.int .u64 n122), (AV.int .u64 n123), x124])) ∧
 CallsA P F.calls_Minus [(AV.agg [(AV.int .u64 n111), (AV.int .u64 n112), (AV.int .u64 n113), (AV.int .u64 n114), (AV.int .u64 n115), (AV.int .u64 n116), x117]), (AV.agg [(AV.int .u64 n118), (AV.int .u64 n119), (AV.int .u64 n120), (AV.int .u64 n121), (AV.int .u64 n122), (AV.int .u64 n123), x124])] s110 fun x125 s126 =>
 ∃ (n127 : Int) (n128 : Int) (n129 : Int) (n130 : Int) (n131 : Int) (n132 : Int) (x133 : AV) (n134 : Int),
 (x125 = (AV.tuple [(AV.agg [(AV.int .u64 n127), (AV.int .u64 n128), (AV.int .u64 n129), (AV.int .u64 n130), (AV.int .u64 n131), (AV.int .u64 n132), x133]), (AV.int .i64 n134)])) ∧
 ∀ (m135 : Nat) (s136 : St),
 (NewO s126 (cellsO [(AV.int .u64 0), (AV.int .u64 0), (AV.int .u64 0), (AV.int .u64 0), (AV.int .u64 0), (AV.int .u64 0), AV.nilslice]) m135 s136) →
 ∃ (s137 : St),
 ((wrN s136 (AV.ptr m135 0) [(AV.int .u64 n127), (AV.int .u64 n128), (AV.int .u64 n129), (AV.int .u64 n130), (AV.int .u64 n131), (AV.int .u64 n132), x133]) = (some s137)) ∧
 ∃ (n138 : Int) (n139 : Int) (n140 : Int) (n141 : Int) (n142 : Int) (n143 : Int) (x144 : AV),
 ((ldN s137 (AV.ptr m27 0) 7) = (some [(AV.int .u64 n138), (AV.int .u64 n139), (AV.int .u64 n140), (AV.int .u64 n141), (AV.int .u64 n142), (AV.int .u64 n143), x144])) ∧
 ∃ (n145 : Int) (n146 : Int) (n147 : Int) (n148 : Int) (n149 : Int) (n150 : Int) (x151 : AV),
 ((ldN s137 (AV.ptr m47 0) 7) = (some [(AV.int .u64 n145), (AV.int .u64 n146), (AV.int .u64 n147), (AV.int .u64 n148), (AV.int .u64 n149), (AV.int .u64 n150), x151])) ∧
 CallsA P F.calls_Plus [(AV.agg [(AV.int .u64 n138), (AV.int .u64 n139), (AV.int .u64 n140), (AV.int .u64 n141), (AV.int .u64 n142), (AV.int .u64 n143), x144]), (AV.agg [(AV.int .u64 n145), (AV.int .u64 n146), (AV.int .u64 n147), (AV.int .u64 n148), (AV.int .u64 n149), (AV.int .u64 n150), x151])] s137 fun x152 s153 =>
 ∃ (n154 : Int) (n155 : Int) (n156 : Int) (n157 : Int) (n158 : Int) (n159 : Int) (x160 : AV) (n161 : Int),
 (x152 = (AV.tuple [(AV.agg [(AV.int .u64 n154), (AV.int .u64 n155), (AV.int .u64 n156), (AV.int .u64 n157), (AV.int .u64 n158), (AV.int .u64 n159), x160]), (AV.int .i64 n161)])) ∧
 ∀ (m162 : Nat) (s163 : St),
 (NewO s153 (cellsO [(AV.int .u64 0), (AV.int .u64 0), (AV.int .u64 0), (AV.int .u64 0), (AV.int .u64 0), (AV.int .u64 0), AV.nilslice]) m162 s163) →
 ∃ (s164 : St),
 ((wrN s163 (AV.ptr m162 0) [(AV.int .u64 n154), (AV.int .u64 n155), (AV.int .u64 n156), (AV.int .u64 n157), (AV.int .u64 n158), (AV.int .u64 n159), x160]) = (some s164)) ∧
 ∃ (n165 : Int) (n166 : Int) (n167 : Int) (n168 : Int) (n169 : Int) (n170 : Int) (x171 : AV),
 ((ldN s164 (AV.ptr m27 0) 7) = (some [(AV.int .u64 n165), (AV.int .u64 n166), (AV.int .u64 n167), (AV.int .u64 n168), (AV.int .u64 n169), (AV.int .u64 n170), x171])) ∧
 ∃ (n172 : Int) (n173 : Int) (n174 : Int) (n175 : Int) (n176 : Int) (n177 : Int) (x178 : AV),
 ((ldN s164 (AV.ptr m47 0) 7) = (some [(AV.int .u64 n172), (AV.int .u64 n173), (AV.int .u64 n174), (AV.int .u64 n175), (AV.int .u64 n176), (AV.int .u64 n177), x178])) ∧
 CallsA P F.calls_Minus [(AV.agg [(AV.int .u64 n165), (AV.int .u64 n166), (AV.int .u64 n167), (AV.int .u64 n168), (AV.int .u64 n169), (AV.int .u64 n170), x171]), (AV.agg [(AV.int .u64 n172), (AV.int .u64 n173), (AV.int .u64 n174), (AV.int .u64 n175), (AV.int .u64 n176), (AV.int .u64 n177), x178])] s164 fun x179 s180 =>
 ∃ (n181 : Int) (n182 : Int) (n183 : Int) (n184 : Int) (n185 : Int) (n186 : Int) (x187 : AV) (n188 : Int),
 (x179 = (AV.tuple [(AV.agg [(AV.int .u64 n181), (AV.int .u64 n182), (AV.int .u64 n183), (AV.int .u64 n184), (AV.int .u64 n185), (AV.int .u64 n186), x187]), (AV.int .i64 n188)])) ∧
 ∀ (m189 : Nat) (s190 : St),
 (NewO s180 (cellsO [(AV.int .u64 0), (AV.int .u64 0), (AV.int .u64 0), (AV.int .u64 0), (AV.int .u64 0), (AV.int .u64 0), AV.nilslice]) m189 s190) →
 ∃ (s191 : St),
 ((wrN s190 (AV.ptr m189 0) [(AV.int .u64 n181), (AV.int .u64 n182), (AV.int .u64 n183), (AV.int .u64 n184), (AV.int .u64 n185), (AV.int .u64 n186), x187]) = (some s191)) ∧
 ∃ (n192 : Int) (n193 : Int) (n194 : Int) (n195 : Int) (n196 : Int) (n197 : Int) (x198 : AV),
 ((ldN s191 (AV.ptr m3 0) 7) = (some [(AV.int .u64 n192), (AV.int .u64 n193), (AV.int .u64 n194), (AV.int .u64 n195), (AV.int .u64 n196), (AV.int .u64 n197), x198])) ∧
 ∃ (n199 : Int) (n200 : Int) (n201 : Int) (n202 : Int) (n203 : Int) (n204 : Int) (x205 : AV),
 ((ldN s191 (AV.ptr m5 0) 7) = (some [(AV.int .u64 n199), (AV.int .u64 n200), (AV.int .u64 n201), (AV.int .u64 n202), (AV.int .u64 n203), (AV.int .u64 n204), x205])) ∧
 CallsA P F.spoorref14_Plus [(AV.agg [(AV.int .u64 n192), (AV.int .u64 n193), (AV.int .u64 n194), (AV.int .u64 n195), (AV.int .u64 n196), (AV.int .u64 n197), x198]), (AV.agg [(AV.int .u64 n199), (AV.int .u64 n200), (AV.int .u64 n201), (AV.int .u64 n202), (AV.int .u64 n203), (AV.int .u64 n204), x205])] s191 fun x206 s207 =>
 ∃ (n208 : Int) (n209 : Int) (n210 : Int) (n211 : Int) (n212 : Int) (n213 : Int) (x214 : AV) (n215 : Int),
 (x206 = (AV.tuple [(AV.agg [(AV.int .u64 n208), (AV.int .u64 n209), (AV.int .u64 n210), (AV.int .u64 n211), (AV.int .u64 n212), (AV.int .u64 n213), x214]), (AV.int .i64 n215)])) ∧
 ∀ (m216 : Nat) (s217 : St),
 (NewO s207 (cellsO [(AV.int .u64 0), (AV.int .u64 0), (AV.int .u64 0), (AV.int .u64 0), (AV.int .u64 0), (AV.int .u64 0), AV.nilslice]) m216 s217) →
 ∃ (s218 : St),
 ((wrN s217 (AV.ptr m216 0) [(AV.int .u64 n208), (AV.int .u64 n209), (AV.int .u64 n210), (AV.int .u64 n211), (AV.int .u64 n212), (AV.int .u64 n213), x214]) = (some s218)) ∧
 ∃ (n219 : Int) (n220 : Int) (n221 : Int) (n222 : Int) (n223 : Int) (n224 : Int) (x225 : AV),
 ((ldN s218 (AV.ptr m3 0) 7) = (some [(AV.int .u64 n219), (AV.int .u64 n220), (AV.int .u64 n221), (AV.int .u64 n222), (AV.int .u64 n223), (AV.int .u64 n224), x225])) ∧
 ∃ (n226 : Int) (n227 : Int) (n228 : Int) (n229 : Int) (n230 : Int) (n231 : Int) (x232 : AV),
 ((ldN s218 (AV.ptr m5 0) 7) = (some [(AV.int .u64 n226), (AV.int .u64 n227), (AV.int .u64 n228), (AV.int .u64 n229), (AV.int .u64 n230), (AV.int .u64 n231), x232])) ∧
 CallsA P F.spoorref14_Minus [(AV.agg [(AV.int .u64 n219), (AV.int .u64 n220), (AV.int .u64 n221), (AV.int .u64 n222), (AV.int .u64 n223), (AV.int .u64 n224), x225]), (AV.agg [(AV.int .u64 n226), (AV.int .u64 n227), (AV.int .u64 n228), (AV.int .u64 n229), (AV.int .u64 n230), (AV.int .u64 n231), x232])] s218 fun x233 s234 =>
 ∃ (n235 : Int) (n236 : Int) (n237 : Int) (n238 : Int) (n239 : Int) (n240 : Int) (x241 : AV) (n242 : Int),
 (x233 = (AV.tuple [(AV.agg [(AV.int .u64 n235), (AV.int .u64 n236), (AV.int .u64 n237), (AV.int .u64 n238), (AV.int .u64 n239), (AV.int .u64 n240), x241]), (AV.int .i64 n242)])) ∧
 ∀ (m243 : Nat) (s244 : St),
 (NewO s234 (cellsO [(AV.int .u64 0), (AV.int .u64 0), (AV.int .u64 0), (AV.int .u64 0), (AV.int .u64 0), (AV.int .u64 0), AV.nilslice]) m243 s244) →
 ∃ (s245 : St),
 ((wrN s244 (AV.ptr m243 0) [(AV.int .u64 n235), (AV.int .u64 n236), (AV.int .u64 n237), (AV.int .u64 n238), (AV.int .u64 n239), (AV.int .u64 n240), x241]) = (some s245)) ∧
 ∃ (n246 : Int) (t247 : ByteArray) (t248 : ByteArray) (c249 : Bool) (n250 : Int),
 ((ldN s245 (AV.ptr m1 0) 5) = (some [(AV.int .i64 n246), (AV.str t247), (AV.str t248), (AV.bool c249), (AV.int .u64 n250)])) ∧
 CallsA P F.spoorref14_One [(AV.agg [(AV.int .i64 n246), (AV.str t247), (AV.str t248), (AV.bool c249), (AV.int .u64 n250)])] s245 fun x251 s252 =>
 ∃ (n253 : Int) (n254 : Int) (n255 : Int) (n256 : Int) (n257 : Int) (n258 : Int) (x259 : AV),
 (x251 = (AV.agg [(AV.int .u64 n253), (AV.int .u64 n254), (AV.int .u64 n255), (AV.int .u64 n256), (AV.int .u64 n257), (AV.int .u64 n258), x259])) ∧
 ∀ (m260 : Nat) (s261 : St),
 (NewO s252 (cellsO [(AV.int .u64 0), (AV.int .u64 0), (AV.int .u64 0), (AV.int .u64 0), (AV.int .u64 0), (AV.int .u64 0), AV.nilslice]) m260 s261) →
 ∃ (s262 : St),
 ((wrN s261 (AV.ptr m260 0) [(AV.int .u64 n253), (AV.int .u64 n254), (AV.int .u64 n255), (AV.int .u64 n256), (AV.int .u64 n257), (AV.int .u64 n258), x259]) = (some s262)) ∧
 ∃ (n263 : Int) (n264 : Int) (n265 : Int) (n266 : Int) (n267 : Int) (n268 : Int) (x269 : AV),
 ((ldN s262 (AV.ptr m64 0) 7) = (some [(AV.int .u64 n263), (AV.int .u64 n264), (AV.int .u64 n265), (AV.int .u64 n266), (AV.int .u64 n267), (AV.int .u64 n268), x269])) ∧
 ∃ (n270 : Int) (n271 : Int) (n272 : Int) (n273 : Int) (n274 : Int) (n275 : Int) (x276 : AV),
 ((ldN s262 (AV.ptr m260 0) 7) = (some [(AV.int .u64 n270), (AV.int .u64 n271), (AV.int .u64 n272), (AV.int .u64 n273), (AV.int .u64 n274), (AV.int .u64 n275), x276])) ∧
 CallsA P F.spoorlaw14_sameTally [(AV.agg [(AV.int .u64 n263), (AV.int .u64 n264), (AV.int .u64 n265), (AV.int .u64 n266), (AV.int .u64 n267), (AV.int .u64 n268), x269]), (AV.agg [(AV.int .u64 n270), (AV.int .u64 n271), (AV.int .u64 n272), (AV.int .u64 n273), (AV.int .u64 n274), (AV.int .u64 n275), x276])] s262 fun x277 s278 =>
 ∃ (c279 : Bool),
 (x277 = (AV.bool c279)) ∧
 ∃ (n280 : Int) (n281 : Int) (n282 : Int) (n283 : Int) (n284 : Int) (n285 : Int) (x286 : AV),
 ((ldN s278 (AV.ptr m81 0) 7) = (some [(AV.int .u64 n280), (AV.int .u64 n281), (AV.int .u64 n282), (AV.int .u64 n283), (AV.int .u64 n284), (AV.int .u64 n285), x286])) ∧
 ∃ (n287 : Int) (n288 : Int) (n289 : Int) (n290 : Int) (n291 : Int) (n292 : Int) (x293 : AV),
 ((ldN s278 (AV.ptr m260 0) 7) = (some [(AV.int .u64 n287), (AV.int .u64 n288), (AV.int .u64 n289), (AV.int .u64 n290), (AV.int .u64 n291), (AV.int .u64 n292), x293])) ∧
 CallsA P F.spoorlaw14_sameTally [(AV.agg [(AV.int .u64 n280), (AV.int .u64 n281), (AV.int .u64 n282), (AV.int .u64 n283), (AV.int .u64 n284), (AV.int .u64 n285), x286]), (AV.agg [(AV.int .u64 n287), (AV.int .u64 n288), (AV.int .u64 n289), (AV.int .u64 n290), (AV.int .u64 n291), (AV.int .u64 n292), x293])] s278 fun x294 s295 =>
 ∃ (c296 : Bool),
 (x294 = (AV.bool c296)) ∧
 ∃ (n297 : Int) (n298 : Int) (n299 : Int) (n300 : Int) (n301 : Int) (n302 : Int) (x303 : AV),
 ((ldN s295 (AV.ptr m108 0) 7) = (some [(AV.int .u64 n297), (AV.int .u64 n298), (AV.int .u64 n299), (AV.int .u64 n300), (AV.int .u64 n301), (AV.int .u64 n302), x303])) ∧
 ∃ (n304 : Int) (n305 : Int) (n306 : Int) (n307 : Int) (n308 : Int) (n309 : Int) (x310 : AV),
 ((ldN s295 (AV.ptr m216 0) 7) = (some [(AV.int .u64 n304), (AV.int .u64 n305), (AV.int .u64 n306), (AV.int .u64 n307), (AV.int .u64 n308), (AV.int .u64 n309), x310])) ∧
 CallsA P F.spoorlaw14_sameTally [(AV.agg [(AV.int .u64 n297), (AV.int .u64 n298), (AV.int .u64 n299), (AV.int .u64 n300), (AV.int .u64 n301), (AV.int .u64 n302), x303]), (AV.agg [(AV.int .u64 n304), (AV.int .u64 n305), (AV.int .u64 n306), (AV.int .u64 n307), (AV.int .u64 n308), (AV.int .u64 n309), x310])] s295 fun x311 s312 =>
 ∃ (c313 : Bool),
 (x311 = (AV.bool c313)) ∧
 ∃ (n314 : Int) (n315 : Int) (n316 : Int) (n317 : Int) (n318 : Int) (n319 : Int) (x320 : AV),
 ((ldN s312 (AV.ptr m135 0) 7) = (some [(AV.int .u64 n314), (AV.int .u64 n315), (AV.int .u64 n316), (AV.int .u64 n317), (AV.int .u64 n318), (AV.int .u64 n319), x320])) ∧
 ∃ (n321 : Int) (n322 : Int) (n323 : Int) (n324 : Int) (n325 : Int) (n326 : Int) (x327 : AV),
 ((ldN s312 (AV.ptr m243 0) 7) = (some [(AV.int .u64 n321), (AV.int .u64 n322), (AV.int .u64 n323), (AV.int .u64 n324), (AV.int .u64 n325), (AV.int .u64 n326), x327])) ∧
 CallsA P F.spoorlaw14_sameTally [(AV.agg [(AV.int .u64 n314), (AV.int .u64 n315), (AV.int .u64 n316), (AV.int .u64 n317), (AV.int .u64 n318), (AV.int .u64 n319), x320]), (AV.agg [(AV.int .u64 n321), (AV.int .u64 n322), (AV.int .u64 n323), (AV.int .u64 n324), (AV.int .u64 n325), (AV.int .u64 n326), x327])] s312 fun x328 s329 =>
 ∃ (c330 : Bool),
 (x328 = (AV.bool c330)) ∧
 ∃ (n331 : Int) (n332 : Int) (n333 : Int) (n334 : Int) (n335 : Int) (n336 : Int) (x337 : AV),
 ((ldN s329 (AV.ptr m162 0) 7) = (some [(AV.int .u64 n331), (AV.int .u64 n332), (AV.int .u64 n333), (AV.int .u64 n334), (AV.int .u64 n335), (AV.int .u64 n336), x337])) ∧
 ∃ (n338 : Int) (n339 : Int) (n340 : Int) (n341 : Int) (n342 : Int) (n343 : Int) (x344 : AV),
 ((ldN s329 (AV.ptr m216 0) 7) = (some [(AV.int .u64 n338), (AV.int .u64 n339), (AV.int .u64 n340), (AV.int .u64 n341), (AV.int .u64 n342), (AV.int .u64 n343), x344])) ∧
 CallsA P F.spoorlaw14_sameTally [(AV.agg [(AV.int .u64 n331), (AV.int .u64 n332), (AV.int .u64 n333), (AV.int .u64 n334), (AV.int .u64 n335), (AV.int .u64 n336), x337]), (AV.agg [(AV.int .u64 n338), (AV.int .u64 n339), (AV.int .u64 n340), (AV.int .u64 n341), (AV.int .u64 n342), (AV.int .u64 n343), x344])] s329 fun x345 s346 =>
 ∃ (c347 : Bool),
 (x345 = (AV.bool c347)) ∧
 ∃ (n348 : Int) (n349 : Int) (n350 : Int) (n351 : Int) (n352 : Int) (n353 : Int) (x354 : AV),
 ((ldN s346 (AV.ptr m189 0) 7) = (some [(AV.int .u64 n348), (AV.int .u64 n349), (AV.int .u64 n350), (AV.int .u64 n351), (AV.int .u64 n352), (AV.int .u64 n353), x354])) ∧
 ∃ (n355 : Int) (n356 : Int) (n357 : Int) (n358 : Int) (n359 : Int) (n360 : Int) (x361 : AV),
 ((ldN s346 (AV.ptr m243 0) 7) = (some [(AV.int .u64 n355), (AV.int .u64 n356), (AV.int .u64 n357), (AV.int .u64 n358), (AV.int .u64 n359), (AV.int .u64 n360), x361])) ∧
 CallsA P F.spoorlaw14_sameTally [(AV.agg [(AV.int .u64 n348), (AV.int .u64 n349), (AV.int .u64 n350), (AV.int .u64 n351), (AV.int .u64 n352), (AV.int .u64 n353), x354]), (AV.agg [(AV.int .u64 n355), (AV.int .u64 n356), (AV.int .u64 n357), (AV.int .u64 n358), (AV.int .u64 n359), (AV.int .u64 n360), x361])] s346 fun x362 s363 =>
 ∃ (c364 : Bool),
 (x362 = (AV.bool c364)) ∧
 ∃ (I365 : (St → (Nat → Prop))),
 (
  ∃ (I366 : (Bool → (St → (Nat → Prop)))),
  (
   ∀ (s367 : St),
   (Bump s363 55 s367) →
   bsel (!c9) (
    ∃ (m368 : Nat),
    (I366 true s367 m368)
   ) (
    bsel (!c279) (
     ∃ (m369 : Nat),
     (I366 true s367 m369)
    ) (
     bsel (!c296) (
      ∃ (m370 : Nat),
      (I366 true s367 m370)
     ) (
      bsel (!c313) (
       ∃ (m371 : Nat),
       (I366 true s367 m371)
      ) (
       bsel (!c330) (
        ∃ (m372 : Nat),
        (I366 true s367 m372)
       ) (
        bsel (!c347) (
         ∃ (m373 : Nat),
         (I366 true s367 m373)
        ) (
         bsel (!c364) (
          ∃ (m374 : Nat),
          (I366 true s367 m374)
         ) (
          bsel (n107 != n215) (
           ∃ (m375 : Nat),
           (I366 true s367 m375)
          ) (
           bsel (n161 != n215) (
            ∃ (m376 : Nat),
            (I366 true s367 m376)
           ) (
            bsel (n134 != n242) (
             ∃ (m377 : Nat),
             (I366 true s367 m377)
            ) (
             bsel (n188 != n242) (
              ∃ (m378 : Nat),
              (I366 true s367 m378)
             ) (
              ∃ (n379 : Int) (n380 : Int),
              ((ldN s367 (AV.ptr m3 4) 2) = (some [(AV.int .u64 n379), (AV.int .u64 n380)])) ∧
              CallsD P F.calls_Cap [(AV.agg [(AV.int .u64 n379), (AV.int .u64 n380)])] s367 fun x381 s382 =>
              ∃ (n383 : Int),
              (x381 = (AV.int .u64 n383)) ∧
              ∃ (n384 : Int) (n385 : Int),
              ((ldN s382 (AV.ptr m3 4) 2) = (some [(AV.int .u64 n384), (AV.int .u64 n385)])) ∧
              ((ldN s367 (AV.ptr m3 4) 2) = (some [(AV.int .u64 n384), (AV.int .u64 n385)])) ∧
              CallsD P F.spoorref14_Cap [(AV.agg [(AV.int .u64 n384), (AV.int .u64 n385)])] s382 fun x386 s387 =>
              ∃ (n388 : Int),
              (x386 = (AV.int .u64 n388)) ∧
              ∃ (m389 : Nat),
              (I366 (n383 != n388) s387 m389)
             )
            )
           )
          )
         )
        )
       )
      )
     )
    )
   )
  ) ∧
  ∀ (c390 : Bool) (s391 : St) (m392 : Nat),
  (I366 c390 s391 m392) →
  bsel c390 (
   (Q (AV.bool false) s391)
  ) (
   ∃ (m393 : Nat),
   (I365 s391 m393)
  )
 ) ∧
 ∀ (s394 : St) (m395 : Nat),
 (I365 s394 m395) →
 ∃ (x396 : AV),
 ((ld1 s394 (AV.ptr m3 6)) = (some x396)) ∧
 CallsA P F.spoorlaw14_barsStay [x26, x396] s394 fun x397 s398 =>
 ∃ (c399 : Bool),
 (x397 = (AV.bool c399)) ∧
 ∃ (x400 : AV),
 ((ld1 s398 (AV.ptr m5 6)) = (some x400)) ∧
 CallsA P F.spoorlaw14_barsStay [x46, x400] s398 fun x401 s402 =>
 ∃ (c403 : Bool),
 (x401 = (AV.bool c403)) ∧
 ∃ (I404 : (Int → (St → (Nat → Prop)))),
 (
  ∃ (m405 : Nat),
  (I404 0 s402 m405)
 ) ∧
 ∀ (n406 : Int) (s407 : St) (m408 : Nat),
 (I404 n406 s407 m408) →
 ∃ (x409 : AV),
 ((ld1 s407 (AV.ptr m3 6)) = (some x409)) ∧
 slenK x409 fun m410 =>
 bsel (decide (n406 < ((m410 : Nat) : Int))) (
  ixsK 2 x26 n406 fun m411 m412 =>
  ∃ (n413 : Int),
  ((ld1 s407 (AV.ptr m411 (m412 + 1))) = (some (AV.int .u64 n413))) ∧
  ixsK 2 x26 n406 fun m414 m415 =>
  ∃ (s416 : St),
  ((wrN s407 (AV.ptr m414 (m415 + 1)) [(AV.int .u64 (IntKind.wrap .u64 (n413 + 5)))]) = (some s416)) ∧
  ∃ (m417 : Nat),
  (m417 < m408) ∧
  (I404 (IntKind.wrap .i64 (n406 + 1)) s416 m417)
 ) (
  ∀ (s418 : St),
  (Bump s407 16 s418) →
  ∃ (n419 : Int) (n420 : Int),
  ((ldN s418 (AV.ptr m3 0) 2) = (some [(AV.int .u64 n419), (AV.int .u64 n420)])) ∧
  ∃ (n421 : Int) (n422 : Int),
  ((ldN s418 (AV.ptr m3 2) 2) = (some [(AV.int .u64 n421), (AV.int .u64 n422)])) ∧
  ∃ (n423 : Int) (n424 : Int),
  ((ldN s418 (AV.ptr m3 4) 2) = (some [(AV.int .u64 n423), (AV.int .u64 n424)])) ∧
  ∃ (x425 : AV),
  ((ld1 s418 (AV.ptr m3 6)) = (some x425)) ∧
  slenK x425 fun m426 =>
  optK (sliceV 2 x26 none (some (AV.int .i64 ((m426 : Nat) : Int))) none) fun x427 =>
  ∃ (x428 : AV) (s429 : St),
  ((appendX D (hsetS s418 ((St.nx s407) + 6) (cellsO [])) T.sl_api_Bar T.sl_api_Bar (AV.slice ((St.nx s407) + 6) 0 0 (ACap.exact 0)) x427) = (some (x428, s429))) ∧
  ((ldN s429 (AV.ptr m3 4) 2) = (some [(AV.int .u64 n423), (AV.int .u64 n424)])) ∧
  ((ldN s429 (AV.ptr m3 2) 2) = (some [(AV.int .u64 n421), (AV.int .u64 n422)])) ∧
  ((ldN s429 (AV.ptr m3 0) 2) = (some [(AV.int .u64 n419), (AV.int .u64 n420)])) ∧
  (oneK x428 (∃ s430 : St, (((wrN (hsetS s429 ((St.nx s407) + 14) (cellsO [(AV.int .u64 0), (AV.int .u64 0), (AV.int .u64 0), (AV.int .u64 0), (AV.int .u64 0), (AV.int .u64 0), AV.nilslice])) (AV.ptr ((St.nx s407) + 14) 0) [(AV.int .u64 n419), (AV.int .u64 n420), (AV.int .u64 n421), (AV.int .u64 n422), (AV.int .u64 n423), (AV.int .u64 n424), x428]) = (some s430)) ∧ (∃ n431 : Int, (∃ n432 : Int, (∃ n433 : Int, (∃ n434 : Int, (∃ n435 : Int, (∃ n436 : Int, (∃ x437 : AV, (((ldN s430 (AV.ptr m27 0) 7) = (some [(AV.int .u64 n431), (AV.int .u64 n432), (AV.int .u64 n433), (AV.int .u64 n434), (AV.int .u64 n435), (AV.int .u64 n436), x437])) ∧ (∃ n438 : Int, (∃ n439 : Int, (∃ n440 : Int, (∃ n441 : Int, (∃ n442 : Int, (∃ n443 : Int, (∃ x444 : AV, (((ldN s430 (AV.ptr m47 0) 7) = (some [(AV.int .u64 n438), (AV.int .u64 n439), (AV.int .u64 n440), (AV.int .u64 n441), (AV.int .u64 n442), (AV.int .u64 n443), x444])) ∧ (CallsA P F.calls_Plus [(AV.agg [(AV.int .u64 n431), (AV.int .u64 n432), (AV.int .u64 n433), (AV.int .u64 n434), (AV.int .u64 n435), (AV.int .u64 n436), x437]), (AV.agg [(AV.int .u64 n438), (AV.int .u64 n439), (AV.int .u64 n440), (AV.int .u64 n441), (AV.int .u64 n442), (AV.int .u64 n443), x444])] s430 (fun x445 => (fun s446 => (∃ n447 : Int, (∃ n448 : Int, (∃ n449 : Int, (∃ n450 : Int, (∃ n451 : Int, (∃ n452 : Int, (∃ x453 : AV, (∃ n454 : Int, ((x445 = (AV.tuple [(AV.agg [(AV.int .u64 n447), (AV.int .u64 n448), (AV.int .u64 n449), (AV.int .u64 n450), (AV.int .u64 n451), (AV.int .u64 n452), x453]), (AV.int .i64 n454)])) ∧ (∀ m455 : Nat, (∀ s456 : St, ((NewO s446 (cellsO [(AV.int .u64 0), (AV.int .u64 0), (AV.int .u64 0), (AV.int .u64 0), (AV.int .u64 0), (AV.int .u64 0), AV.nilslice]) m455 s456) → (∃ s457 : St, (((wrN s456 (AV.ptr m455 0) [(AV.int .u64 n447), (AV.int .u64 n448), (AV.int .u64 n449), (AV.int .u64 n450), (AV.int .u64 n451), (AV.int .u64 n452), x453]) = (some s457)) ∧ (∃ n458 : Int, (∃ n459 : Int, (∃ n460 : Int, (∃ n461 : Int, (∃ n462 : Int, (∃ n463 : Int, (∃ x464 : AV, (((ldN s457 (AV.ptr m27 0) 7) = (some [(AV.int .u64 n458), (AV.int .u64 n459), (AV.int .u64 n460), (AV.int .u64 n461), (AV.int .u64 n462), (AV.int .u64 n463), x464])) ∧ (∃ n465 : Int, (∃ n466 : Int, (∃ n467 : Int, (∃ n468 : Int, (∃ n469 : Int, (∃ n470 : Int, (∃ x471 : AV, (((ldN s457 (AV.ptr m47 0) 7) = (some [(AV.int .u64 n465), (AV.int .u64 n466), (AV.int .u64 n467), (AV.int .u64 n468), (AV.int .u64 n469), (AV.int .u64 n470), x471])) ∧ (CallsA P F.calls_Minus [(AV.agg [(AV.int .u64 n458), (AV.int .u64 n459), (AV.int .u64 n460), (AV.int .u64 n461), (AV.int .u64 n462), (AV.int .u64 n463), x464]), (AV.agg [(AV.int .u64 n465), (AV.int .u64 n466), (AV.int .u64 n467), (AV.int .u64 n468), (AV.int .u64 n469), (AV.int .u64 n470), x471])] s457 (fun x472 => (fun s473 => (∃ n474 : Int, (∃ n475 : Int, (∃ n476 : Int, (∃ n477 : Int, (∃ n478 : Int, (∃ n479 : Int, (∃ x480 : AV, (∃ n481 : Int, ((x472 = (AV.tuple [(AV.agg [(AV.int .u64 n474), (AV.int .u64 n475), (AV.int .u64 n476), (AV.int .u64 n477), (AV.int .u64 n478), (AV.int .u64 n479), x480]), (AV.int .i64 n481)])) ∧ (∀ m482 : Nat, (∀ s483 : St, ((NewO s473 (cellsO [(AV.int .u64 0), (AV.int .u64 0), (AV.int .u64 0), (AV.int .u64 0), (AV.int .u64 0), (AV.int .u64 0), AV.nilslice]) m482 s483) → (∃ s484 : St, (((wrN s483 (AV.ptr m482 0) [(AV.int .u64 n474), (AV.int .u64 n475), (AV.int .u64 n476), (AV.int .u64 n477), (AV.int .u64 n478), (AV.int .u64 n479), x480]) = (some s484)) ∧ (∃ n485 : Int, (∃ n486 : Int, (∃ n487 : Int, (∃ n488 : Int, (∃ n489 : Int, (∃ n490 : Int, (∃ x491 : AV, (((ldN s484 (AV.ptr ((St.nx s407) + 14) 0) 7) = (some [(AV.int .u64 n485), (AV.int .u64 n486), (AV.int .u64 n487), (AV.int .u64 n488), (AV.int .u64 n489), (AV.int .u64 n490), x491])) ∧ (∃ n492 : Int, (∃ n493 : Int, (∃ n494 : Int, (∃ n495 : Int, (∃ n496 : Int, (∃ n497 : Int, (∃ x498 : AV, (((ldN s484 (AV.ptr m5 0) 7) = (some [(AV.int .u64 n492), (AV.int .u64 n493), (AV.int .u64 n494), (AV.int .u64 n495), (AV.int .u64 n496), (AV.int .u64 n497), x498])) ∧ (CallsA P F.spoorref14_Plus [(AV.agg [(AV.int .u64 n485), (AV.int .u64 n486), (AV.int .u64 n487), (AV.int .u64 n488), (AV.int .u64 n489), (AV.int .u64 n490), x491]), (AV.agg [(AV.int .u64 n492), (AV.int .u64 n493), (AV.int .u64 n494), (AV.int .u64 n495), (AV.int .u64 n496), (AV.int .u64 n497), x498])] s484 (fun x499 => (fun s500 => (∃ n501 : Int, (∃ n502 : Int, (∃ n503 : Int, (∃ n504 : Int, (∃ n505 : Int, (∃ n506 : Int, (∃ x507 : AV, (∃ n508 : Int, ((x499 = (AV.tuple [(AV.agg [(AV.int .u64 n501), (AV.int .u64 n502), (AV.int .u64 n503), (AV.int .u64 n504), (AV.int .u64 n505), (AV.int .u64 n506), x507]), (AV.int .i64 n508)])) ∧ (∀ m509 : Nat, (∀ s510 : St, ((NewO s500 (cellsO [(AV.int .u64 0), (AV.int .u64 0), (AV.int .u64 0), (AV.int .u64 0), (AV.int .u64 0), (AV.int .u64 0), AV.nilslice]) m509 s510) → (∃ s511 : St, (((wrN s510 (AV.ptr m509 0) [(AV.int .u64 n501), (AV.int .u64 n502), (AV.int .u64 n503), (AV.int .u64 n504), (AV.int .u64 n505), (AV.int .u64 n506), x507]) = (some s511)) ∧ (∃ n512 : Int, (∃ n513 : Int, (∃ n514 : Int, (∃ n515 : Int, (∃ n516 : Int, (∃ n517 : Int, (∃ x518 : AV, (((ldN s511 (AV.ptr ((St.nx s407) + 14) 0) 7) = (some [(AV.int .u64 n512), (AV.int .u64 n513), (AV.int .u64 n514), (AV.int .u64 n515), (AV.int .u64 n516), (AV.int .u64 n517), x518])) ∧ (∃ n519 : Int, (∃ n520 : Int, (∃ n521 : Int, (∃ n522 : Int, (∃ n523 : Int, (∃ n524 : Int, (∃ x525 : AV, (((ldN s511 (AV.ptr m5 0) 7) = (some [(AV.int .u64 n519), (AV.int .u64 n520), (AV.int .u64 n521), (AV.int .u64 n522), (AV.int .u64 n523), (AV.int .u64 n524), x525])) ∧ (CallsA P F.spoorref14_Minus [(AV.agg [(AV.int .u64 n512), (AV.int .u64 n513), (AV.int .u64 n514), (AV.int .u64 n515), (AV.int .u64 n516), (AV.int .u64 n517), x518]), (AV.agg [(AV.int .u64 n519), (AV.int .u64 n520), (AV.int .u64 n521), (AV.int .u64 n522), (AV.int .u64 n523), (AV.int .u64 n524), x525])] s511 (fun x526 => (fun s527 => (∃ n528 : Int, (∃ n529 : Int, (∃ n530 : Int, (∃ n531 : Int, (∃ n532 : Int, (∃ n533 : Int, (∃ x534 : AV, (∃ n535 : Int, ((x526 = (AV.tuple [(AV.agg [(AV.int .u64 n528), (AV.int .u64 n529), (AV.int .u64 n530), (AV.int .u64 n531), (AV.int .u64 n532), (AV.int .u64 n533), x534]), (AV.int .i64 n535)])) ∧ (∀ m536 : Nat, (∀ s537 : St, ((NewO s527 (cellsO [(AV.int .u64 0), (AV.int .u64 0), (AV.int .u64 0), (AV.int .u64 0), (AV.int .u64 0), (AV.int .u64 0), AV.nilslice]) m536 s537) → (∃ s538 : St, (((wrN s537 (AV.ptr m536 0) [(AV.int .u64 n528), (AV.int .u64 n529), (AV.int .u64 n530), (AV.int .u64 n531), (AV.int .u64 n532), (AV.int .u64 n533), x534]) = (some s538)) ∧ (∃ n539 : Int, (∃ n540 : Int, (∃ n541 : Int, (∃ n542 : Int, (∃ n543 : Int, (∃ n544 : Int, (∃ x545 : AV, (((ldN s538 (AV.ptr m455 0) 7) = (some [(AV.int .u64 n539), (AV.int .u64 n540), (AV.int .u64 n541), (AV.int .u64 n542), (AV.int .u64 n543), (AV.int .u64 n544), x545])) ∧ (∃ n546 : Int, (∃ n547 : Int, (∃ n548 : Int, (∃ n549 : Int, (∃ n550 : Int, (∃ n551 : Int, (∃ x552 : AV, (((ldN s538 (AV.ptr m509 0) 7) = (some [(AV.int .u64 n546), (AV.int .u64 n547), (AV.int .u64 n548), (AV.int .u64 n549), (AV.int .u64 n550), (AV.int .u64 n551), x552])) ∧ (CallsA P F.spoorlaw14_sameTally [(AV.agg [(AV.int .u64 n539), (AV.int .u64 n540), (AV.int .u64 n541), (AV.int .u64 n542), (AV.int .u64 n543), (AV.int .u64 n544), x545]), (AV.agg [(AV.int .u64 n546), (AV.int .u64 n547), (AV.int .u64 n548), (AV.int .u64 n549), (AV.int .u64 n550), (AV.int .u64 n551), x552])] s538 (fun x553 => (fun s554 => (∃ c555 : Bool, ((x553 = (AV.bool c555)) ∧ (∃ n556 : Int, (∃ n557 : Int, (∃ n558 : Int, (∃ n559 : Int, (∃ n560 : Int, (∃ n561 : Int, (∃ x562 : AV, (((ldN s554 (AV.ptr m482 0) 7) = (some [(AV.int .u64 n556), (AV.int .u64 n557), (AV.int .u64 n558), (AV.int .u64 n559), (AV.int .u64 n560), (AV.int .u64 n561), x562])) ∧ (∃ n563 : Int, (∃ n564 : Int, (∃ n565 : Int, (∃ n566 : Int, (∃ n567 : Int, (∃ n568 : Int, (∃ x569 : AV, (((ldN s554 (AV.ptr m536 0) 7) = (some [(AV.int .u64 n563), (AV.int .u64 n564), (AV.int .u64 n565), (AV.int .u64 n566), (AV.int .u64 n567), (AV.int .u64 n568), x569])) ∧ (CallsA P F.spoorlaw14_sameTally [(AV.agg [(AV.int .u64 n556), (AV.int .u64 n557), (AV.int .u64 n558), (AV.int .u64 n559), (AV.int .u64 n560), (AV.int .u64 n561), x562]), (AV.agg [(AV.int .u64 n563), (AV.int .u64 n564), (AV.int .u64 n565), (AV.int .u64 n566), (AV.int .u64 n567), (AV.int .u64 n568), x569])] s554 (fun x570 => (fun s571 => (∃ c572 : Bool, ((x570 = (AV.bool c572)) ∧ (∃ x573 : AV, (((ld1 s571 (AV.ptr m64 6)) = (some x573)) ∧ (∃ x574 : AV, (((ld1 s571 (AV.ptr m81 6)) = (some x574)) ∧ (∃ x575 : AV, (((ld1 s571 (AV.ptr m108 6)) = (some x575)) ∧ (∃ x576 : AV, (((ld1 s571 (AV.ptr m135 6)) = (some x576)) ∧ (∃ x577 : AV, (((ld1 s571 (AV.ptr m162 6)) = (some x577)) ∧ (∃ x578 : AV, (((ld1 s571 (AV.ptr m189 6)) = (some x578)) ∧ (∃ x579 : AV, (((ld1 s571 (AV.ptr m455 6)) = (some x579)) ∧ (∃ x580 : AV, (((ld1 s571 (AV.ptr m482 6)) = (some x580)) ∧ (oneK x573 (oneK x574 (oneK x575 (oneK x576 (oneK x577 (oneK x578 (oneK x579 (oneK x580 (∀ m581 : Nat, (∀ s582 : St, ((NewO s571 (cellsO [x573, x574, x575, x576, x577, x578, x579, x580]) m581 s582) → (CallsA P F.spoorlaw14_ownBars [(AV.slice m581 0 8 (ACap.exact 8))] s582 (fun x583 => (fun s584 => (∃ c585 : Bool, ((x583 = (AV.bool c585)) ∧ (bsel c399 (bsel c403 (bsel c555 (bsel c572 (bsel (n454 == n508) (bsel (n481 == n535) (Q (AV.bool c585) s584) (Q (AV.bool false) s584)) (Q (AV.bool false) s584)) (Q (AV.bool false) s584)) (Q (AV.bool false) s584)) (Q (AV.bool false) s584)) (Q (AV.bool false) s584)))))))))))))))))))))))))))))))))))))))))))))))))))))))))))))))))))))))))))))))))))))))))))))))))))))))))))))))))))))))))))))))))))))))))))))))))))))))))))))))))))))))))))))))))))))))))))))))))))))))))))))))))))
 )
set_option maxRecDepth 100000 in
theorem vc.spoorlaw14_CallsSums_ok {a0_0 : Int} {a0_1 : ByteArray} {a0_2 : ByteArray} {a0_3 : Bool} {a0_4 : Int} {a1_0 : Int} {a1_1 : Int} {a1_2 : Int} {a1_3 : Int} {a1_4 : Int} {a1_5 : Int} {a1_6 : AV} {a2_0 : Int} {a2_1 : Int} {a2_2 : Int} {a2_3 : Int} {a2_4 : Int} {a2_5 : Int} {a2_6 : AV} {s : St} {Q : AV → St → Prop} (h : vc.spoorlaw14_CallsSums a0_0 a0_1 a0_2 a0_3 a0_4 a1_0 a1_1 a1_2 a1_3 a1_4 a1_5 a1_6 a2_0 a2_1 a2_2 a2_3 a2_4 a2_5 a2_6 s Q) : CallsA P F.spoorlaw14_CallsSums [.agg [.int .i64 a0_0, .str a0_1, .str a0_2, .bool a0_3, .int .u64 a0_4], .agg [.int .u64 a1_0, .int .u64 a1_1, .int .u64 a1_2, .int .u64 a1_3, .int .u64 a1_4, .int .u64 a1_5, a1_6], .agg [.int .u64 a2_0, .int .u64 a2_1, .int .u64 a2_2, .int .u64 a2_3, .int .u64 a2_4, .int .u64 a2_5, a2_6]] s Q :=
 fnB_ok (C := C.spoorlaw14_CallsSums) hD hX mixes (fi := fnI Tryz.f3) (by kernel_rfl) (by kernel_rfl) (cast (by kernel_rfl : vc.spoorlaw14_CallsSums a0_0 a0_1 a0_2 a0_3 a0_4 a1_0 a1_1 a1_2 a1_3 a1_4 a1_5 a1_6 a2_0 a2_1 a2_2 a2_3 a2_4 a2_5 a2_6 s Q = wpC P C.spoorlaw14_CallsSums 1000000 (fnI Tryz.f3).body ⟨PT.setAll .nil 0 [.agg [.int .i64 a0_0, .str a0_1, .str a0_2, .bool a0_3, .int .u64 a0_4], .agg [.int .u64 a1_0, .int .u64 a1_1, .int .u64 a1_2, .int .u64 a1_3, .int .u64 a1_4, .int .u64 a1_5, a1_6], .agg [.int .u64 a2_0, .int .u64 a2_1, .int .u64 a2_2, .int .u64 a2_3, .int .u64 a2_4, .int .u64 a2_5, a2_6]], max [.agg [.int .i64 a0_0, .str a0_1, .str a0_2, .bool a0_3, .int .u64 a0_4], .agg [.int .u64 a1_0, .int .u64 a1_1, .int .u64 a1_2, .int .u64 a1_3, .int .u64 a1_4, .int .u64 a1_5, a1_6], .agg [.int .u64 a2_0, .int .u64 a2_1, .int .u64 a2_2, .int .u64 a2_3, .int .u64 a2_4, .int .u64 a2_5, a2_6]].length (fnI Tryz.f3).nt, s, []⟩ (endW C.spoorlaw14_CallsSums (fnI Tryz.f3).results Q)) h)
end
end Go.Eng.S

