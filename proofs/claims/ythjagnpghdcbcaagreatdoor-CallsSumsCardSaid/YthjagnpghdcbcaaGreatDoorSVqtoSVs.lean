/-
  What is to be shown of functions of the program, and that it suffices.
  What is to be shown of functions of the program, and that it suffices.
-/
import Derived.Test.YthjagnpghdcbcaaGreatDoorSDefs
namespace Go.Eng.S
open Go Go.Eng Go.Proofs
noncomputable section
def C.spoorref13_Merge : Cx := { D := D, rt := rt, its := [], lps := [(0, [51, 74, 73, 72, 71, 70, 69, 68, 67, 66, 65, 64, 63, 62, 61, 60, 59, 58, 57, 56, 55, 54, 53, 52, 84, 101, 100, 99, 98, 97, 96, 95, 94, 93, 92, 91, 90, 89, 88, 87, 86, 85, 46, 45, 44, 43, 42, 41, 40, 39, 38, 37, 36, 35, 34, 33, 32, 31, 30, 29, 28, 27, 50, 49, 47, 48, 8, 110, 109, 102, 103, 104, 105, 106, 107, 108, 7, 83, 82, 75, 76, 77, 78, 79, 80, 81, 6, 17, 18, 19, 20, 21, 22, 23, 24, 25, 26], [6, 7, 8])], det := true }
set_option maxRecDepth 100000 in
def vc.spoorref13_Merge (a0 : AV) (a1 : AV) (s : St) (Q : (AV → (St → Prop))) : Prop :=
 CallsD P F.spoorref13_Check [a0] s fun x1 s2 =>
 ∃ (n3 : Int),
 (x1 = (AV.int .i64 n3)) ∧
 bsel (n3 != 0) (
  (Q (AV.tuple [AV.nilslice, (AV.int .i64 131)]) s2)
 ) (
  CallsD P F.spoorref13_Check [a1] s2 fun x4 s5 =>
  ∃ (n6 : Int),
  (x4 = (AV.int .i64 n6)) ∧
  bsel (n6 != 0) (
   (Q (AV.tuple [AV.nilslice, (AV.int .i64 131)]) s5)
  ) (
   ∃ (I7 : (AV → (Int → (Int → (St → (Nat → Prop)))))),
   (
    ∃ (m8 : Nat),
    (I7 AV.nilslice 0 0 s5 m8)
   ) ∧
   ∀ (x9 : AV) (n10 : Int) (n11 : Int) (s12 : St) (m13 : Nat),
   (I7 x9 n10 n11 s12 m13) →
   slenK a0 fun m14 =>
   bsel (decide (n10 < ((m14 : Nat) : Int))) (
    ∀ (s15 : St),
    (Bump s12 24 s15) →
    slenK a1 fun m16 =>
    bsel (n11 == ((m16 : Nat) : Int)) (
     ixsK 2 a0 n10 fun m17 m18 =>
     ∃ (n19 : Int) (n20 : Int),
     ((ldN s15 (AV.ptr m17 m18) 2) = (some [(AV.int .i64 n19), (AV.int .u64 n20)])) ∧
     ∀ (m21 : Nat) (s22 : St),
     (NewO s15 (cellsO [(AV.int .i64 n19), (AV.int .u64 n20)]) m21 s22) →
     ∃ (x23 : AV) (s24 : St),
     ((appendX D s22 T.sl_api_Bar T.sl_api_Bar x9 (AV.slice m21 0 1 (ACap.exact 1))) = (some (x23, s24))) ∧
     ∃ (m25 : Nat),
     (m25 < m13) ∧
     (I7 x23 (IntKind.wrap .i64 (n10 + 1)) n11 s24 m25)
    ) (
     slenK a0 fun m26 =>
     bsel (decide (n10 < ((m26 : Nat) : Int))) (
      ixsK 2 a0 n10 fun m27 m28 =>
      ∃ (n29 : Int),
      ((ld1 s15 (AV.ptr m27 m28)) = (some (AV.int .i64 n29))) ∧
      ixsK 2 a1 n11 fun m30 m31 =>
      ∃ (n32 : Int),
      ((ld1 s15 (AV.ptr m30 m31)) = (some (AV.int .i64 n32))) ∧
      bsel (decide (n29 < n32)) (
       ixsK 2 a0 n10 fun m33 m34 =>
       ∃ (n35 : Int) (n36 : Int),
       ((ldN s15 (AV.ptr m33 m34) 2) = (some [(AV.int .i64 n35), (AV.int .u64 n36)])) ∧
       ∀ (m37 : Nat) (s38 : St),
       (NewO s15 (cellsO [(AV.int .i64 n35), (AV.int .u64 n36)]) m37 s38) →
       ∃ (x39 : AV) (s40 : St),
       ((appendX D s38 T.sl_api_Bar T.sl_api_Bar x9 (AV.slice m37 0 1 (ACap.exact 1))) = (some (x39, s40))) ∧
       ∃ (m41 : Nat),
       (m41 < m13) ∧
       (I7 x39 (IntKind.wrap .i64 (n10 + 1)) n11 s40 m41)
      ) (
       ∀ (s42 : St),
       (Bump s15 18 s42) →
       slenK a0 fun m43 =>
       bsel (n10 == ((m43 : Nat) : Int)) (
        ixsK 2 a1 n11 fun m44 m45 =>
        ∃ (n46 : Int) (n47 : Int),
        ((ldN s42 (AV.ptr m44 m45) 2) = (some [(AV.int .i64 n46), (AV.int .u64 n47)])) ∧
        ∀ (m48 : Nat) (s49 : St),
        (NewO s42 (cellsO [(AV.int .i64 n46), (AV.int .u64 n47)]) m48 s49) →
        ∃ (x50 : AV) (s51 : St),
        ((appendX D s49 T.sl_api_Bar T.sl_api_Bar x9 (AV.slice m48 0 1 (ACap.exact 1))) = (some (x50, s51))) ∧
        ∃ (m52 : Nat),
        (m52 < m13) ∧
        (I7 x50 n10 (IntKind.wrap .i64 (n11 + 1)) s51 m52)
       ) (
        ixsK 2 a1 n11 fun m53 m54 =>
        ∃ (n55 : Int),
        ((ld1 s42 (AV.ptr m53 m54)) = (some (AV.int .i64 n55))) ∧
        ixsK 2 a0 n10 fun m56 m57 =>
        ∃ (n58 : Int),
        ((ld1 s42 (AV.ptr m56 m57)) = (some (AV.int .i64 n58))) ∧
        bsel (decide (n55 < n58)) (
         ixsK 2 a1 n11 fun m59 m60 =>
         ∃ (n61 : Int) (n62 : Int),
         ((ldN s42 (AV.ptr m59 m60) 2) = (some [(AV.int .i64 n61), (AV.int .u64 n62)])) ∧
         ∀ (m63 : Nat) (s64 : St),
         (NewO s42 (cellsO [(AV.int .i64 n61), (AV.int .u64 n62)]) m63 s64) →
         ∃ (x65 : AV) (s66 : St),
         ((appendX D s64 T.sl_api_Bar T.sl_api_Bar x9 (AV.slice m63 0 1 (ACap.exact 1))) = (some (x65, s66))) ∧
         ∃ (m67 : Nat),
         (m67 < m13) ∧
         (I7 x65 n10 (IntKind.wrap .i64 (n11 + 1)) s66 m67)
        ) (
         ∀ (s68 : St),
         (Bump s42 21 s68) →
         ixsK 2 a0 n10 fun m69 m70 =>
         ∃ (n71 : Int),
         ((ld1 s68 (AV.ptr m69 m70)) = (some (AV.int .i64 n71))) ∧
         ixsK 2 a0 n10 fun m72 m73 =>
         ∃ (n74 : Int),
         ((ld1 s68 (AV.ptr m72 (m73 + 1))) = (some (AV.int .u64 n74))) ∧
         ixsK 2 a1 n11 fun m75 m76 =>
         ∃ (n77 : Int),
         ((ld1 s68 (AV.ptr m75 (m76 + 1))) = (some (AV.int .u64 n77))) ∧
         CallsD P F.spoorref13_plus [(AV.int .u64 n74), (AV.int .u64 n77)] s68 fun x78 s79 =>
         ∃ (n80 : Int),
         (x78 = (AV.int .u64 n80)) ∧
         ((ld1 s79 (AV.ptr m69 m70)) = (some (AV.int .i64 n71))) ∧
         (noSym a0 (∃ x81 : AV, (∃ s82 : St, (((appendX D (hsetS s79 ((St.nx s42) + 18) (cellsO [(AV.int .i64 n71), (AV.int .u64 n80)])) T.sl_api_Bar T.sl_api_Bar x9 (AV.slice ((St.nx s42) + 18) 0 1 (ACap.exact 1))) = (some (x81, s82))) ∧ (∃ m83 : Nat, ((m83 < m13) ∧ (I7 x81 (IntKind.wrap .i64 (n10 + 1)) (IntKind.wrap .i64 (n11 + 1)) s82 m83)))))))
        )
       )
      )
     ) (
      ∀ (s84 : St),
      (Bump s15 18 s84) →
      slenK a0 fun m85 =>
      bsel (n10 == ((m85 : Nat) : Int)) (
       ixsK 2 a1 n11 fun m86 m87 =>
       ∃ (n88 : Int) (n89 : Int),
       ((ldN s84 (AV.ptr m86 m87) 2) = (some [(AV.int .i64 n88), (AV.int .u64 n89)])) ∧
       ∀ (m90 : Nat) (s91 : St),
       (NewO s84 (cellsO [(AV.int .i64 n88), (AV.int .u64 n89)]) m90 s91) →
       ∃ (x92 : AV) (s93 : St),
       ((appendX D s91 T.sl_api_Bar T.sl_api_Bar x9 (AV.slice m90 0 1 (ACap.exact 1))) = (some (x92, s93))) ∧
       ∃ (m94 : Nat),
       (m94 < m13) ∧
       (I7 x92 n10 (IntKind.wrap .i64 (n11 + 1)) s93 m94)
      ) (
       ixsK 2 a1 n11 fun m95 m96 =>
       ∃ (n97 : Int),
       ((ld1 s84 (AV.ptr m95 m96)) = (some (AV.int .i64 n97))) ∧
       ixsK 2 a0 n10 fun m98 m99 =>
       ∃ (n100 : Int),
       ((ld1 s84 (AV.ptr m98 m99)) = (some (AV.int .i64 n100))) ∧
       bsel (decide (n97 < n100)) (
        ixsK 2 a1 n11 fun m101 m102 =>
        ∃ (n103 : Int) (n104 : Int),
        ((ldN s84 (AV.ptr m101 m102) 2) = (some [(AV.int .i64 n103), (AV.int .u64 n104)])) ∧
        ∀ (m105 : Nat) (s106 : St),
        (NewO s84 (cellsO [(AV.int .i64 n103), (AV.int .u64 n104)]) m105 s106) →
        ∃ (x107 : AV) (s108 : St),
        ((appendX D s106 T.sl_api_Bar T.sl_api_Bar x9 (AV.slice m105 0 1 (ACap.exact 1))) = (some (x107, s108))) ∧
        ∃ (m109 : Nat),
        (m109 < m13) ∧
        (I7 x107 n10 (IntKind.wrap .i64 (n11 + 1)) s108 m109)
       ) (
        ∀ (s110 : St),
        (Bump s84 21 s110) →
        ixsK 2 a0 n10 fun m111 m112 =>
        ∃ (n113 : Int),
        ((ld1 s110 (AV.ptr m111 m112)) = (some (AV.int .i64 n113))) ∧
        ixsK 2 a0 n10 fun m114 m115 =>
        ∃ (n116 : Int),
        ((ld1 s110 (AV.ptr m114 (m115 + 1))) = (some (AV.int .u64 n116))) ∧
        ixsK 2 a1 n11 fun m117 m118 =>
        ∃ (n119 : Int),
        ((ld1 s110 (AV.ptr m117 (m118 + 1))) = (some (AV.int .u64 n119))) ∧
        CallsD P F.spoorref13_plus [(AV.int .u64 n116), (AV.int .u64 n119)] s110 fun x120 s121 =>
        ∃ (n122 : Int),
        (x120 = (AV.int .u64 n122)) ∧
        ((ld1 s121 (AV.ptr m111 m112)) = (some (AV.int .i64 n113))) ∧
        (noSym a0 (∃ x123 : AV, (∃ s124 : St, (((appendX D (hsetS s121 ((St.nx s84) + 18) (cellsO [(AV.int .i64 n113), (AV.int .u64 n122)])) T.sl_api_Bar T.sl_api_Bar x9 (AV.slice ((St.nx s84) + 18) 0 1 (ACap.exact 1))) = (some (x123, s124))) ∧ (∃ m125 : Nat, ((m125 < m13) ∧ (I7 x123 (IntKind.wrap .i64 (n10 + 1)) (IntKind.wrap .i64 (n11 + 1)) s124 m125)))))))
       )
      )
     )
    )
   ) (
    slenK a1 fun m126 =>
    bsel (decide (n11 < ((m126 : Nat) : Int))) (
     ∀ (s127 : St),
     (Bump s12 24 s127) →
     slenK a1 fun m128 =>
     bsel (n11 == ((m128 : Nat) : Int)) (
      ixsK 2 a0 n10 fun m129 m130 =>
      ∃ (n131 : Int) (n132 : Int),
      ((ldN s127 (AV.ptr m129 m130) 2) = (some [(AV.int .i64 n131), (AV.int .u64 n132)])) ∧
      ∀ (m133 : Nat) (s134 : St),
      (NewO s127 (cellsO [(AV.int .i64 n131), (AV.int .u64 n132)]) m133 s134) →
      ∃ (x135 : AV) (s136 : St),
      ((appendX D s134 T.sl_api_Bar T.sl_api_Bar x9 (AV.slice m133 0 1 (ACap.exact 1))) = (some (x135, s136))) ∧
      ∃ (m137 : Nat),
      (m137 < m13) ∧
      (I7 x135 (IntKind.wrap .i64 (n10 + 1)) n11 s136 m137)
     ) (
      slenK a0 fun m138 =>
      bsel (decide (n10 < ((m138 : Nat) : Int))) (
       ixsK 2 a0 n10 fun m139 m140 =>
       ∃ (n141 : Int),
       ((ld1 s127 (AV.ptr m139 m140)) = (some (AV.int .i64 n141))) ∧
       ixsK 2 a1 n11 fun m142 m143 =>
       ∃ (n144 : Int),
       ((ld1 s127 (AV.ptr m142 m143)) = (some (AV.int .i64 n144))) ∧
       bsel (decide (n141 < n144)) (
        ixsK 2 a0 n10 fun m145 m146 =>
        ∃ (n147 : Int) (n148 : Int),
        ((ldN s127 (AV.ptr m145 m146) 2) = (some [(AV.int .i64 n147), (AV.int .u64 n148)])) ∧
        ∀ (m149 : Nat) (s150 : St),
        (NewO s127 (cellsO [(AV.int .i64 n147), (AV.int .u64 n148)]) m149 s150) →
        ∃ (x151 : AV) (s152 : St),
        ((appendX D s150 T.sl_api_Bar T.sl_api_Bar x9 (AV.slice m149 0 1 (ACap.exact 1))) = (some (x151, s152))) ∧
        ∃ (m153 : Nat),
        (m153 < m13) ∧
        (I7 x151 (IntKind.wrap .i64 (n10 + 1)) n11 s152 m153)
       ) (
        ∀ (s154 : St),
        (Bump s127 18 s154) →
        slenK a0 fun m155 =>
        bsel (n10 == ((m155 : Nat) : Int)) (
         ixsK 2 a1 n11 fun m156 m157 =>
         ∃ (n158 : Int) (n159 : Int),
         ((ldN s154 (AV.ptr m156 m157) 2) = (some [(AV.int .i64 n158), (AV.int .u64 n159)])) ∧
         ∀ (m160 : Nat) (s161 : St),
         (NewO s154 (cellsO [(AV.int .i64 n158), (AV.int .u64 n159)]) m160 s161) →
         ∃ (x162 : AV) (s163 : St),
         ((appendX D s161 T.sl_api_Bar T.sl_api_Bar x9 (AV.slice m160 0 1 (ACap.exact 1))) = (some (x162, s163))) ∧
         ∃ (m164 : Nat),
         (m164 < m13) ∧
         (I7 x162 n10 (IntKind.wrap .i64 (n11 + 1)) s163 m164)
        ) (
         ixsK 2 a1 n11 fun m165 m166 =>
         ∃ (n167 : Int),
         ((ld1 s154 (AV.ptr m165 m166)) = (some (AV.int .i64 n167))) ∧
         ixsK 2 a0 n10 fun m168 m169 =>
         ∃ (n170 : Int),
         ((ld1 s154 (AV.ptr m168 m169)) = (some (AV.int .i64 n170))) ∧
         bsel (decide (n167 < n170)) (
          ixsK 2 a1 n11 fun m171 m172 =>
          ∃ (n173 : Int) (n174 : Int),
          ((ldN s154 (AV.ptr m171 m172) 2) = (some [(AV.int .i64 n173), (AV.int .u64 n174)])) ∧
          ∀ (m175 : Nat) (s176 : St),
          (NewO s154 (cellsO [(AV.int .i64 n173), (AV.int .u64 n174)]) m175 s176) →
          ∃ (x177 : AV) (s178 : St),
          ((appendX D s176 T.sl_api_Bar T.sl_api_Bar x9 (AV.slice m175 0 1 (ACap.exact 1))) = (some (x177, s178))) ∧
          ∃ (m179 : Nat),
          (m179 < m13) ∧
          (I7 x177 n10 (IntKind.wrap .i64 (n11 + 1)) s178 m179)
         ) (
          ∀ (s180 : St),
          (Bump s154 21 s180) →
          ixsK 2 a0 n10 fun m181 m182 =>
          ∃ (n183 : Int),
          ((ld1 s180 (AV.ptr m181 m182)) = (some (AV.int .i64 n183))) ∧
          ixsK 2 a0 n10 fun m184 m185 =>
          ∃ (n186 : Int),
          ((ld1 s180 (AV.ptr m184 (m185 + 1))) = (some (AV.int .u64 n186))) ∧
          ixsK 2 a1 n11 fun m187 m188 =>
          ∃ (n189 : Int),
          ((ld1 s180 (AV.ptr m187 (m188 + 1))) = (some (AV.int .u64 n189))) ∧
          CallsD P F.spoorref13_plus [(AV.int .u64 n186), (AV.int .u64 n189)] s180 fun x190 s191 =>
          ∃ (n192 : Int),
          (x190 = (AV.int .u64 n192)) ∧
          ((ld1 s191 (AV.ptr m181 m182)) = (some (AV.int .i64 n183))) ∧
          (noSym a0 (∃ x193 : AV, (∃ s194 : St, (((appendX D (hsetS s191 ((St.nx s154) + 18) (cellsO [(AV.int .i64 n183), (AV.int .u64 n192)])) T.sl_api_Bar T.sl_api_Bar x9 (AV.slice ((St.nx s154) + 18) 0 1 (ACap.exact 1))) = (some (x193, s194))) ∧ (∃ m195 : Nat, ((m195 < m13) ∧ (I7 x193 (IntKind.wrap .i64 (n10 + 1)) (IntKind.wrap .i64 (n11 + 1)) s194 m195)))))))
         )
        )
       )
      ) (
       ∀ (s196 : St),
       (Bump s127 18 s196) →
       slenK a0 fun m197 =>
       bsel (n10 == ((m197 : Nat) : Int)) (
        ixsK 2 a1 n11 fun m198 m199 =>
        ∃ (n200 : Int) (n201 : Int),
        ((ldN s196 (AV.ptr m198 m199) 2) = (some [(AV.int .i64 n200), (AV.int .u64 n201)])) ∧
        ∀ (m202 : Nat) (s203 : St),
        (NewO s196 (cellsO [(AV.int .i64 n200), (AV.int .u64 n201)]) m202 s203) →
        ∃ (x204 : AV) (s205 : St),
        ((appendX D s203 T.sl_api_Bar T.sl_api_Bar x9 (AV.slice m202 0 1 (ACap.exact 1))) = (some (x204, s205))) ∧
        ∃ (m206 : Nat),
        (m206 < m13) ∧
        (I7 x204 n10 (IntKind.wrap .i64 (n11 + 1)) s205 m206)
       ) (
        ixsK 2 a1 n11 fun m207 m208 =>
        ∃ (n209 : Int),
        ((ld1 s196 (AV.ptr m207 m208)) = (some (AV.int .i64 n209))) ∧
        ixsK 2 a0 n10 fun m210 m211 =>
        ∃ (n212 : Int),
        ((ld1 s196 (AV.ptr m210 m211)) = (some (AV.int .i64 n212))) ∧
        bsel (decide (n209 < n212)) (
         ixsK 2 a1 n11 fun m213 m214 =>
         ∃ (n215 : Int) (n216 : Int),
         ((ldN s196 (AV.ptr m213 m214) 2) = (some [(AV.int .i64 n215), (AV.int .u64 n216)])) ∧
         ∀ (m217 : Nat) (s218 : St),
         (NewO s196 (cellsO [(AV.int .i64 n215), (AV.int .u64 n216)]) m217 s218) →
         ∃ (x219 : AV) (s220 : St),
         ((appendX D s218 T.sl_api_Bar T.sl_api_Bar x9 (AV.slice m217 0 1 (ACap.exact 1))) = (some (x219, s220))) ∧
         ∃ (m221 : Nat),
         (m221 < m13) ∧
         (I7 x219 n10 (IntKind.wrap .i64 (n11 + 1)) s220 m221)
        ) (
         ∀ (s222 : St),
         (Bump s196 21 s222) →
         ixsK 2 a0 n10 fun m223 m224 =>
         ∃ (n225 : Int),
         ((ld1 s222 (AV.ptr m223 m224)) = (some (AV.int .i64 n225))) ∧
         ixsK 2 a0 n10 fun m226 m227 =>
         ∃ (n228 : Int),
         ((ld1 s222 (AV.ptr m226 (m227 + 1))) = (some (AV.int .u64 n228))) ∧
         ixsK 2 a1 n11 fun m229 m230 =>
         ∃ (n231 : Int),
         ((ld1 s222 (AV.ptr m229 (m230 + 1))) = (some (AV.int .u64 n231))) ∧
         CallsD P F.spoorref13_plus [(AV.int .u64 n228), (AV.int .u64 n231)] s222 fun x232 s233 =>
         ∃ (n234 : Int),
         (x232 = (AV.int .u64 n234)) ∧
         ((ld1 s233 (AV.ptr m223 m224)) = (some (AV.int .i64 n225))) ∧
         (noSym a0 (∃ x235 : AV, (∃ s236 : St, (((appendX D (hsetS s233 ((St.nx s196) + 18) (cellsO [(AV.int .i64 n225), (AV.int .u64 n234)])) T.sl_api_Bar T.sl_api_Bar x9 (AV.slice ((St.nx s196) + 18) 0 1 (ACap.exact 1))) = (some (x235, s236))) ∧ (∃ m237 : Nat, ((m237 < m13) ∧ (I7 x235 (IntKind.wrap .i64 (n10 + 1)) (IntKind.wrap .i64 (n11 + 1)) s236 m237)))))))
        )
       )
      )
     )
    ) (
     (Q (AV.tuple [x9, (AV.int .i64 0)]) s12)
    )
   )
  )
 )
set_option maxRecDepth 100000 in
theorem vc.spoorref13_Merge_ok {a0 : AV} {a1 : AV} {s : St} {Q : AV → St → Prop} (h : vc.spoorref13_Merge a0 a1 s Q) : CallsD P F.spoorref13_Merge [a0, a1] s Q :=
 fnD_ok (C := C.spoorref13_Merge) hD hX rfl mixes (fi := fnI Tryz.f38) (by kernel_rfl) (by kernel_rfl) (cast (by kernel_rfl : vc.spoorref13_Merge a0 a1 s Q = wpC P C.spoorref13_Merge 1000000 (fnI Tryz.f38).body ⟨PT.setAll .nil 0 [a0, a1], max [a0, a1].length (fnI Tryz.f38).nt, s, []⟩ (endW C.spoorref13_Merge (fnI Tryz.f38).results Q)) h)
def C.spoorref13_Check : Cx := { D := D, rt := rt, its := [], lps := [(0, [49, 48, 47, 46, 45, 44, 43, 42, 41, 40, 39, 38, 37, 36, 35, 34, 33, 32, 31, 30, 29, 28, 27, 26, 25, 24, 23, 22, 21, 20, 19, 18, 17, 16, 15, 14, 13, 12, 11, 10, 2, 8, 9, 3, 4, 5, 6, 7], [3])], det := true }
set_option maxRecDepth 100000 in
def vc.spoorref13_Check (a0 : AV) (s : St) (Q : (AV → (St → Prop))) : Prop :=
 ∃ (I1 : (Int → (St → (Nat → Prop)))),
 (
  ∃ (m2 : Nat),
  (I1 0 s m2)
 ) ∧
 ∀ (n3 : Int) (s4 : St) (m5 : Nat),
 (I1 n3 s4 m5) →
 slenK a0 fun m6 =>
 bsel (decide (n3 < ((m6 : Nat) : Int))) (
  ∀ (s7 : St),
  (Bump s4 40 s7) →
  ixsK 2 a0 n3 fun m8 m9 =>
  ∃ (n10 : Int),
  ((ld1 s7 (AV.ptr m8 m9)) = (some (AV.int .i64 n10))) ∧
  bsel (decide (n10 < 0)) (
   (Q (AV.int .i64 131) s7)
  ) (
   ixsK 2 a0 n3 fun m11 m12 =>
   ∃ (n13 : Int),
   ((ld1 s7 (AV.ptr m11 m12)) = (some (AV.int .i64 n13))) ∧
   bsel (decide (n13 ≥ 1920)) (
    (Q (AV.int .i64 131) s7)
   ) (
    ixsK 2 a0 n3 fun m14 m15 =>
    ∃ (n16 : Int),
    ((ld1 s7 (AV.ptr m14 (m15 + 1))) = (some (AV.int .u64 n16))) ∧
    bsel (n16 == 0) (
     (Q (AV.int .i64 131) s7)
    ) (
     bsel (decide (n3 > 0)) (
      ixsK 2 a0 n3 fun m17 m18 =>
      ∃ (n19 : Int),
      ((ld1 s7 (AV.ptr m17 m18)) = (some (AV.int .i64 n19))) ∧
      ixsK 2 a0 (IntKind.wrap .i64 (n3 - 1)) fun m20 m21 =>
      ∃ (n22 : Int),
      ((ld1 s7 (AV.ptr m20 m21)) = (some (AV.int .i64 n22))) ∧
      bsel (decide (n19 ≤ n22)) (
       (Q (AV.int .i64 131) s7)
      ) (
       ∃ (m23 : Nat),
       (m23 < m5) ∧
       (I1 (IntKind.wrap .i64 (n3 + 1)) s7 m23)
      )
     ) (
      ∃ (m24 : Nat),
      (m24 < m5) ∧
      (I1 (IntKind.wrap .i64 (n3 + 1)) s7 m24)
     )
    )
   )
  )
 ) (
  (Q (AV.int .i64 0) s4)
 )
set_option maxRecDepth 100000 in
theorem vc.spoorref13_Check_ok {a0 : AV} {s : St} {Q : AV → St → Prop} (h : vc.spoorref13_Check a0 s Q) : CallsD P F.spoorref13_Check [a0] s Q :=
 fnD_ok (C := C.spoorref13_Check) hD hX rfl mixes (fi := fnI Tryz.f40) (by kernel_rfl) (by kernel_rfl) (cast (by kernel_rfl : vc.spoorref13_Check a0 s Q = wpC P C.spoorref13_Check 1000000 (fnI Tryz.f40).body ⟨PT.setAll .nil 0 [a0], max [a0].length (fnI Tryz.f40).nt, s, []⟩ (endW C.spoorref13_Check (fnI Tryz.f40).results Q)) h)
def C.spoorref13_Less : Cx := { D := D, rt := rt, its := [], lps := [(0, [9, 27, 26, 25, 24, 63, 62, 61, 64, 65, 66, 67, 6, 49, 48, 47, 46, 45, 44, 43, 42, 4, 5, 7, 60, 59, 50, 51, 52, 53, 54, 55, 56, 57, 58, 28, 29, 30, 31, 32, 33, 34, 35, 36, 37, 38, 39, 40, 41, 22, 23, 8, 18, 19, 20, 21], [6, 7, 8])], det := true }
set_option maxRecDepth 100000 in
def vc.spoorref13_Less (a0 : AV) (a1 : AV) (s : St) (Q : (AV → (St → Prop))) : Prop :=
 CallsD P F.spoorref13_Check [a0] s fun x1 s2 =>
 ∃ (n3 : Int),
 (x1 = (AV.int .i64 n3)) ∧
 bsel (n3 != 0) (
  (Q (AV.tuple [AV.nilslice, (AV.int .i64 131)]) s2)
 ) (
  CallsD P F.spoorref13_Check [a1] s2 fun x4 s5 =>
  ∃ (n6 : Int),
  (x4 = (AV.int .i64 n6)) ∧
  bsel (n6 != 0) (
   (Q (AV.tuple [AV.nilslice, (AV.int .i64 131)]) s5)
  ) (
   ∃ (I7 : (AV → (Int → (Int → (St → (Nat → Prop)))))),
   (
    ∃ (m8 : Nat),
    (I7 AV.nilslice 0 0 s5 m8)
   ) ∧
   ∀ (x9 : AV) (n10 : Int) (n11 : Int) (s12 : St) (m13 : Nat),
   (I7 x9 n10 n11 s12 m13) →
   slenK a0 fun m14 =>
   bsel (decide (n11 < ((m14 : Nat) : Int))) (
    ixsK 2 a0 n11 fun m15 m16 =>
    ∃ (n17 : Int) (n18 : Int),
    ((ldN s12 (AV.ptr m15 m16) 2) = (some [(AV.int .i64 n17), (AV.int .u64 n18)])) ∧
    ∀ (m19 : Nat) (s20 : St),
    (NewO s12 (cellsO [(AV.int .i64 0), (AV.int .u64 0)]) m19 s20) →
    ∃ (s21 : St),
    ((wrN s20 (AV.ptr m19 0) [(AV.int .i64 n17), (AV.int .u64 n18)]) = (some s21)) ∧
    ∀ (s22 : St),
    (Bump s21 14 s22) →
    slenK a1 fun m23 =>
    bsel (decide (n10 < ((m23 : Nat) : Int))) (
     ixsK 2 a1 n10 fun m24 m25 =>
     ∃ (n26 : Int),
     ((ld1 s22 (AV.ptr m24 m25)) = (some (AV.int .i64 n26))) ∧
     ∃ (n27 : Int),
     ((ld1 s22 (AV.ptr m19 0)) = (some (AV.int .i64 n27))) ∧
     bsel (n26 == n27) (
      ∀ (s28 : St),
      (Bump s22 8 s28) →
      ixsK 2 a1 n10 fun m29 m30 =>
      ∃ (n31 : Int),
      ((ld1 s28 (AV.ptr m29 (m30 + 1))) = (some (AV.int .u64 n31))) ∧
      ∃ (n32 : Int),
      ((ld1 s28 (AV.ptr m19 1)) = (some (AV.int .u64 n32))) ∧
      bsel (decide (n31 > n32)) (
       (Q (AV.tuple [AV.nilslice, (AV.int .i64 134)]) s28)
      ) (
       ∀ (s33 : St),
       (Bump s28 10 s33) →
       ∃ (n34 : Int),
       ((ld1 s33 (AV.ptr m19 1)) = (some (AV.int .u64 n34))) ∧
       ixsK 2 a1 n10 fun m35 m36 =>
       ∃ (n37 : Int),
       ((ld1 s33 (AV.ptr m35 (m36 + 1))) = (some (AV.int .u64 n37))) ∧
       ∃ (s38 : St),
       ((wrN s33 (AV.ptr m19 1) [(AV.int .u64 (IntKind.wrap .u64 (n34 - n37)))]) = (some s38)) ∧
       ∃ (n39 : Int),
       ((ld1 s38 (AV.ptr m19 1)) = (some (AV.int .u64 n39))) ∧
       bsel (decide (n39 > 0)) (
        ∃ (n40 : Int) (n41 : Int),
        ((ldN s38 (AV.ptr m19 0) 2) = (some [(AV.int .i64 n40), (AV.int .u64 n41)])) ∧
        ∀ (m42 : Nat) (s43 : St),
        (NewO s38 (cellsO [(AV.int .i64 n40), (AV.int .u64 n41)]) m42 s43) →
        ∃ (x44 : AV) (s45 : St),
        ((appendX D s43 T.sl_api_Bar T.sl_api_Bar x9 (AV.slice m42 0 1 (ACap.exact 1))) = (some (x44, s45))) ∧
        ∃ (m46 : Nat),
        (m46 < m13) ∧
        (I7 x44 (IntKind.wrap .i64 (n10 + 1)) (IntKind.wrap .i64 (n11 + 1)) s45 m46)
       ) (
        ∃ (m47 : Nat),
        (m47 < m13) ∧
        (I7 x9 (IntKind.wrap .i64 (n10 + 1)) (IntKind.wrap .i64 (n11 + 1)) s38 m47)
       )
      )
     ) (
      ∃ (n48 : Int),
      ((ld1 s22 (AV.ptr m19 1)) = (some (AV.int .u64 n48))) ∧
      bsel (decide (n48 > 0)) (
       ∃ (n49 : Int) (n50 : Int),
       ((ldN s22 (AV.ptr m19 0) 2) = (some [(AV.int .i64 n49), (AV.int .u64 n50)])) ∧
       ∀ (m51 : Nat) (s52 : St),
       (NewO s22 (cellsO [(AV.int .i64 n49), (AV.int .u64 n50)]) m51 s52) →
       ∃ (x53 : AV) (s54 : St),
       ((appendX D s52 T.sl_api_Bar T.sl_api_Bar x9 (AV.slice m51 0 1 (ACap.exact 1))) = (some (x53, s54))) ∧
       ∃ (m55 : Nat),
       (m55 < m13) ∧
       (I7 x53 n10 (IntKind.wrap .i64 (n11 + 1)) s54 m55)
      ) (
       ∃ (m56 : Nat),
       (m56 < m13) ∧
       (I7 x9 n10 (IntKind.wrap .i64 (n11 + 1)) s22 m56)
      )
     )
    ) (
     ∃ (n57 : Int),
     ((ld1 s22 (AV.ptr m19 1)) = (some (AV.int .u64 n57))) ∧
     bsel (decide (n57 > 0)) (
      ∃ (n58 : Int) (n59 : Int),
      ((ldN s22 (AV.ptr m19 0) 2) = (some [(AV.int .i64 n58), (AV.int .u64 n59)])) ∧
      ∀ (m60 : Nat) (s61 : St),
      (NewO s22 (cellsO [(AV.int .i64 n58), (AV.int .u64 n59)]) m60 s61) →
      ∃ (x62 : AV) (s63 : St),
      ((appendX D s61 T.sl_api_Bar T.sl_api_Bar x9 (AV.slice m60 0 1 (ACap.exact 1))) = (some (x62, s63))) ∧
      ∃ (m64 : Nat),
      (m64 < m13) ∧
      (I7 x62 n10 (IntKind.wrap .i64 (n11 + 1)) s63 m64)
     ) (
      ∃ (m65 : Nat),
      (m65 < m13) ∧
      (I7 x9 n10 (IntKind.wrap .i64 (n11 + 1)) s22 m65)
     )
    )
   ) (
    slenK a1 fun m66 =>
    bsel (decide (n10 < ((m66 : Nat) : Int))) (
     (Q (AV.tuple [AV.nilslice, (AV.int .i64 134)]) s12)
    ) (
     (Q (AV.tuple [x9, (AV.int .i64 0)]) s12)
    )
   )
  )
 )
set_option maxRecDepth 100000 in
theorem vc.spoorref13_Less_ok {a0 : AV} {a1 : AV} {s : St} {Q : AV → St → Prop} (h : vc.spoorref13_Less a0 a1 s Q) : CallsD P F.spoorref13_Less [a0, a1] s Q :=
 fnD_ok (C := C.spoorref13_Less) hD hX rfl mixes (fi := fnI Tryz.f41) (by kernel_rfl) (by kernel_rfl) (cast (by kernel_rfl : vc.spoorref13_Less a0 a1 s Q = wpC P C.spoorref13_Less 1000000 (fnI Tryz.f41).body ⟨PT.setAll .nil 0 [a0, a1], max [a0, a1].length (fnI Tryz.f41).nt, s, []⟩ (endW C.spoorref13_Less (fnI Tryz.f41).results Q)) h)
end
end Go.Eng.S

namespace Go.Eng.S
open Go Go.Eng Go.Proofs
noncomputable section
def C.spoorlaw14_lentTally : Cx := { D := D, rt := rt, its := [], lps := [(0, [29, 28, 27, 26, 25, 24, 22, 23, 5, 18, 19, 20, 21], [5])], det := true }
set_option maxRecDepth 100000 in
def vc.spoorlaw14_lentTally (a0_0 : Int) (a0_1 : Int) (a0_2 : Int) (a0_3 : Int) (a0_4 : Int) (a0_5 : Int) (a0_6 : AV) (s : St) (Q : (AV → (St → Prop))) : Prop :=
 ∀ (m1 : Nat) (s2 : St),
 (NewO s (cellsO [(AV.int .u64 a0_0), (AV.int .u64 a0_1), (AV.int .u64 a0_2), (AV.int .u64 a0_3), (AV.int .u64 a0_4), (AV.int .u64 a0_5), a0_6]) m1 s2) →
 ∀ (m3 : Nat) (s4 : St),
 (NewO s2 (cellsO [(AV.int .u64 0), (AV.int .u64 0), (AV.int .u64 0), (AV.int .u64 0), (AV.int .u64 0), (AV.int .u64 0), AV.nilslice]) m3 s4) →
 ∃ (x5 : AV),
 ((ld1 s4 (AV.ptr m1 6)) = (some x5)) ∧
 slenK x5 fun m6 =>
 ∃ (x7 : AV) (s8 : St),
 ((makeSliceA D s4 T.sl_api_Bar (AV.int .i64 (IntKind.wrap .i64 (((m6 : Nat) : Int) + 3))) (AV.int .i64 (IntKind.wrap .i64 (((m6 : Nat) : Int) + 3)))) = (some (x7, s8))) ∧
 ∃ (x9 : AV),
 ((ld1 s8 (AV.ptr m1 6)) = (some x9)) ∧
 ∃ (n10 : Int) (s11 : St),
 ((copyA D s8 T.sl_api_Bar x7 x9) = (some ((AV.int .i64 n10), s11))) ∧
 ∃ (x12 : AV),
 ((ld1 s11 (AV.ptr m1 6)) = (some x12)) ∧
 slenK x12 fun m13 =>
 ∃ (I14 : (Int → (St → (Nat → Prop)))),
 (
  ∃ (m15 : Nat),
  (I14 ((m13 : Nat) : Int) s11 m15)
 ) ∧
 ∀ (n16 : Int) (s17 : St) (m18 : Nat),
 (I14 n16 s17 m18) →
 slenK x7 fun m19 =>
 bsel (decide (n16 < ((m19 : Nat) : Int))) (
  ixsK 2 x7 n16 fun m20 m21 =>
  ∃ (s22 : St),
  ((wrN s17 (AV.ptr m20 m21) [(AV.int .i64 (IntKind.wrap .i64 (900 + n16))), (AV.int .u64 0)]) = (some s22)) ∧
  ∃ (m23 : Nat),
  (m23 < m18) ∧
  (I14 (IntKind.wrap .i64 (n16 + 1)) s22 m23)
 ) (
  ∀ (s24 : St),
  (Bump s17 15 s24) →
  ∃ (n25 : Int) (n26 : Int),
  ((ldN s24 (AV.ptr m1 0) 2) = (some [(AV.int .u64 n25), (AV.int .u64 n26)])) ∧
  ∃ (n27 : Int) (n28 : Int),
  ((ldN s24 (AV.ptr m1 2) 2) = (some [(AV.int .u64 n27), (AV.int .u64 n28)])) ∧
  ∃ (n29 : Int) (n30 : Int),
  ((ldN s24 (AV.ptr m1 4) 2) = (some [(AV.int .u64 n29), (AV.int .u64 n30)])) ∧
  ∃ (x31 : AV),
  ((ld1 s24 (AV.ptr m1 6)) = (some x31)) ∧
  slenK x31 fun m32 =>
  optK (sliceV 2 x7 none (some (AV.int .i64 ((m32 : Nat) : Int))) none) fun x33 =>
  (oneK x33 (∃ s34 : St, (((wrN s24 (AV.ptr m3 0) [(AV.int .u64 n25), (AV.int .u64 n26), (AV.int .u64 n27), (AV.int .u64 n28), (AV.int .u64 n29), (AV.int .u64 n30), x33]) = (some s34)) ∧ (∃ n35 : Int, (∃ n36 : Int, (∃ n37 : Int, (∃ n38 : Int, (∃ n39 : Int, (∃ n40 : Int, (∃ x41 : AV, (((ldN s34 (AV.ptr m3 0) 7) = (some [(AV.int .u64 n35), (AV.int .u64 n36), (AV.int .u64 n37), (AV.int .u64 n38), (AV.int .u64 n39), (AV.int .u64 n40), x41])) ∧ (Q (AV.tuple [(AV.agg [(AV.int .u64 n35), (AV.int .u64 n36), (AV.int .u64 n37), (AV.int .u64 n38), (AV.int .u64 n39), (AV.int .u64 n40), x41]), x7]) s34))))))))))))
 )
set_option maxRecDepth 100000 in
theorem vc.spoorlaw14_lentTally_ok {a0_0 : Int} {a0_1 : Int} {a0_2 : Int} {a0_3 : Int} {a0_4 : Int} {a0_5 : Int} {a0_6 : AV} {s : St} {Q : AV → St → Prop} (h : vc.spoorlaw14_lentTally a0_0 a0_1 a0_2 a0_3 a0_4 a0_5 a0_6 s Q) : CallsD P F.spoorlaw14_lentTally [.agg [.int .u64 a0_0, .int .u64 a0_1, .int .u64 a0_2, .int .u64 a0_3, .int .u64 a0_4, .int .u64 a0_5, a0_6]] s Q :=
 fnD_ok (C := C.spoorlaw14_lentTally) hD hX rfl mixes (fi := fnI Tryz.f8) (by kernel_rfl) (by kernel_rfl) (cast (by kernel_rfl : vc.spoorlaw14_lentTally a0_0 a0_1 a0_2 a0_3 a0_4 a0_5 a0_6 s Q = wpC P C.spoorlaw14_lentTally 1000000 (fnI Tryz.f8).body ⟨PT.setAll .nil 0 [.agg [.int .u64 a0_0, .int .u64 a0_1, .int .u64 a0_2, .int .u64 a0_3, .int .u64 a0_4, .int .u64 a0_5, a0_6]], max [.agg [.int .u64 a0_0, .int .u64 a0_1, .int .u64 a0_2, .int .u64 a0_3, .int .u64 a0_4, .int .u64 a0_5, a0_6]].length (fnI Tryz.f8).nt, s, []⟩ (endW C.spoorlaw14_lentTally (fnI Tryz.f8).results Q)) h)
def C.spoorlaw14_barsStay : Cx := { D := D, rt := rt, its := [], lps := [(0, [42, 41, 40, 39, 38, 37, 36, 35, 34, 33, 32, 31, 30, 29, 28, 27, 26, 25, 24, 23, 22, 21, 20, 19, 18, 17, 16, 15, 14, 13, 12, 4, 10, 11, 5, 6, 7, 8, 9], [5])], det := true, jns := [(14, [12, 13, 14, 15, 16, 17, 18, 19, 20, 21, 22, 23, 24, 25, 26, 27, 28, 29, 30, 31, 32, 33, 34, 35, 36, 37, 38, 39, 40, 41, 42], [42], [.bool false]), (4, [4, 12, 13, 14, 15, 16, 17, 18, 19, 20, 21, 22, 23, 24, 25, 26, 27, 28, 29, 30, 31, 32, 33, 34, 35, 36, 37, 38, 39, 40, 41, 42], [], [])] }
set_option maxRecDepth 100000 in
def vc.spoorlaw14_barsStay (a0 : AV) (a1 : AV) (s : St) (Q : (AV → (St → Prop))) : Prop :=
 ∃ (I1 : (Int → (St → (Nat → Prop)))),
 (
  ∃ (m2 : Nat),
  (I1 0 s m2)
 ) ∧
 ∀ (n3 : Int) (s4 : St) (m5 : Nat),
 (I1 n3 s4 m5) →
 slenK a0 fun m6 =>
 bsel (decide (n3 < ((m6 : Nat) : Int))) (
  ∃ (I7 : (St → (Nat → Prop))),
  (
   ∃ (I8 : (Bool → (St → (Nat → Prop)))),
   (
    ∀ (s9 : St),
    (Bump s4 31 s9) →
    slenK a1 fun m10 =>
    bsel (decide (n3 < ((m10 : Nat) : Int))) (
     ixsK 2 a0 n3 fun m11 m12 =>
     ∃ (n13 : Int) (n14 : Int),
     ((ldN s9 (AV.ptr m11 m12) 2) = (some [(AV.int .i64 n13), (AV.int .u64 n14)])) ∧
     ixsK 2 a1 n3 fun m15 m16 =>
     ∃ (n17 : Int) (n18 : Int),
     ((ldN s9 (AV.ptr m15 m16) 2) = (some [(AV.int .i64 n17), (AV.int .u64 n18)])) ∧
     bsel (if (false = true) then ((n13 == n17) && ((n14 == n18) && true)) else (! ((n13 == n17) && ((n14 == n18) && true)))) (
      ∃ (m19 : Nat),
      (I8 true s9 m19)
     ) (
      slenK a1 fun m20 =>
      bsel (decide (n3 ≥ ((m20 : Nat) : Int))) (
       ixsK 2 a0 n3 fun m21 m22 =>
       ∃ (n23 : Int) (n24 : Int),
       ((ldN s9 (AV.ptr m21 m22) 2) = (some [(AV.int .i64 n23), (AV.int .u64 n24)])) ∧
       ∃ (m25 : Nat),
       (I8 (if (false = true) then ((n23 == (IntKind.wrap .i64 (900 + n3))) && ((n24 == 0) && true)) else (! ((n23 == (IntKind.wrap .i64 (900 + n3))) && ((n24 == 0) && true)))) s9 m25)
      ) (
       ∃ (m26 : Nat),
       (I8 false s9 m26)
      )
     )
    ) (
     slenK a1 fun m27 =>
     bsel (decide (n3 ≥ ((m27 : Nat) : Int))) (
      ixsK 2 a0 n3 fun m28 m29 =>
      ∃ (n30 : Int) (n31 : Int),
      ((ldN s9 (AV.ptr m28 m29) 2) = (some [(AV.int .i64 n30), (AV.int .u64 n31)])) ∧
      ∃ (m32 : Nat),
      (I8 (if (false = true) then ((n30 == (IntKind.wrap .i64 (900 + n3))) && ((n31 == 0) && true)) else (! ((n30 == (IntKind.wrap .i64 (900 + n3))) && ((n31 == 0) && true)))) s9 m32)
     ) (
      ∃ (m33 : Nat),
      (I8 false s9 m33)
     )
    )
   ) ∧
   ∀ (c34 : Bool) (s35 : St) (m36 : Nat),
   (I8 c34 s35 m36) →
   bsel c34 (
    (Q (AV.bool false) s35)
   ) (
    ∃ (m37 : Nat),
    (I7 s35 m37)
   )
  ) ∧
  ∀ (s38 : St) (m39 : Nat),
  (I7 s38 m39) →
  ∃ (m40 : Nat),
  (m40 < m5) ∧
  (I1 (IntKind.wrap .i64 (n3 + 1)) s38 m40)
 ) (
  (Q (AV.bool true) s4)
 )
set_option maxRecDepth 100000 in
theorem vc.spoorlaw14_barsStay_ok {a0 : AV} {a1 : AV} {s : St} {Q : AV → St → Prop} (h : vc.spoorlaw14_barsStay a0 a1 s Q) : CallsD P F.spoorlaw14_barsStay [a0, a1] s Q :=
 fnD_ok (C := C.spoorlaw14_barsStay) hD hX rfl mixes (fi := fnI Tryz.f18) (by kernel_rfl) (by kernel_rfl) (cast (by kernel_rfl : vc.spoorlaw14_barsStay a0 a1 s Q = wpC P C.spoorlaw14_barsStay 1000000 (fnI Tryz.f18).body ⟨PT.setAll .nil 0 [a0, a1], max [a0, a1].length (fnI Tryz.f18).nt, s, []⟩ (endW C.spoorlaw14_barsStay (fnI Tryz.f18).results Q)) h)
def C.spoorlaw14_ownBars : Cx := { D := D, rt := rt, its := [], lps := [(0, [4, 37, 36, 35, 34, 33, 32, 31, 30, 29, 28, 26, 27, 19, 20, 21, 22, 23, 24, 25, 17, 18, 3, 13, 14, 15, 16], [3]), (2, [37, 36, 35, 34, 33, 32, 31, 30, 29, 28, 26, 27, 4, 19, 20, 21, 22, 23, 24, 25], [4]), (4, [7, 47, 46, 45, 44, 9, 62, 61, 60, 59, 5, 82, 81, 80, 79, 78, 77, 76, 75, 74, 64, 63, 66, 65, 67, 68, 69, 70, 71, 72, 73, 10, 49, 48, 51, 50, 52, 53, 54, 55, 56, 57, 58, 8, 42, 43, 6, 38, 39, 40, 41], [5, 6]), (6, [7, 58, 57, 56, 55, 54, 53, 52, 50, 51, 8, 48, 49], [7, 8]), (8, [9, 73, 72, 71, 70, 69, 68, 67, 65, 66, 10, 63, 64], [9, 10]), (10, [12, 110, 109, 108, 107, 106, 105, 104, 103, 102, 101, 100, 99, 98, 2, 96, 97, 89, 90, 91, 92, 93, 94, 95, 87, 88, 11, 83, 84, 85, 86], [11]), (12, [110, 109, 108, 107, 106, 105, 104, 103, 102, 101, 100, 99, 98, 2, 96, 97, 12, 89, 90, 91, 92, 93, 94, 95], [12])], msk := [(6, [true, false]), (8, [true, false])], app2 := true }
set_option maxRecDepth 100000 in
def vc.spoorlaw14_ownBars (a0 : AV) (s : St) (Q : (AV → (St → Prop))) : Prop :=
 ∃ (I1 : (Int → (St → (Nat → Prop)))),
 (
  ∃ (m2 : Nat),
  (I1 0 s m2)
 ) ∧
 ∀ (n3 : Int) (s4 : St) (m5 : Nat),
 (I1 n3 s4 m5) →
 slenK a0 fun m6 =>
 bsel (decide (n3 < ((m6 : Nat) : Int))) (
  ∃ (I7 : (Int → (St → (Nat → Prop)))),
  (
   ∃ (m8 : Nat),
   (I7 0 s4 m8)
  ) ∧
  ∀ (n9 : Int) (s10 : St) (m11 : Nat),
  (I7 n9 s10 m11) →
  ixsK 1 a0 n3 fun m12 m13 =>
  ∃ (x14 : AV),
  ((ld1 s10 (AV.ptr m12 m13)) = (some x14)) ∧
  slenK x14 fun m15 =>
  bsel (decide (n9 < ((m15 : Nat) : Int))) (
   ixsK 1 a0 n3 fun m16 m17 =>
   ∃ (x18 : AV),
   ((ld1 s10 (AV.ptr m16 m17)) = (some x18)) ∧
   ixsK 2 x18 n9 fun m19 m20 =>
   ∃ (s21 : St),
   ((wrN s10 (AV.ptr m19 m20) [(AV.int .i64 0), (AV.int .u64 (IntKind.wrap .u64 (IntKind.wrap .i64 (7000 + n3))))]) = (some s21)) ∧
   ∃ (m22 : Nat),
   (m22 < m11) ∧
   (I7 (IntKind.wrap .i64 (n9 + 1)) s21 m22)
  ) (
   ∃ (m23 : Nat),
   (m23 < m5) ∧
   (I1 (IntKind.wrap .i64 (n3 + 1)) s10 m23)
  )
 ) (
  ∃ (I24 : (AV → (Int → (St → (Nat → Prop))))),
  (
   ∃ (m25 : Nat),
   (I24 AV.nilslice 0 s4 m25)
  ) ∧
  ∀ (x26 : AV) (n27 : Int) (s28 : St) (m29 : Nat),
  (I24 x26 n27 s28 m29) →
  slenK a0 fun m30 =>
  bsel (decide (n27 < ((m30 : Nat) : Int))) (
   ixsK 1 a0 n27 fun m31 m32 =>
   ∃ (x33 : AV),
   ((ld1 s28 (AV.ptr m31 m32)) = (some x33)) ∧
   ∃ (I34 : (AV → (Int → (St → (Nat → Prop))))),
   (
    ∃ (m35 : Nat),
    (I34 x33 0 s28 m35)
   ) ∧
   ∀ (x36 : AV) (n37 : Int) (s38 : St) (m39 : Nat),
   (I34 x36 n37 s38 m39) →
   bsel (decide (n37 < 20)) (
    ∀ (m40 : Nat) (s41 : St),
    (NewO s38 (cellsO [(AV.int .i64 0), (AV.int .u64 (IntKind.wrap .u64 (IntKind.wrap .i64 (7000 + n27))))]) m40 s41) →
    appK D s41 T.sl_api_Bar T.sl_api_Bar x36 (AV.slice m40 0 1 (ACap.exact 1)) fun x42 s43 =>
    ∃ (m44 : Nat),
    (m44 < m39) ∧
    (I34 x42 (IntKind.wrap .i64 (n37 + 1)) s43 m44)
   ) (
    ixsK 1 a0 n27 fun m45 m46 =>
    ∃ (x47 : AV),
    ((ld1 s38 (AV.ptr m45 m46)) = (some x47)) ∧
    ∃ (I48 : (AV → (Int → (St → (Nat → Prop))))),
    (
     ∃ (m49 : Nat),
     (I48 x47 0 s38 m49)
    ) ∧
    ∀ (x50 : AV) (n51 : Int) (s52 : St) (m53 : Nat),
    (I48 x50 n51 s52 m53) →
    bsel (decide (n51 < 80)) (
     ∀ (m54 : Nat) (s55 : St),
     (NewO s52 (cellsO [(AV.int .i64 0), (AV.int .u64 (IntKind.wrap .u64 (IntKind.wrap .i64 (7000 + n27))))]) m54 s55) →
     appK D s55 T.sl_api_Bar T.sl_api_Bar x50 (AV.slice m54 0 1 (ACap.exact 1)) fun x56 s57 =>
     ∃ (m58 : Nat),
     (m58 < m53) ∧
     (I48 x56 (IntKind.wrap .i64 (n51 + 1)) s57 m58)
    ) (
     ixsK 1 a0 n27 fun m59 m60 =>
     ∃ (x61 : AV),
     ((ld1 s52 (AV.ptr m59 m60)) = (some x61)) ∧
     (oneK x61 (oneK x36 (oneK x50 (∀ m62 : Nat, (∀ s63 : St, ((NewO s52 (cellsO [x61, x36, x50]) m62 s63) → (appK D s63 T.sl_sl_api_Bar T.sl_sl_api_Bar x26 (AV.slice m62 0 3 (ACap.exact 3)) (fun x64 => (fun s65 => (∃ m66 : Nat, ((m66 < m29) ∧ (I24 x64 (IntKind.wrap .i64 (n27 + 1)) s65 m66))))))))))))
    )
   )
  ) (
   ∃ (I67 : (Int → (St → (Nat → Prop)))),
   (
    ∃ (m68 : Nat),
    (I67 0 s28 m68)
   ) ∧
   ∀ (n69 : Int) (s70 : St) (m71 : Nat),
   (I67 n69 s70 m71) →
   slenK x26 fun m72 =>
   bsel (decide (n69 < ((m72 : Nat) : Int))) (
    ∃ (I73 : (Int → (St → (Nat → Prop)))),
    (
     ∃ (m74 : Nat),
     (I73 0 s70 m74)
    ) ∧
    ∀ (n75 : Int) (s76 : St) (m77 : Nat),
    (I73 n75 s76 m77) →
    ixsK 1 x26 n69 fun m78 m79 =>
    ∃ (x80 : AV),
    ((ld1 s76 (AV.ptr m78 m79)) = (some x80)) ∧
    slenK x80 fun m81 =>
    bsel (decide (n75 < ((m81 : Nat) : Int))) (
     ixsK 1 x26 n69 fun m82 m83 =>
     ∃ (x84 : AV),
     ((ld1 s76 (AV.ptr m82 m83)) = (some x84)) ∧
     ixsK 2 x84 n75 fun m85 m86 =>
     ∃ (n87 : Int) (n88 : Int),
     ((ldN s76 (AV.ptr m85 m86) 2) = (some [(AV.int .i64 n87), (AV.int .u64 n88)])) ∧
     ((3 : Int) ≠ 0) ∧
     bsel (if (false = true) then ((n87 == 0) && ((n88 == (IntKind.wrap .u64 (IntKind.wrap .i64 (7000 + (IntKind.wrap .i64 (Int.tdiv n69 3)))))) && true)) else (! ((n87 == 0) && ((n88 == (IntKind.wrap .u64 (IntKind.wrap .i64 (7000 + (IntKind.wrap .i64 (Int.tdiv n69 3)))))) && true)))) (
      (Q (AV.bool false) s76)
     ) (
      ∃ (m89 : Nat),
      (m89 < m77) ∧
      (I73 (IntKind.wrap .i64 (n75 + 1)) s76 m89)
     )
    ) (
     ∃ (m90 : Nat),
     (m90 < m71) ∧
     (I67 (IntKind.wrap .i64 (n69 + 1)) s76 m90)
    )
   ) (
    (Q (AV.bool true) s70)
   )
  )
 )
set_option maxRecDepth 100000 in
theorem vc.spoorlaw14_ownBars_ok {a0 : AV} {s : St} {Q : AV → St → Prop} (h : vc.spoorlaw14_ownBars a0 s Q) : CallsA P F.spoorlaw14_ownBars [a0] s Q :=
 fnB_ok (C := C.spoorlaw14_ownBars) hD hX mixes (fi := fnI Tryz.f19) (by kernel_rfl) (by kernel_rfl) (cast (by kernel_rfl : vc.spoorlaw14_ownBars a0 s Q = wpC P C.spoorlaw14_ownBars 1000000 (fnI Tryz.f19).body ⟨PT.setAll .nil 0 [a0], max [a0].length (fnI Tryz.f19).nt, s, []⟩ (endW C.spoorlaw14_ownBars (fnI Tryz.f19).results Q)) h)
end
end Go.Eng.S

