/-
  What is to be shown of functions of the program, and that it suffices.
-/
import Derived.Test.YteidlkjofcbcmaaSDefs
namespace Go.Eng.S
open Go Go.Eng Go.Proofs
noncomputable section
def C.spoorlaw15_RollupTop : Cx := { D := D, rt := rt, its := [], lps := [(0, [21, 141, 140, 142, 143, 19, 12, 144, 145, 146, 147, 148, 149, 150, 151, 152, 153, 154, 155, 156, 157, 158, 159, 160, 161, 162, 163, 164, 165, 110, 109, 108, 107, 112, 111, 113, 114, 115, 116, 117, 118, 119, 120, 121, 122, 123, 124, 125, 126, 127, 128, 129, 130, 131, 132, 133, 134, 135, 136, 137, 138, 139, 22, 105, 106, 20, 101, 102, 103, 104], [19, 20]), (2, [21, 139, 138, 137, 136, 135, 134, 133, 132, 131, 130, 129, 128, 127, 126, 125, 124, 123, 122, 121, 120, 119, 118, 117, 116, 115, 114, 113, 111, 112, 22, 107, 108, 109, 110], [21, 22]), (4, [183, 182, 181, 180, 179, 178, 177, 176, 175, 174, 173, 172, 12, 170, 171, 23, 166, 167, 168, 169], [23])], jns := [(26, [61, 62, 63, 64, 65, 66, 67, 68, 12], [12], [.bool false]), (249, [12, 89, 88, 87, 86, 85, 84, 83, 69, 70, 71, 72, 73, 74, 75, 76, 77, 78, 79, 80, 81, 82], [], []), (426, [19, 143, 142, 140, 141], [19], [.int .i64 0]), (74, [144, 145, 146, 147, 148, 149, 150, 151, 152, 153, 154, 155, 156, 157, 158, 159, 160, 161, 162, 163, 164, 165], [165], [.bool false])] }
set_option maxRecDepth 100000 in
def vc.spoorlaw15_RollupTop (a0 : Int) (a1 : AV) (a2 : Int) (a3 : Int) (a4 : Int) (a5 : Int) (s : St) (Q : (AV → (St → Prop))) : Prop :=
 CallsA P F.spoorlaw15_alive [] s fun x1 s2 =>
 ∃ (c3 : Bool),
 (x1 = (AV.bool c3)) ∧
 CallsA P F.spoorlaw15_filled [(AV.int .i64 a0), a1] s2 fun x4 s5 =>
 ∃ (x6 : AV),
 (x4 = x6) ∧
 bsel (!c3) (
  bsel c3 (
   bsel (decide (a0 < 2)) (
    (Q (AV.bool true) s5)
   ) (
    (Q (AV.bool (decide (a0 > 16))) s5)
   )
  ) (
   (Q (AV.bool false) s5)
  )
 ) (
  nilK (TD.ptr 83) x6 true fun c7 =>
  bsel c7 (
   bsel c3 (
    bsel (decide (a0 < 2)) (
     (Q (AV.bool true) s5)
    ) (
     (Q (AV.bool (decide (a0 > 16))) s5)
    )
   ) (
    (Q (AV.bool false) s5)
   )
  ) (
   CallsA P F.p_rollup_Rollup_Range [x6, (AV.int .i64 a2), (AV.int .i64 a3)] s5 fun x8 s9 =>
   ∃ (x10 : AV) (n11 : Int),
   (x8 = (AV.tuple [x10, (AV.int .i64 n11)])) ∧
   CallsA P F.p_rollup_Rollup_Top [x6, (AV.int .i64 a2), (AV.int .i64 a3), (AV.int .i64 a4), (AV.int .i64 a5)] s9 fun x12 s13 =>
   ∃ (x14 : AV) (n15 : Int),
   (x12 = (AV.tuple [x14, (AV.int .i64 n15)])) ∧
   bsel (n11 != 0) (
    ∃ (I16 : (Bool → (St → (Nat → Prop)))),
    (
     bsel (n15 == n11) (
      slenK x14 fun m17 =>
      ∃ (m18 : Nat),
      (I16 (((m17 : Nat) : Int) == 0) s13 m18)
     ) (
      ∃ (m19 : Nat),
      (I16 false s13 m19)
     )
    ) ∧
    ∀ (c20 : Bool) (s21 : St) (m22 : Nat),
    (I16 c20 s21 m22) →
    (Q (AV.bool c20) s21)
   ) (
    ∃ (I23 : (St → (Nat → Prop))),
    (
     bsel (decide (a4 < 0)) (
      bsel (n15 == 1) (
       slenK x14 fun m24 =>
       (Q (AV.bool (((m24 : Nat) : Int) == 0)) s13)
      ) (
       (Q (AV.bool false) s13)
      )
     ) (
      bsel (decide (a4 > 2)) (
       bsel (n15 == 1) (
        slenK x14 fun m25 =>
        (Q (AV.bool (((m25 : Nat) : Int) == 0)) s13)
       ) (
        (Q (AV.bool false) s13)
       )
      ) (
       bsel (decide (a5 < 0)) (
        bsel (n15 == 1) (
         slenK x14 fun m26 =>
         (Q (AV.bool (((m26 : Nat) : Int) == 0)) s13)
        ) (
         (Q (AV.bool false) s13)
        )
       ) (
        bsel (decide (a5 > 1000)) (
         bsel (n15 == 1) (
          slenK x14 fun m27 =>
          (Q (AV.bool (((m27 : Nat) : Int) == 0)) s13)
         ) (
          (Q (AV.bool false) s13)
         )
        ) (
         ∃ (m28 : Nat),
         (I23 s13 m28)
        )
       )
      )
     )
    ) ∧
    ∀ (s29 : St) (m30 : Nat),
    (I23 s29 m30) →
    bsel (n15 != 0) (
     (Q (AV.bool false) s29)
    ) (
     slenK x14 fun m31 =>
     slenK x10 fun m32 =>
     bsel (((m31 : Nat) : Int) != (if (false = true) then (if (((m32 : Nat) : Int) > a5) then ((m32 : Nat) : Int) else a5) else (if (((m32 : Nat) : Int) < a5) then ((m32 : Nat) : Int) else a5))) (
      (Q (AV.bool false) s29)
     ) (
      ∃ (I33 : (Int → (Int → (St → (Nat → Prop))))),
      (
       ∃ (m34 : Nat),
       (I33 0 0 s29 m34)
      ) ∧
      ∀ (n35 : Int) (n36 : Int) (s37 : St) (m38 : Nat),
      (I33 n35 n36 s37 m38) →
      slenK x10 fun m39 =>
      bsel (decide (n36 < ((m39 : Nat) : Int))) (
       ∃ (I40 : (Bool → (Int → (St → (Nat → Prop))))),
       (
        ∃ (m41 : Nat),
        (I40 false 0 s37 m41)
       ) ∧
       ∀ (c42 : Bool) (n43 : Int) (s44 : St) (m45 : Nat),
       (I40 c42 n43 s44 m45) →
       slenK x14 fun m46 =>
       bsel (decide (n43 < ((m46 : Nat) : Int))) (
        ∀ (s47 : St),
        (Bump s44 28 s47) →
        bsel c42 (
         ∃ (m48 : Nat),
         (m48 < m45) ∧
         (I40 true (IntKind.wrap .i64 (n43 + 1)) s47 m48)
        ) (
         ixsK 9 x14 n43 fun m49 m50 =>
         ∃ (t51 : ByteArray) (t52 : ByteArray),
         ((ldN s47 (AV.ptr m49 m50) 2) = (some [(AV.str t51), (AV.str t52)])) ∧
         ixsK 9 x10 n36 fun m53 m54 =>
         ∃ (t55 : ByteArray) (t56 : ByteArray),
         ((ldN s47 (AV.ptr m53 m54) 2) = (some [(AV.str t55), (AV.str t56)])) ∧
         bsel (if (true = true) then ((bytesEq (Array.toList (ByteArray.data t51)) (Array.toList (ByteArray.data t55))) && ((bytesEq (Array.toList (ByteArray.data t52)) (Array.toList (ByteArray.data t56))) && true)) else (! ((bytesEq (Array.toList (ByteArray.data t51)) (Array.toList (ByteArray.data t55))) && ((bytesEq (Array.toList (ByteArray.data t52)) (Array.toList (ByteArray.data t56))) && true)))) (
          ixsK 9 x14 n43 fun m57 m58 =>
          ∃ (n59 : Int) (n60 : Int) (n61 : Int) (n62 : Int) (n63 : Int) (n64 : Int) (x65 : AV),
          ((ldN s47 (AV.ptr m57 (m58 + 2)) 7) = (some [(AV.int .u64 n59), (AV.int .u64 n60), (AV.int .u64 n61), (AV.int .u64 n62), (AV.int .u64 n63), (AV.int .u64 n64), x65])) ∧
          ixsK 9 x10 n36 fun m66 m67 =>
          ∃ (n68 : Int) (n69 : Int) (n70 : Int) (n71 : Int) (n72 : Int) (n73 : Int) (x74 : AV),
          ((ldN s47 (AV.ptr m66 (m67 + 2)) 7) = (some [(AV.int .u64 n68), (AV.int .u64 n69), (AV.int .u64 n70), (AV.int .u64 n71), (AV.int .u64 n72), (AV.int .u64 n73), x74])) ∧
          CallsD P F.spoorref15_SameTally [(AV.agg [(AV.int .u64 n59), (AV.int .u64 n60), (AV.int .u64 n61), (AV.int .u64 n62), (AV.int .u64 n63), (AV.int .u64 n64), x65]), (AV.agg [(AV.int .u64 n68), (AV.int .u64 n69), (AV.int .u64 n70), (AV.int .u64 n71), (AV.int .u64 n72), (AV.int .u64 n73), x74])] s47 fun x75 s76 =>
          ∃ (c77 : Bool),
          (x75 = (AV.bool c77)) ∧
          ∃ (m78 : Nat),
          (m78 < m45) ∧
          (I40 c77 (IntKind.wrap .i64 (n43 + 1)) s76 m78)
         ) (
          ∃ (m79 : Nat),
          (m79 < m45) ∧
          (I40 false (IntKind.wrap .i64 (n43 + 1)) s47 m79)
         )
        )
       ) (
        ∃ (I80 : (Int → (St → (Nat → Prop)))),
        (
         bsel (!c42) (
          ∃ (m81 : Nat),
          (I80 (IntKind.wrap .i64 (n35 + 1)) s44 m81)
         ) (
          ∃ (m82 : Nat),
          (I80 n35 s44 m82)
         )
        ) ∧
        ∀ (n83 : Int) (s84 : St) (m85 : Nat),
        (I80 n83 s84 m85) →
        ∃ (I86 : (Bool → (St → (Nat → Prop)))),
        (
         ∀ (s87 : St),
         (Bump s84 22 s87) →
         bsel (!c42) (
          slenK x14 fun m88 =>
          bsel (decide (((m88 : Nat) : Int) > 0)) (
           slenK x14 fun m89 =>
           ixsK 9 x14 (IntKind.wrap .i64 (((m89 : Nat) : Int) - 1)) fun m90 m91 =>
           ∃ (t92 : ByteArray) (t93 : ByteArray) (n94 : Int) (n95 : Int) (n96 : Int) (n97 : Int) (n98 : Int) (n99 : Int) (x100 : AV),
           ((ldN s87 (AV.ptr m90 m91) 9) = (some [(AV.str t92), (AV.str t93), (AV.int .u64 n94), (AV.int .u64 n95), (AV.int .u64 n96), (AV.int .u64 n97), (AV.int .u64 n98), (AV.int .u64 n99), x100])) ∧
           ixsK 9 x10 n36 fun m101 m102 =>
           ∃ (t103 : ByteArray) (t104 : ByteArray) (n105 : Int) (n106 : Int) (n107 : Int) (n108 : Int) (n109 : Int) (n110 : Int) (x111 : AV),
           ((ldN s87 (AV.ptr m101 m102) 9) = (some [(AV.str t103), (AV.str t104), (AV.int .u64 n105), (AV.int .u64 n106), (AV.int .u64 n107), (AV.int .u64 n108), (AV.int .u64 n109), (AV.int .u64 n110), x111])) ∧
           CallsD P F.spoorlaw15_falls [(AV.agg [(AV.str t92), (AV.str t93), (AV.int .u64 n94), (AV.int .u64 n95), (AV.int .u64 n96), (AV.int .u64 n97), (AV.int .u64 n98), (AV.int .u64 n99), x100]), (AV.agg [(AV.str t103), (AV.str t104), (AV.int .u64 n105), (AV.int .u64 n106), (AV.int .u64 n107), (AV.int .u64 n108), (AV.int .u64 n109), (AV.int .u64 n110), x111]), (AV.int .i64 a4)] s87 fun x112 s113 =>
           ∃ (c114 : Bool),
           (x112 = (AV.bool c114)) ∧
           ∃ (m115 : Nat),
           (I86 (!c114) s113 m115)
          ) (
           ∃ (m116 : Nat),
           (I86 false s87 m116)
          )
         ) (
          ∃ (m117 : Nat),
          (I86 false s87 m117)
         )
        ) ∧
        ∀ (c118 : Bool) (s119 : St) (m120 : Nat),
        (I86 c118 s119 m120) →
        bsel c118 (
         (Q (AV.bool false) s119)
        ) (
         ∃ (m121 : Nat),
         (m121 < m38) ∧
         (I33 n83 (IntKind.wrap .i64 (n36 + 1)) s119 m121)
        )
       )
      ) (
       ∃ (I122 : (Int → (St → (Nat → Prop)))),
       (
        ∃ (m123 : Nat),
        (I122 1 s37 m123)
       ) ∧
       ∀ (n124 : Int) (s125 : St) (m126 : Nat),
       (I122 n124 s125 m126) →
       slenK x14 fun m127 =>
       bsel (decide (n124 < ((m127 : Nat) : Int))) (
        ∀ (s128 : St),
        (Bump s125 12 s128) →
        ixsK 9 x14 (IntKind.wrap .i64 (n124 - 1)) fun m129 m130 =>
        ∃ (t131 : ByteArray) (t132 : ByteArray) (n133 : Int) (n134 : Int) (n135 : Int) (n136 : Int) (n137 : Int) (n138 : Int) (x139 : AV),
        ((ldN s128 (AV.ptr m129 m130) 9) = (some [(AV.str t131), (AV.str t132), (AV.int .u64 n133), (AV.int .u64 n134), (AV.int .u64 n135), (AV.int .u64 n136), (AV.int .u64 n137), (AV.int .u64 n138), x139])) ∧
        ixsK 9 x14 n124 fun m140 m141 =>
        ∃ (t142 : ByteArray) (t143 : ByteArray) (n144 : Int) (n145 : Int) (n146 : Int) (n147 : Int) (n148 : Int) (n149 : Int) (x150 : AV),
        ((ldN s128 (AV.ptr m140 m141) 9) = (some [(AV.str t142), (AV.str t143), (AV.int .u64 n144), (AV.int .u64 n145), (AV.int .u64 n146), (AV.int .u64 n147), (AV.int .u64 n148), (AV.int .u64 n149), x150])) ∧
        CallsD P F.spoorlaw15_falls [(AV.agg [(AV.str t131), (AV.str t132), (AV.int .u64 n133), (AV.int .u64 n134), (AV.int .u64 n135), (AV.int .u64 n136), (AV.int .u64 n137), (AV.int .u64 n138), x139]), (AV.agg [(AV.str t142), (AV.str t143), (AV.int .u64 n144), (AV.int .u64 n145), (AV.int .u64 n146), (AV.int .u64 n147), (AV.int .u64 n148), (AV.int .u64 n149), x150]), (AV.int .i64 a4)] s128 fun x151 s152 =>
        ∃ (c153 : Bool),
        (x151 = (AV.bool c153)) ∧
        bsel (!c153) (
         (Q (AV.bool false) s152)
        ) (
         ∃ (m154 : Nat),
         (m154 < m126) ∧
         (I122 (IntKind.wrap .i64 (n124 + 1)) s152 m154)
        )
       ) (
        slenK x10 fun m155 =>
        slenK x14 fun m156 =>
        (Q (AV.bool (n35 == (IntKind.wrap .i64 (((m155 : Nat) : Int) - ((m156 : Nat) : Int))))) s125)
       )
      )
     )
    )
   )
  )
 )
set_option maxRecDepth 100000 in
theorem vc.spoorlaw15_RollupTop_ok {a0 : Int} {a1 : AV} {a2 : Int} {a3 : Int} {a4 : Int} {a5 : Int} {s : St} {Q : AV → St → Prop} (h : vc.spoorlaw15_RollupTop a0 a1 a2 a3 a4 a5 s Q) : CallsA P F.spoorlaw15_RollupTop [.int .i64 a0, a1, .int .i64 a2, .int .i64 a3, .int .i64 a4, .int .i64 a5] s Q :=
 fnB_ok (C := C.spoorlaw15_RollupTop) hD hX mixes (fi := fnI Try.f6) (by kernel_rfl) (by kernel_rfl) (cast (by kernel_rfl : vc.spoorlaw15_RollupTop a0 a1 a2 a3 a4 a5 s Q = wpC P C.spoorlaw15_RollupTop 1000000 (fnI Try.f6).body ⟨PT.setAll .nil 0 [.int .i64 a0, a1, .int .i64 a2, .int .i64 a3, .int .i64 a4, .int .i64 a5], max [.int .i64 a0, a1, .int .i64 a2, .int .i64 a3, .int .i64 a4, .int .i64 a5].length (fnI Try.f6).nt, s, []⟩ (endW C.spoorlaw15_RollupTop (fnI Try.f6).results Q)) h)
end
end Go.Eng.S

