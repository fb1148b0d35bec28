/-
  What is to be shown of functions of the program, and that it suffices.
  What is to be shown of functions of the program, and that it suffices.
-/
import Derived.Test.YthjagnpghdcbcaaGreatDoorSDefs
namespace Go.Eng.S
open Go Go.Eng Go.Proofs
noncomputable section
def C.spoorlaw14_sameTally : Cx := { D := D, rt := rt, its := [], lps := [], det := true }
set_option maxRecDepth 100000 in
def vc.spoorlaw14_sameTally (a0_0 : Int) (a0_1 : Int) (a0_2 : Int) (a0_3 : Int) (a0_4 : Int) (a0_5 : Int) (a0_6 : AV) (a1_0 : Int) (a1_1 : Int) (a1_2 : Int) (a1_3 : Int) (a1_4 : Int) (a1_5 : Int) (a1_6 : AV) (s : St) (Q : (AV → (St → Prop))) : Prop :=
 ∀ (m1 : Nat) (s2 : St),
 (NewO s (cellsO [(AV.int .u64 a0_0), (AV.int .u64 a0_1), (AV.int .u64 a0_2), (AV.int .u64 a0_3), (AV.int .u64 a0_4), (AV.int .u64 a0_5), a0_6]) m1 s2) →
 ∀ (m3 : Nat) (s4 : St),
 (NewO s2 (cellsO [(AV.int .u64 a1_0), (AV.int .u64 a1_1), (AV.int .u64 a1_2), (AV.int .u64 a1_3), (AV.int .u64 a1_4), (AV.int .u64 a1_5), a1_6]) m3 s4) →
 ∃ (x5 : AV),
 ((ld1 s4 (AV.ptr m1 6)) = (some x5)) ∧
 ∃ (x6 : AV),
 ((ld1 s4 (AV.ptr m3 6)) = (some x6)) ∧
 CallsD P F.spoorlaw14_sameBars [x5, x6] s4 fun x7 s8 =>
 ∃ (c9 : Bool),
 (x7 = (AV.bool c9)) ∧
 bsel c9 (
  ∃ (n10 : Int) (n11 : Int),
  ((ldN s8 (AV.ptr m1 0) 2) = (some [(AV.int .u64 n10), (AV.int .u64 n11)])) ∧
  ∃ (n12 : Int) (n13 : Int),
  ((ldN s8 (AV.ptr m3 0) 2) = (some [(AV.int .u64 n12), (AV.int .u64 n13)])) ∧
  bsel (if (true = true) then ((n10 == n12) && ((n11 == n13) && true)) else (! ((n10 == n12) && ((n11 == n13) && true)))) (
   ∃ (n14 : Int) (n15 : Int),
   ((ldN s8 (AV.ptr m1 2) 2) = (some [(AV.int .u64 n14), (AV.int .u64 n15)])) ∧
   ∃ (n16 : Int) (n17 : Int),
   ((ldN s8 (AV.ptr m3 2) 2) = (some [(AV.int .u64 n16), (AV.int .u64 n17)])) ∧
   bsel (if (true = true) then ((n14 == n16) && ((n15 == n17) && true)) else (! ((n14 == n16) && ((n15 == n17) && true)))) (
    ∃ (n18 : Int) (n19 : Int),
    ((ldN s8 (AV.ptr m1 4) 2) = (some [(AV.int .u64 n18), (AV.int .u64 n19)])) ∧
    ∃ (n20 : Int) (n21 : Int),
    ((ldN s8 (AV.ptr m3 4) 2) = (some [(AV.int .u64 n20), (AV.int .u64 n21)])) ∧
    (Q (AV.bool (if (true = true) then ((n18 == n20) && ((n19 == n21) && true)) else (! ((n18 == n20) && ((n19 == n21) && true))))) s8)
   ) (
    (Q (AV.bool false) s8)
   )
  ) (
   (Q (AV.bool false) s8)
  )
 ) (
  (Q (AV.bool false) s8)
 )
set_option maxRecDepth 100000 in
theorem vc.spoorlaw14_sameTally_ok {a0_0 : Int} {a0_1 : Int} {a0_2 : Int} {a0_3 : Int} {a0_4 : Int} {a0_5 : Int} {a0_6 : AV} {a1_0 : Int} {a1_1 : Int} {a1_2 : Int} {a1_3 : Int} {a1_4 : Int} {a1_5 : Int} {a1_6 : AV} {s : St} {Q : AV → St → Prop} (h : vc.spoorlaw14_sameTally a0_0 a0_1 a0_2 a0_3 a0_4 a0_5 a0_6 a1_0 a1_1 a1_2 a1_3 a1_4 a1_5 a1_6 s Q) : CallsD P F.spoorlaw14_sameTally [.agg [.int .u64 a0_0, .int .u64 a0_1, .int .u64 a0_2, .int .u64 a0_3, .int .u64 a0_4, .int .u64 a0_5, a0_6], .agg [.int .u64 a1_0, .int .u64 a1_1, .int .u64 a1_2, .int .u64 a1_3, .int .u64 a1_4, .int .u64 a1_5, a1_6]] s Q :=
 fnD_ok (C := C.spoorlaw14_sameTally) hD hX rfl mixes (fi := fnI Tryz.f15) (by kernel_rfl) (by kernel_rfl) (cast (by kernel_rfl : vc.spoorlaw14_sameTally a0_0 a0_1 a0_2 a0_3 a0_4 a0_5 a0_6 a1_0 a1_1 a1_2 a1_3 a1_4 a1_5 a1_6 s Q = wpC P C.spoorlaw14_sameTally 1000000 (fnI Tryz.f15).body ⟨PT.setAll .nil 0 [.agg [.int .u64 a0_0, .int .u64 a0_1, .int .u64 a0_2, .int .u64 a0_3, .int .u64 a0_4, .int .u64 a0_5, a0_6], .agg [.int .u64 a1_0, .int .u64 a1_1, .int .u64 a1_2, .int .u64 a1_3, .int .u64 a1_4, .int .u64 a1_5, a1_6]], max [.agg [.int .u64 a0_0, .int .u64 a0_1, .int .u64 a0_2, .int .u64 a0_3, .int .u64 a0_4, .int .u64 a0_5, a0_6], .agg [.int .u64 a1_0, .int .u64 a1_1, .int .u64 a1_2, .int .u64 a1_3, .int .u64 a1_4, .int .u64 a1_5, a1_6]].length (fnI Tryz.f15).nt, s, []⟩ (endW C.spoorlaw14_sameTally (fnI Tryz.f15).results Q)) h)
def C.spoorlaw14_sameBars : Cx := { D := D, rt := rt, its := [], lps := [(0, [25, 24, 23, 22, 21, 20, 19, 18, 17, 4, 15, 16, 5, 11, 12, 13, 14], [5])], det := true }
set_option maxRecDepth 100000 in
def vc.spoorlaw14_sameBars (a0 : AV) (a1 : AV) (s : St) (Q : (AV → (St → Prop))) : Prop :=
 slenK a0 fun m1 =>
 slenK a1 fun m2 =>
 bsel (((m1 : Nat) : Int) != ((m2 : Nat) : Int)) (
  (Q (AV.bool false) s)
 ) (
  ∃ (I3 : (Int → (St → (Nat → Prop)))),
  (
   ∃ (m4 : Nat),
   (I3 0 s m4)
  ) ∧
  ∀ (n5 : Int) (s6 : St) (m7 : Nat),
  (I3 n5 s6 m7) →
  slenK a0 fun m8 =>
  bsel (decide (n5 < ((m8 : Nat) : Int))) (
   ∀ (s9 : St),
   (Bump s6 9 s9) →
   ixsK 2 a0 n5 fun m10 m11 =>
   ∃ (n12 : Int) (n13 : Int),
   ((ldN s9 (AV.ptr m10 m11) 2) = (some [(AV.int .i64 n12), (AV.int .u64 n13)])) ∧
   ixsK 2 a1 n5 fun m14 m15 =>
   ∃ (n16 : Int) (n17 : Int),
   ((ldN s9 (AV.ptr m14 m15) 2) = (some [(AV.int .i64 n16), (AV.int .u64 n17)])) ∧
   bsel (if (false = true) then ((n12 == n16) && ((n13 == n17) && true)) else (! ((n12 == n16) && ((n13 == n17) && true)))) (
    (Q (AV.bool false) s9)
   ) (
    ∃ (m18 : Nat),
    (m18 < m7) ∧
    (I3 (IntKind.wrap .i64 (n5 + 1)) s9 m18)
   )
  ) (
   (Q (AV.bool true) s6)
  )
 )
set_option maxRecDepth 100000 in
theorem vc.spoorlaw14_sameBars_ok {a0 : AV} {a1 : AV} {s : St} {Q : AV → St → Prop} (h : vc.spoorlaw14_sameBars a0 a1 s Q) : CallsD P F.spoorlaw14_sameBars [a0, a1] s Q :=
 fnD_ok (C := C.spoorlaw14_sameBars) hD hX rfl mixes (fi := fnI Tryz.f45) (by kernel_rfl) (by kernel_rfl) (cast (by kernel_rfl : vc.spoorlaw14_sameBars a0 a1 s Q = wpC P C.spoorlaw14_sameBars 1000000 (fnI Tryz.f45).body ⟨PT.setAll .nil 0 [a0, a1], max [a0, a1].length (fnI Tryz.f45).nt, s, []⟩ (endW C.spoorlaw14_sameBars (fnI Tryz.f45).results Q)) h)
end
end Go.Eng.S

namespace Go.Eng.S
open Go Go.Eng Go.Proofs
noncomputable section
def C.spoorlaw14_CallsTurned : Cx := { D := D, rt := rt, its := [], lps := [(0, [16, 15, 70, 69, 61, 68, 67, 66, 65, 64, 63, 62, 73, 6, 71, 72, 59, 60, 14, 55, 56, 57, 58], [14]), (2, [19, 18, 89, 88, 80, 87, 86, 85, 84, 83, 82, 81, 92, 6, 90, 91, 78, 79, 17, 74, 75, 76, 77], [17]), (4, [23, 116, 115, 114, 113, 112, 111, 110, 25, 124, 123, 122, 121, 135, 134, 133, 132, 125, 126, 127, 128, 129, 130, 131, 117, 118, 119, 120, 24, 108, 109, 22, 99, 100, 101, 102, 103, 104, 105, 106, 107], [22])], jns := [(17, [45, 46, 47, 48, 49, 50, 51, 52, 53, 54], [54], [.bool false]), (165, [6, 45, 46, 47, 48, 49, 50, 51, 52, 53, 54], [], [])] }
set_option maxRecDepth 100000 in
def vc.spoorlaw14_CallsTurned (a0 : AV) (a1 : AV) (a2 : AV) (s : St) (Q : (AV → (St → Prop))) : Prop :=
 CallsA P F.spoorlaw14_shown [] s fun x1 s2 =>
 ∃ (c3 : Bool),
 (x1 = (AV.bool c3)) ∧
 CallsA P F.spoorlaw14_summed [a0] s2 fun x4 s5 =>
 ∃ (n6 : Int) (n7 : Int) (n8 : Int) (n9 : Int) (n10 : Int) (n11 : Int) (x12 : AV) (c13 : Bool),
 (x4 = (AV.tuple [(AV.agg [(AV.int .u64 n6), (AV.int .u64 n7), (AV.int .u64 n8), (AV.int .u64 n9), (AV.int .u64 n10), (AV.int .u64 n11), x12]), (AV.bool c13)])) ∧
 ∀ (m14 : Nat) (s15 : St),
 (NewO s5 (cellsO [(AV.int .u64 0), (AV.int .u64 0), (AV.int .u64 0), (AV.int .u64 0), (AV.int .u64 0), (AV.int .u64 0), AV.nilslice]) m14 s15) →
 ∃ (s16 : St),
 ((wrN s15 (AV.ptr m14 0) [(AV.int .u64 n6), (AV.int .u64 n7), (AV.int .u64 n8), (AV.int .u64 n9), (AV.int .u64 n10), (AV.int .u64 n11), x12]) = (some s16)) ∧
 CallsA P F.spoorlaw14_summed [a1] s16 fun x17 s18 =>
 ∃ (n19 : Int) (n20 : Int) (n21 : Int) (n22 : Int) (n23 : Int) (n24 : Int) (x25 : AV) (c26 : Bool),
 (x17 = (AV.tuple [(AV.agg [(AV.int .u64 n19), (AV.int .u64 n20), (AV.int .u64 n21), (AV.int .u64 n22), (AV.int .u64 n23), (AV.int .u64 n24), x25]), (AV.bool c26)])) ∧
 ∀ (m27 : Nat) (s28 : St),
 (NewO s18 (cellsO [(AV.int .u64 0), (AV.int .u64 0), (AV.int .u64 0), (AV.int .u64 0), (AV.int .u64 0), (AV.int .u64 0), AV.nilslice]) m27 s28) →
 ∃ (s29 : St),
 ((wrN s28 (AV.ptr m27 0) [(AV.int .u64 n19), (AV.int .u64 n20), (AV.int .u64 n21), (AV.int .u64 n22), (AV.int .u64 n23), (AV.int .u64 n24), x25]) = (some s29)) ∧
 CallsA P F.calls_Delta [a0, a1] s29 fun x30 s31 =>
 ∃ (x32 : AV) (x33 : AV),
 (x30 = (AV.tuple [x32, x33])) ∧
 ∃ (I34 : (St → (Nat → Prop))),
 (
  ∃ (I35 : (Bool → (St → (Nat → Prop)))),
  (
   bsel (!c3) (
    ∃ (m36 : Nat),
    (I35 true s31 m36)
   ) (
    bsel (!c13) (
     ∃ (m37 : Nat),
     (I35 true s31 m37)
    ) (
     ∃ (m38 : Nat),
     (I35 (!c26) s31 m38)
    )
   )
  ) ∧
  ∀ (c39 : Bool) (s40 : St) (m41 : Nat),
  (I35 c39 s40 m41) →
  bsel c39 (
   (Q (AV.bool false) s40)
  ) (
   ∃ (m42 : Nat),
   (I34 s40 m42)
  )
 ) ∧
 ∀ (s43 : St) (m44 : Nat),
 (I34 s43 m44) →
 ∃ (I45 : (Int → (St → (Nat → Prop)))),
 (
  ∃ (m46 : Nat),
  (I45 0 s43 m46)
 ) ∧
 ∀ (n47 : Int) (s48 : St) (m49 : Nat),
 (I45 n47 s48 m49) →
 slenK x32 fun m50 =>
 bsel (decide (n47 < ((m50 : Nat) : Int))) (
  ∀ (s51 : St),
  (Bump s48 13 s51) →
  ∃ (n52 : Int) (n53 : Int) (n54 : Int) (n55 : Int) (n56 : Int) (n57 : Int) (x58 : AV),
  ((ldN s51 (AV.ptr m14 0) 7) = (some [(AV.int .u64 n52), (AV.int .u64 n53), (AV.int .u64 n54), (AV.int .u64 n55), (AV.int .u64 n56), (AV.int .u64 n57), x58])) ∧
  ixsK 5 x32 n47 fun m59 m60 =>
  ∃ (n61 : Int) (t62 : ByteArray) (t63 : ByteArray) (c64 : Bool) (n65 : Int),
  ((ldN s51 (AV.ptr m59 m60) 5) = (some [(AV.int .i64 n61), (AV.str t62), (AV.str t63), (AV.bool c64), (AV.int .u64 n65)])) ∧
  CallsD P F.calls_One [(AV.agg [(AV.int .i64 n61), (AV.str t62), (AV.str t63), (AV.bool c64), (AV.int .u64 n65)])] s51 fun x66 s67 =>
  ∃ (n68 : Int) (n69 : Int) (n70 : Int) (n71 : Int) (n72 : Int) (n73 : Int) (x74 : AV),
  (x66 = (AV.agg [(AV.int .u64 n68), (AV.int .u64 n69), (AV.int .u64 n70), (AV.int .u64 n71), (AV.int .u64 n72), (AV.int .u64 n73), x74])) ∧
  ((ldN s67 (AV.ptr m14 0) 7) = (some [(AV.int .u64 n52), (AV.int .u64 n53), (AV.int .u64 n54), (AV.int .u64 n55), (AV.int .u64 n56), (AV.int .u64 n57), x58])) ∧
  CallsD P F.calls_Minus [(AV.agg [(AV.int .u64 n52), (AV.int .u64 n53), (AV.int .u64 n54), (AV.int .u64 n55), (AV.int .u64 n56), (AV.int .u64 n57), x58]), (AV.agg [(AV.int .u64 n68), (AV.int .u64 n69), (AV.int .u64 n70), (AV.int .u64 n71), (AV.int .u64 n72), (AV.int .u64 n73), x74])] s67 fun x75 s76 =>
  ∃ (n77 : Int) (n78 : Int) (n79 : Int) (n80 : Int) (n81 : Int) (n82 : Int) (x83 : AV) (n84 : Int),
  (x75 = (AV.tuple [(AV.agg [(AV.int .u64 n77), (AV.int .u64 n78), (AV.int .u64 n79), (AV.int .u64 n80), (AV.int .u64 n81), (AV.int .u64 n82), x83]), (AV.int .i64 n84)])) ∧
  ∃ (s85 : St),
  (
   ((wrN (hsetS s76 ((St.nx s48) + 10) (cellsO [(AV.int .u64 0), (AV.int .u64 0), (AV.int .u64 0), (AV.int .u64 0), (AV.int .u64 0), (AV.int .u64 0), AV.nilslice])) (AV.ptr ((St.nx s48) + 10) 0) [(AV.int .u64 n77), (AV.int .u64 n78), (AV.int .u64 n79), (AV.int .u64 n80), (AV.int .u64 n81), (AV.int .u64 n82), x83]) = (some s85))
  ) ∧
  bsel (n84 != 0) (
   (Q (AV.bool false) s85)
  ) (
   ∃ (n86 : Int) (n87 : Int) (n88 : Int) (n89 : Int) (n90 : Int) (n91 : Int) (x92 : AV),
   ((ldN s85 (AV.ptr ((St.nx s48) + 10) 0) 7) = (some [(AV.int .u64 n86), (AV.int .u64 n87), (AV.int .u64 n88), (AV.int .u64 n89), (AV.int .u64 n90), (AV.int .u64 n91), x92])) ∧
   ∃ (s93 : St),
   ((wrN s85 (AV.ptr m14 0) [(AV.int .u64 n86), (AV.int .u64 n87), (AV.int .u64 n88), (AV.int .u64 n89), (AV.int .u64 n90), (AV.int .u64 n91), x92]) = (some s93)) ∧
   ∃ (m94 : Nat),
   (m94 < m49) ∧
   (I45 (IntKind.wrap .i64 (n47 + 1)) s93 m94)
  )
 ) (
  ∃ (I95 : (Int → (St → (Nat → Prop)))),
  (
   ∃ (m96 : Nat),
   (I95 0 s48 m96)
  ) ∧
  ∀ (n97 : Int) (s98 : St) (m99 : Nat),
  (I95 n97 s98 m99) →
  slenK x33 fun m100 =>
  bsel (decide (n97 < ((m100 : Nat) : Int))) (
   ∀ (s101 : St),
   (Bump s98 13 s101) →
   ∃ (n102 : Int) (n103 : Int) (n104 : Int) (n105 : Int) (n106 : Int) (n107 : Int) (x108 : AV),
   ((ldN s101 (AV.ptr m14 0) 7) = (some [(AV.int .u64 n102), (AV.int .u64 n103), (AV.int .u64 n104), (AV.int .u64 n105), (AV.int .u64 n106), (AV.int .u64 n107), x108])) ∧
   ixsK 5 x33 n97 fun m109 m110 =>
   ∃ (n111 : Int) (t112 : ByteArray) (t113 : ByteArray) (c114 : Bool) (n115 : Int),
   ((ldN s101 (AV.ptr m109 m110) 5) = (some [(AV.int .i64 n111), (AV.str t112), (AV.str t113), (AV.bool c114), (AV.int .u64 n115)])) ∧
   CallsD P F.calls_One [(AV.agg [(AV.int .i64 n111), (AV.str t112), (AV.str t113), (AV.bool c114), (AV.int .u64 n115)])] s101 fun x116 s117 =>
   ∃ (n118 : Int) (n119 : Int) (n120 : Int) (n121 : Int) (n122 : Int) (n123 : Int) (x124 : AV),
   (x116 = (AV.agg [(AV.int .u64 n118), (AV.int .u64 n119), (AV.int .u64 n120), (AV.int .u64 n121), (AV.int .u64 n122), (AV.int .u64 n123), x124])) ∧
   ((ldN s117 (AV.ptr m14 0) 7) = (some [(AV.int .u64 n102), (AV.int .u64 n103), (AV.int .u64 n104), (AV.int .u64 n105), (AV.int .u64 n106), (AV.int .u64 n107), x108])) ∧
   CallsD P F.calls_Plus [(AV.agg [(AV.int .u64 n102), (AV.int .u64 n103), (AV.int .u64 n104), (AV.int .u64 n105), (AV.int .u64 n106), (AV.int .u64 n107), x108]), (AV.agg [(AV.int .u64 n118), (AV.int .u64 n119), (AV.int .u64 n120), (AV.int .u64 n121), (AV.int .u64 n122), (AV.int .u64 n123), x124])] s117 fun x125 s126 =>
   ∃ (n127 : Int) (n128 : Int) (n129 : Int) (n130 : Int) (n131 : Int) (n132 : Int) (x133 : AV) (n134 : Int),
   (x125 = (AV.tuple [(AV.agg [(AV.int .u64 n127), (AV.int .u64 n128), (AV.int .u64 n129), (AV.int .u64 n130), (AV.int .u64 n131), (AV.int .u64 n132), x133]), (AV.int .i64 n134)])) ∧
   ∃ (s135 : St),
   (
    ((wrN (hsetS s126 ((St.nx s98) + 10) (cellsO [(AV.int .u64 0), (AV.int .u64 0), (AV.int .u64 0), (AV.int .u64 0), (AV.int .u64 0), (AV.int .u64 0), AV.nilslice])) (AV.ptr ((St.nx s98) + 10) 0) [(AV.int .u64 n127), (AV.int .u64 n128), (AV.int .u64 n129), (AV.int .u64 n130), (AV.int .u64 n131), (AV.int .u64 n132), x133]) = (some s135))
   ) ∧
   bsel (n134 != 0) (
    (Q (AV.bool false) s135)
   ) (
    ∃ (n136 : Int) (n137 : Int) (n138 : Int) (n139 : Int) (n140 : Int) (n141 : Int) (x142 : AV),
    ((ldN s135 (AV.ptr ((St.nx s98) + 10) 0) 7) = (some [(AV.int .u64 n136), (AV.int .u64 n137), (AV.int .u64 n138), (AV.int .u64 n139), (AV.int .u64 n140), (AV.int .u64 n141), x142])) ∧
    ∃ (s143 : St),
    ((wrN s135 (AV.ptr m14 0) [(AV.int .u64 n136), (AV.int .u64 n137), (AV.int .u64 n138), (AV.int .u64 n139), (AV.int .u64 n140), (AV.int .u64 n141), x142]) = (some s143)) ∧
    ∃ (m144 : Nat),
    (m144 < m99) ∧
    (I95 (IntKind.wrap .i64 (n97 + 1)) s143 m144)
   )
  ) (
   ∃ (n145 : Int) (n146 : Int) (n147 : Int) (n148 : Int) (n149 : Int) (n150 : Int) (x151 : AV),
   ((ldN s98 (AV.ptr m14 0) 7) = (some [(AV.int .u64 n145), (AV.int .u64 n146), (AV.int .u64 n147), (AV.int .u64 n148), (AV.int .u64 n149), (AV.int .u64 n150), x151])) ∧
   ∃ (n152 : Int) (n153 : Int) (n154 : Int) (n155 : Int) (n156 : Int) (n157 : Int) (x158 : AV),
   ((ldN s98 (AV.ptr m27 0) 7) = (some [(AV.int .u64 n152), (AV.int .u64 n153), (AV.int .u64 n154), (AV.int .u64 n155), (AV.int .u64 n156), (AV.int .u64 n157), x158])) ∧
   CallsA P F.spoorlaw14_sameTally [(AV.agg [(AV.int .u64 n145), (AV.int .u64 n146), (AV.int .u64 n147), (AV.int .u64 n148), (AV.int .u64 n149), (AV.int .u64 n150), x151]), (AV.agg [(AV.int .u64 n152), (AV.int .u64 n153), (AV.int .u64 n154), (AV.int .u64 n155), (AV.int .u64 n156), (AV.int .u64 n157), x158])] s98 fun x159 s160 =>
   ∃ (c161 : Bool),
   (x159 = (AV.bool c161)) ∧
   ∀ (m162 : Nat) (s163 : St),
   (NewO s160 (cellsO []) m162 s163) →
   ∃ (x164 : AV) (s165 : St),
   ((appendX D s163 T.sl_api_Call T.sl_api_Call (AV.slice m162 0 0 (ACap.exact 0)) a0) = (some (x164, s165))) ∧
   ∃ (I166 : (Int → (St → (Nat → Prop)))),
   (
    ∃ (m167 : Nat),
    (I166 0 s165 m167)
   ) ∧
   ∀ (n168 : Int) (s169 : St) (m170 : Nat),
   (I166 n168 s169 m170) →
   slenK a2 fun m171 =>
   bsel (decide (n168 < ((m171 : Nat) : Int))) (
    slenK x164 fun m172 =>
    bsel (decide (((m172 : Nat) : Int) > 0)) (
     ixsK 1 a2 n168 fun m173 m174 =>
     ∃ (n175 : Int),
     ((ld1 s169 (AV.ptr m173 m174)) = (some (AV.int .i64 n175))) ∧
     slenK x164 fun m176 =>
     CallsA P F.spoorlaw14_pick [(AV.int .i64 n175), (AV.int .i64 ((m176 : Nat) : Int))] s169 fun x177 s178 =>
     ∃ (n179 : Int),
     (x177 = (AV.int .i64 n179)) ∧
     slenK x164 fun m180 =>
     ((((m180 : Nat) : Int) : Int) ≠ 0) ∧
     ixsK 5 x164 (Int.tmod n168 ((m180 : Nat) : Int)) fun m181 m182 =>
     ∃ (n183 : Int) (t184 : ByteArray) (t185 : ByteArray) (c186 : Bool) (n187 : Int),
     ((ldN s178 (AV.ptr m181 m182) 5) = (some [(AV.int .i64 n183), (AV.str t184), (AV.str t185), (AV.bool c186), (AV.int .u64 n187)])) ∧
     ∀ (m188 : Nat) (s189 : St),
     (NewO s178 (cellsO [(AV.int .i64 0), (AV.str ByteArray.empty), (AV.str ByteArray.empty), (AV.bool false), (AV.int .u64 0)]) m188 s189) →
     ∃ (s190 : St),
     ((wrN s189 (AV.ptr m188 0) [(AV.int .i64 n183), (AV.str t184), (AV.str t185), (AV.bool c186), (AV.int .u64 n187)]) = (some s190)) ∧
     ixsK 5 x164 n179 fun m191 m192 =>
     ∃ (n193 : Int) (t194 : ByteArray) (t195 : ByteArray) (c196 : Bool) (n197 : Int),
     ((ldN s190 (AV.ptr m191 m192) 5) = (some [(AV.int .i64 n193), (AV.str t194), (AV.str t195), (AV.bool c196), (AV.int .u64 n197)])) ∧
     ixsK 5 x164 (Int.tmod n168 ((m180 : Nat) : Int)) fun m198 m199 =>
     ∃ (s200 : St),
     ((wrN s190 (AV.ptr m198 m199) [(AV.int .i64 n193), (AV.str t194), (AV.str t195), (AV.bool c196), (AV.int .u64 n197)]) = (some s200)) ∧
     ∃ (n201 : Int) (t202 : ByteArray) (t203 : ByteArray) (c204 : Bool) (n205 : Int),
     ((ldN s200 (AV.ptr m188 0) 5) = (some [(AV.int .i64 n201), (AV.str t202), (AV.str t203), (AV.bool c204), (AV.int .u64 n205)])) ∧
     ixsK 5 x164 n179 fun m206 m207 =>
     ∃ (s208 : St),
     ((wrN s200 (AV.ptr m206 m207) [(AV.int .i64 n201), (AV.str t202), (AV.str t203), (AV.bool c204), (AV.int .u64 n205)]) = (some s208)) ∧
     ∃ (m209 : Nat),
     (m209 < m170) ∧
     (I166 (IntKind.wrap .i64 (n168 + 1)) s208 m209)
    ) (
     CallsA P F.calls_Delta [a0, x164] s169 fun x210 s211 =>
     ∃ (x212 : AV) (x213 : AV),
     (x210 = (AV.tuple [x212, x213])) ∧
     bsel c161 (
      slenK x212 fun m214 =>
      bsel (((m214 : Nat) : Int) == 0) (
       slenK x213 fun m215 =>
       bsel (((m215 : Nat) : Int) == 0) (
        slenK x32 fun m216 =>
        slenK x33 fun m217 =>
        slenK a0 fun m218 =>
        slenK a1 fun m219 =>
        (Q (AV.bool ((IntKind.wrap .i64 (((m216 : Nat) : Int) - ((m217 : Nat) : Int))) == (IntKind.wrap .i64 (((m218 : Nat) : Int) - ((m219 : Nat) : Int))))) s211)
       ) (
        (Q (AV.bool false) s211)
       )
      ) (
       (Q (AV.bool false) s211)
      )
     ) (
      (Q (AV.bool false) s211)
     )
    )
   ) (
    CallsA P F.calls_Delta [a0, x164] s169 fun x220 s221 =>
    ∃ (x222 : AV) (x223 : AV),
    (x220 = (AV.tuple [x222, x223])) ∧
    bsel c161 (
     slenK x222 fun m224 =>
     bsel (((m224 : Nat) : Int) == 0) (
      slenK x223 fun m225 =>
      bsel (((m225 : Nat) : Int) == 0) (
       slenK x32 fun m226 =>
       slenK x33 fun m227 =>
       slenK a0 fun m228 =>
       slenK a1 fun m229 =>
       (Q (AV.bool ((IntKind.wrap .i64 (((m226 : Nat) : Int) - ((m227 : Nat) : Int))) == (IntKind.wrap .i64 (((m228 : Nat) : Int) - ((m229 : Nat) : Int))))) s221)
      ) (
       (Q (AV.bool false) s221)
      )
     ) (
      (Q (AV.bool false) s221)
     )
    ) (
     (Q (AV.bool false) s221)
    )
   )
  )
 )
set_option maxRecDepth 100000 in
theorem vc.spoorlaw14_CallsTurned_ok {a0 : AV} {a1 : AV} {a2 : AV} {s : St} {Q : AV → St → Prop} (h : vc.spoorlaw14_CallsTurned a0 a1 a2 s Q) : CallsA P F.spoorlaw14_CallsTurned [a0, a1, a2] s Q :=
 fnB_ok (C := C.spoorlaw14_CallsTurned) hD hX mixes (fi := fnI Tryz.f6) (by kernel_rfl) (by kernel_rfl) (cast (by kernel_rfl : vc.spoorlaw14_CallsTurned a0 a1 a2 s Q = wpC P C.spoorlaw14_CallsTurned 1000000 (fnI Tryz.f6).body ⟨PT.setAll .nil 0 [a0, a1, a2], max [a0, a1, a2].length (fnI Tryz.f6).nt, s, []⟩ (endW C.spoorlaw14_CallsTurned (fnI Tryz.f6).results Q)) h)
end
end Go.Eng.S

