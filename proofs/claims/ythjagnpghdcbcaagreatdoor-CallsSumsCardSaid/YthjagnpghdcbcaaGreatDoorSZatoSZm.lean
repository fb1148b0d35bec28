/-
  Types of lists of lists; lists that came out are their owner's.
  Lists that are lent, and stay; the document's order of calls, its sort, its 'Delta'.
  The document's sort of calls, its 'Delta'.
  Bars that came out are their owner's.
  Tallies that are lent, and stay.
  The document's sums of bars and of tallies.
  The document's taking away: bars, tallies.
  The document's taking away: the calls; a call's tally; numbers cut off.
  A call's tally, numbers cut off, what is taken from a tally: the document's.
  What sums and differences come to, in all cases; bars that have come out.
-/
import Derived.Test.YthjagnpghdcbcaaGreatDoorSYatoSYk
import Derived.Test.YthjagnpghdcbcaaGreatDoorSVltoSVp
import Derived.Test.YthjagnpghdcbcaaGreatDoorW15to31
import Derived.Test.YthjagnpghdcbcaaGreatDoorSVqtoSVs
import Derived.Test.YthjagnpghdcbcaaGreatDoorSYstoSPi
namespace Go.Eng.S
open Go Go.Eng Go.Proofs
set_option linter.constructorNameAsVariable false
set_option maxRecDepth 4000
noncomputable section
attribute [local irreducible] bsel
theorem ty.sl_sl_api_Bar : D.ty.get T.sl_sl_api_Bar = some { d := .slice 29, size := 1, bytes := 24, zero := (some .nilslice), held := false } := by kernel_rfl
theorem wrap7 {i : Nat} (h : i ≤ 1000000) : IntKind.wrap .u64 (IntKind.wrap .i64 (7000 + (i : Int))) = 7000 + (i : Int) := by
 rw [wrap_i64 (by omega) (by omega), wrap_u64 (by omega) (by omega)]
end
end Go.Eng.S

namespace Go.Eng.S
open Go Go.Eng Go.Proofs
set_option linter.constructorNameAsVariable false
set_option maxRecDepth 4000
noncomputable section
attribute [local irreducible] bsel
theorem succ_i {i : Nat} (h : i < 4611686018427387904) : IntKind.wrap .i64 ((i : Int) + 1) = ((i + 1 : Nat) : Int) := by
 rw [wrap_i64 (by omega) (by omega)]; simp
end
end Go.Eng.S

namespace Go.Eng.S
open Go Go.Eng Go.Proofs
set_option linter.constructorNameAsVariable false
set_option maxRecDepth 4000
noncomputable section
attribute [local irreducible] bsel
theorem tdiv2 (n : Nat) : Int.tdiv (n : Int) 2 = ((n / 2 : Nat) : Int) := by
 rw [Int.tdiv_eq_ediv_of_nonneg (by omega)]; omega
theorem tkV {z : Nat} {x y : AV} {lo hi mx : Option AV} {K : AV → Prop} (h : sliceV z x lo hi mx = some y) (hk : K y) : optK (sliceV z x lo hi mx) K := by rw [h]; exact hk
theorem hlen2 {n : Nat} (h : (n + 1 + (n + 1) / 4 + 600) * 56 ≤ pow48) : (n + n / 4 + 600) * 56 ≤ pow48 := Nat.le_trans (Nat.mul_le_mul_right 56 (by omega)) h
end
end Go.Eng.S

namespace Go.Eng.S
open Go Go.Eng Go.Proofs
set_option linter.constructorNameAsVariable false
set_option maxRecDepth 4000
noncomputable section
attribute [local irreducible] bsel
def mkB (i : Nat) : Bar := (0, 7000 + (i : Int))
set_option maxHeartbeats 1000000 in
theorem ownBars_ok {s : St} {a0 : AV} {L : List AV} {ns : Nat → Nat} {N : Nat} (ha : Sl avE s a0 L) (hl : ∀ (j : Nat) (x : AV), L[j]? = some x → MkP barE s x (ns j) 0 (mkB j))
  (hd : ∀ (i j : Nat) (x y : AV), L[i]? = some x → L[j]? = some y → i ≠ j → ∀ c, c ∈ blkOf x → c ∉ blkOf y) (hda : ∀ (i : Nat) (x : AV), L[i]? = some x → ∀ c, c ∈ blkOf x → c ∉ blkOf a0)
  (hn : ∀ j, ns j + 80 ≤ N) (hN : (N + 1 + (N + 1) / 4 + 600) * 16 ≤ pow48) (hk : L.length ≤ 100000) :
  CallsA P F.spoorlaw14_ownBars [a0] s fun v _ => v = .bool true := by
 refine CallsA.fr fun hfr => vc.spoorlaw14_ownBars_ok ?_
 have hN4 : N + 1 ≤ pow48 := by unfold pow48 at hN ⊢; omega
 have hNb : N < 4611686018427387904 := by unfold pow48 at hN; omega
 refine ⟨fun n s1 k => ∃ i : Nat, n = i ∧ i ≤ L.length ∧ k = L.length - i ∧ Own1 barE mkB ns (fun j => if j < i then ns j else 0) s.nx a0 L s1, ⟨_, 0, rfl, by omega, rfl, hfr, Nat.le_refl _, ha, fun c hc => hfr.lt (by
  rcases ha with ⟨h1, _⟩ | ⟨b, o, n, cap, rfl, h1, h2⟩
  ·cases a0 <;> simp [slZero, blkOf] at h1 hc
  ·have : c = b := by simpa [blkOf] using hc
   rw [this]; exact h2.there), fun j x hx => by simpa using hl j x hx, hd, hda⟩, ?_⟩
 rintro _ s4 m5 ⟨i, rfl, hi, hm5, H⟩
 refine H.a.slen (bsel_of (fun c => ?_) fun c => ?_)
 ·-- one list is marked
  have c : i < L.length := by simpa using c
  have hxi : L[i]? = some L[i] := List.getElem?_eq_getElem c
  refine ⟨fun n s1 k => ∃ q : Nat, n = q ∧ q ≤ ns i ∧ k = ns i - q ∧ Own1 barE mkB ns (fun j => if j = i then q else if j < i then ns j else 0) s.nx a0 L s1, ⟨_, 0, rfl, by omega, rfl, ?_⟩, ?_⟩
  ·have e : (fun j => if j = i then 0 else if j < i then ns j else 0) = fun j => if j < i then ns j else 0 := by
    funext j
    split
    ·rename_i h; rw [if_neg (by omega)]
    ·rfl
   rw [e]; exact H
  ·rintro _ s10 m11 ⟨q, rfl, hq, hm11, H1⟩
   have hM := H1.l i _ hxi
   simp only [if_true] at hM
   refine H1.a.ixs rfl rfl c fun b o hR => ⟨L[i], hR.ld1 0 rfl, ?_⟩
   unfold slenK
   rw [hM.len]
   refine bsel_of (fun c2 => ?_) fun c2 => ?_
   ·have c2 : q < ns i := by simpa using c2
    refine H1.a.ixs rfl rfl c fun b o hR => ⟨L[i], hR.ld1 0 rfl, ?_⟩
    refine hM.put rfl rfl c2 (vs := [.int .i64 0, .int .u64 (IntKind.wrap .u64 (IntKind.wrap .i64 (7000 + (i : Int))))]) rfl (by rw [wrap7 (by omega)]; rfl) fun b o s' e1 e2 e3 e4 e5 e6 => ?_
    have H2 := H1.wr hxi e1 e3 e4 e5 e6
    have := hn i
    refine ⟨s', e2, ns i - (q + 1), by omega, q + 1, by rw [wrap_i64 (by omega) (by omega)]; simp, by omega, rfl, ?_⟩
    have e : (fun j => if j = i then q + 1 else if j = i then q else if j < i then ns j else 0) = fun j => if j = i then q + 1 else if j < i then ns j else 0 := by
     funext j
     split
     ·rfl
     ·rename_i h; first | rfl | rw [if_neg h]
    rw [← e]; exact H2
   ·have c2 : ¬ q < ns i := by simpa using c2
    obtain rfl : q = ns i := by omega
    refine ⟨L.length - (i + 1), by omega, i + 1, by rw [wrap_i64 (by omega) (by omega)]; simp, by omega, rfl, ?_⟩
    have e : (fun j => if j = i then ns i else if j < i then ns j else 0) = fun j => if j < i + 1 then ns j else 0 := by
     funext j
     by_cases h : j = i
     ·rw [if_pos h, if_pos (by omega), h]
     ·rw [if_neg h]
      by_cases h2 : j < i
      ·rw [if_pos h2, if_pos (by omega)]
      ·rw [if_neg h2, if_neg (by omega)]
    rw [← e]; exact H1
 ·-- all are grown
  have c : ¬ i < L.length := by simpa using c
  obtain rfl : i = L.length := by omega
  have H0 : Own1 barE mkB ns ns s.nx a0 L s4 := ⟨H.fr, H.nx, H.a, H.ab, fun j x hx => by
   have := H.l j x hx
   have hj := (List.getElem?_eq_some_iff.1 hx).1
   simp only [hj, if_true] at this
   exact this, H.d, H.da⟩
  obtain ⟨col0, J0⟩ := H0.done N
  refine ⟨fun x n s1 k => ∃ (i : Nat) (col : Nat → Option Nat) (LG : List AV), n = i ∧ i ≤ L.length ∧ k = L.length - i ∧ LG.length = 3 * i ∧ Own2 barE mkB ns N s.nx a0 L col s1 x LG, ⟨_, 0, col0, [], rfl, by omega, rfl, rfl, J0⟩, ?_⟩
  rintro x26 _ s28 m29 ⟨i, col, LG, rfl, hi, hm29, hLG, J⟩
  refine J.a.slen (bsel_of (fun c => ?_) fun c => ?_)
  ·have c : i < L.length := by simpa using c
   have hxi : L[i]? = some L[i] := List.getElem?_eq_getElem c
   have hni := hn i
   refine J.a.ixs rfl rfl c fun b o hR => ⟨L[i], hR.ld1 0 rfl, ?_⟩
   refine ⟨fun x n s1 k => ∃ (q : Nat) (col : Nat → Option Nat), n = q ∧ q ≤ 20 ∧ k = 20 - q ∧ Own2 barE mkB ns N s.nx a0 L col s1 x26 LG ∧ Mk barE s1 x (ns i + q) (mkB i) ∧ ColS col x (some i), ⟨_, 0, col, rfl, by omega, rfl, J, J.l i _ hxi⟩, ?_⟩
   rintro x36 _ s38 m39 ⟨q, col1, rfl, hq, hm39, J1, hM, hC⟩
   refine bsel_of (fun c2 => ?_) fun c2 => ?_
   ·have c2 : q < 20 := by have := of_decide_eq_true c2; omega
    intro m40 s41 h41
    have G1 := GrowC.new (E := barE) (mark := mkB) (col := col1) h41.fwd J1.fr
    have J2 := J1.grow G1 h41.fr
    obtain ⟨M1, M2⟩ := G1.1 _ _ _ hM hC
    refine M1.app M2 ty.sl_api_Bar rfl ty.api_Bar rfl rfl rfl rfl h41.own.rd (by rw [wrap7 (by omega)]; rfl) (Nat.le_trans (Nat.mul_le_mul_right 16 (by omega)) hN) (by omega) h41.fr fun v s' col' A1 A2 A3 A4 => ?_
    exact ⟨20 - (q + 1), by omega, q + 1, col', by rw [wrap_i64 (by omega) (by omega)]; simp, by omega, rfl, J2.grow A3 A4, A1, A2⟩
   ·have c2 : ¬ q < 20 := by have := of_decide_eq_false c2; omega
    refine J1.a.ixs rfl rfl c fun b o hR => ⟨L[i], hR.ld1 0 rfl, ?_⟩
    refine ⟨fun x n s1 k => ∃ (p : Nat) (col : Nat → Option Nat), n = p ∧ p ≤ 80 ∧ k = 80 - p ∧ Own2 barE mkB ns N s.nx a0 L col s1 x26 LG ∧ (Mk barE s1 x36 (ns i + q) (mkB i) ∧ ColS col x36 (some i)) ∧ Mk barE s1 x (ns i + p) (mkB i) ∧ ColS col x (some i), ⟨_, 0, col1, rfl, by omega, rfl, J1, ⟨hM, hC⟩, J1.l i _ hxi⟩, ?_⟩
    rintro x50 _ s52 m53 ⟨p, col2, rfl, hp, hm53, J2, ⟨hM2, hC2⟩, hM3, hC3⟩
    refine bsel_of (fun c3 => ?_) fun c3 => ?_
    ·have c3 : p < 80 := by have := of_decide_eq_true c3; omega
     intro m54 s55 h55
     have G1 := GrowC.new (E := barE) (mark := mkB) (col := col2) h55.fwd J2.fr
     have J3 := J2.grow G1 h55.fr
     obtain ⟨M1, M2⟩ := G1.1 _ _ _ hM3 hC3
     obtain ⟨M3, M4⟩ := G1.1 _ _ _ hM2 hC2
     refine M1.app M2 ty.sl_api_Bar rfl ty.api_Bar rfl rfl rfl rfl h55.own.rd (by rw [wrap7 (by omega)]; rfl) (Nat.le_trans (Nat.mul_le_mul_right 16 (by omega)) hN) (by omega) h55.fr fun v s' col' A1 A2 A3 A4 => ?_
     exact ⟨80 - (p + 1), by omega, p + 1, col', by rw [wrap_i64 (by omega) (by omega)]; simp, by omega, rfl, J3.grow A3 A4, A3.1 _ _ _ M3 M4, A1, A2⟩
    ·have c3 : ¬ p < 80 := by have := of_decide_eq_false c3; omega
     refine J2.a.ixs rfl rfl c fun b o hR => ⟨L[i], hR.ld1 0 rfl, ?_⟩
     have one1 : ∀ {y : AV} {k : Nat} {R : Prop}, Mk barE s52 y k (mkB i) → R → oneK y R := fun hk hR => by
      have := hk.len
      rename_i y k R
      cases y <;> first | exact hR | simp [slLen] at this
     obtain ⟨L1, L2⟩ := J2.l i _ hxi
     refine one1 L1 (one1 hM2 (one1 hM3 ?_))
     intro m62 s63 h63
     obtain ⟨v, s', col', q1, q2, q3⟩ := J2.push ty.sl_sl_api_Bar rfl ty.sl_api_Bar rfl (by decide) rfl rfl L1 hM2 hM3 L2 hC2 hC3 (by omega) (by omega) (by omega) hLG (by omega) h63
     exact .inl ⟨v, s', q1, L.length - (i + 1), by omega, i + 1, col', _, by rw [wrap_i64 (by omega) (by omega)]; simp, by omega, rfl, q3, q2⟩
  ·-- all are looked at
   have c : ¬ i < L.length := by simpa using c
   refine ⟨fun n s1 k => ∃ q : Nat, n = q ∧ q ≤ LG.length ∧ k = LG.length - q ∧ s1 = s28, ⟨_, 0, rfl, by omega, rfl, rfl⟩, ?_⟩
   rintro _ s70 m71 ⟨q, rfl, hq, hm71, rfl⟩
   refine J.og.sl.slen (bsel_of (fun c2 => ?_) fun c2 => ?_)
   ·have c2 : q < LG.length := by simpa using c2
    obtain ⟨n, hnN, hM, _⟩ := J.gl q _ (List.getElem?_eq_getElem c2)
    refine ⟨fun k s1 r => ∃ p : Nat, k = p ∧ p ≤ n ∧ r = n - p ∧ s1 = s70, ⟨_, 0, rfl, by omega, rfl, rfl⟩, ?_⟩
    rintro _ s76 m77 ⟨p, rfl, hp, hm77, rfl⟩
    refine J.og.sl.ixs rfl rfl c2 fun b o hR => ⟨LG[q], hR.ld1 0 rfl, ?_⟩
    unfold slenK
    rw [hM.len]
    refine bsel_of (fun c3 => ?_) fun c3 => ?_
    ·have c3 : p < n := by simpa using c3
     refine J.og.sl.ixs rfl rfl c2 fun b o hR => ⟨LG[q], hR.ld1 0 rfl, ?_⟩
     refine hM.at rfl rfl c3 fun b o hR => ⟨_, _, hR.all rfl, by decide, ?_⟩
     have e3 : Int.tdiv (q : Int) 3 = ((q / 3 : Nat) : Int) := by rw [Int.tdiv_eq_ediv_of_nonneg (by omega)]; omega
     rw [e3, wrap_i64 (a := ((q / 3 : Nat) : Int)) (by omega) (by omega), wrap7 (by omega)]
     refine bsel_of (fun c4 => ?_) fun _ => ?_
     ·simp [mkB] at c4
     ·exact ⟨n - (p + 1), by omega, p + 1, by rw [wrap_i64 (by omega) (by omega)]; simp, by omega, rfl, rfl⟩
    ·exact ⟨LG.length - (q + 1), by omega, q + 1, by rw [wrap_i64 (by omega) (by omega)]; simp, by omega, rfl, rfl⟩
   ·rfl
end
end Go.Eng.S

namespace Go.Eng.S
open Go Go.Eng Go.Proofs
set_option linter.constructorNameAsVariable false
set_option maxRecDepth 4000
noncomputable section
attribute [local irreducible] bsel
def lmkB (i : Nat) : Bar := (900 + (i : Int), 0)
def lentB (l : List Bar) : List Bar := l ++ [lmkB l.length, lmkB (l.length + 1), lmkB (l.length + 2)]
theorem lentB_len (l : List Bar) : (lentB l).length = l.length + 3 := by simp [lentB]
theorem lentB_old {l : List Bar} {i : Nat} (h : i < l.length) : (lentB l)[i]? = some l[i] := by
 unfold lentB
 rw [List.getElem?_append_left h]; exact List.getElem?_eq_getElem h
theorem lentB_new {l : List Bar} {i : Nat} (h : l.length ≤ i) (h' : i < l.length + 3) : (lentB l)[i]? = some (lmkB i) := by
 unfold lentB
 rw [List.getElem?_append_right h]
 obtain ⟨d, rfl⟩ : ∃ d, i = l.length + d := ⟨i - l.length, by omega⟩
 rw [Nat.add_sub_cancel_left]
 match d, h' with
 | 0, _ => rfl
 | 1, _ => rfl
 | 2, _ => rfl
 | d + 3, h' => omega
def zB : Bar := (0, 0)
theorem zeros_B : ∀ n : Nat, zeros (barE.f zB) n = (List.replicate n zB).flatMap barE.f
 | 0 => rfl
 | n + 1 => by rw [List.replicate_succ, List.flatMap_cons, ← zeros_B n]; rfl
theorem spliceB0 {M : List Bar} {l : List Bar} (h : l.length ≤ M.length) : splice (M.flatMap barE.f) 0 (l.flatMap barE.f) = (l ++ M.drop l.length).flatMap barE.f := by
 unfold splice
 rw [List.take_zero, List.nil_append, Nat.zero_add, List.flatMap_append, barE.flat_drop h, barE.flat_len]
theorem cutB {n : Nat} {b : Nat} : sliceV 2 (.slice b 0 (n + 3) (.exact (n + 3))) none (some (.int .i64 (n : Int))) none = some (.slice b 0 n (.exact (n + 3))) := by
 have e1 : sliceV 2 (.slice b 0 (n + 3) (.exact (n + 3))) none (some (.int .i64 (n : Int))) none = sliceEx 2 b 0 (n + 3) 0 n (n + 3) := by
  simp [sliceV, optInt, sliceSl]
 have b1 : Nat.ble 0 n = true := by rw [Nat.ble_eq]; omega
 have b2 : Nat.ble n (n + 3) = true := by rw [Nat.ble_eq]; omega
 have b3 : Nat.ble (n + 3) (n + 3) = true := by rw [Nat.ble_eq]; omega
 rw [e1]
 simp only [sliceEx, b1, b2, b3, Bool.and_self, if_true]
 rfl
theorem cutSB {s : St} {b n : Nat} {M A : List Bar} (h : Own s b (M.flatMap barE.f)) (hn : n ≤ M.length) (hA : M.take n = A) : Sl barE s (.slice b 0 n (.exact (n + 3))) A := by
 subst hA
 have hl : ((M.take n).flatMap barE.f).length = n * barE.z := by rw [barE.flat_len, List.length_take, Nat.min_eq_left hn]
 obtain ⟨c, h1, h2⟩ := h
 rw [barE.flat_len] at h1 h2
 have hm : n * barE.z ≤ M.length * barE.z := Nat.mul_le_mul_right _ hn
 refine .inr ⟨b, 0, n, _, rfl, hl, c, _, _, h1, by rw [hl]; omega, ?_⟩
 rw [hl, barE.flat_take hn]
 have := getAll_part h2 0 (n * barE.z) (by omega)
 simpa using this
theorem lentTally_ok {s : St} {x : AV} {t : Tal} (hx : Sl barE s x t.l) (hn : (t.l.length + 3) * 16 ≤ pow48) :
  CallsA P F.spoorlaw14_lentTally [t.V x] s fun v s' => (∃ b, v = .tuple [t.V (.slice b 0 t.l.length (.exact (t.l.length + 3))), .slice b 0 (t.l.length + 3) (.exact (t.l.length + 3))] ∧ Own s' b ((lentB t.l).flatMap barE.f) ∧ s.h.get b = none ∧ Frw [] s s') ∧ Fr s' := by
 refine CallsA.of fun hfr => (vc.spoorlaw14_lentTally_ok ?_).a
 obtain ⟨⟨a1, a2⟩, ⟨a3, a4⟩, ⟨a5, a6⟩, l⟩ := t
 simp only at hx hn
 intro m1 s2 h2 m3 s4 h4
 have f4 := h2.fwd.trans h4.fwd
 have om1 := h2.own.ext h4.fwd
 have hx4 := hx.ext f4
 refine ⟨x, om1.ld1 6 rfl, ?_⟩
 have hn4 : l.length + 3 < 4611686018427387904 := by unfold pow48 at hn; omega
 refine hx.slen ?_
 have e4 : IntKind.wrap .i64 (((l.length : Nat) : Int) + 3) = ((l.length + 3 : Nat) : Int) := by
  rw [wrap_i64 (by omega) (by omega)]; simp
 rw [e4]
 obtain ⟨s1, q1, q2⟩ := makeSlice_of (D := D) (s := s4) (t := T.sl_api_Bar) (k := .i64) (k' := .i64) (n := ((l.length + 3 : Nat) : Int)) (m := ((l.length + 3 : Nat) : Int)) ty.sl_api_Bar rfl ty.api_Bar rfl rfl (by omega) (Int.le_refl _) (by unfold pow48 at hn; omega) (by rw [Int.toNat_natCast]; show 16 * _ ≤ _; rw [Nat.mul_comm]; exact hn) h4.fr
 rw [Int.toNat_natCast] at q1 q2
 have hz : zeros (AV.cells (.agg [.int .i64 0, .int .u64 0])) (l.length + 3) = (List.replicate (l.length + 3) zB).flatMap barE.f := zeros_B _
 have o1 : Own s1 s4.nx ((List.replicate (l.length + 3) zB).flatMap barE.f) := by rw [← hz]; exact q2.own
 have hl1 : ((List.replicate (l.length + 3) zB).flatMap barE.f).length = (l.length + 3) * barE.z := by rw [barE.flat_len, List.length_replicate]
 obtain ⟨s2', c1, c2, c3, c4, c5⟩ := copy_of (cap := .exact (l.length + 3)) ty.sl_api_Bar rfl ty.api_Bar rfl o1 hl1 (hx4.ext q2.fwd) (by omega) (fun a _ => rfl)
 rw [spliceB0 (by rw [List.length_replicate]; omega)] at c2
 have hfr2 : Fr s2' := q2.fr.wr o1.there c4 c5
 have gone : ∀ c, c ∈ [s4.nx] → s4.h.get c = none := fun c hc => by
  have : c = s4.nx := by simpa using hc
  rw [this]; exact q2.gone
 have f2 : Frw [] s4 s2' := q2.fwd.step c3 gone
 refine ⟨_, s1, q1, x, (om1.ext q2.fwd).ld1 6 rfl, _, s2', c1, x, (om1.ext f2).ld1 6 rfl, hx.slen ⟨fun n s3 m => ∃ (i : Nat) (M : List Bar), n = i ∧ l.length ≤ i ∧ i ≤ l.length + 3 ∧ m = l.length + 3 - i ∧ M.length = l.length + 3 ∧ (∀ j, j < i → M[j]? = (lentB l)[j]?) ∧ Own s3 s4.nx (M.flatMap barE.f) ∧ Frw [] s4 s3 ∧ Fr s3, ⟨_, l.length, _, rfl, Nat.le_refl _, by omega, rfl, ?_, fun j hj => ?_, c2, f2, hfr2⟩, ?_⟩⟩
 ·simp
 ·rw [List.getElem?_append_left hj, lentB_old hj, List.getElem?_eq_getElem hj]
 rintro _ s3 m11 ⟨i, M, rfl, h1, h2', hm, hM, hj, o3, f3, hfr3⟩
 show slenK _ _
 unfold slenK
 show bsel _ _ _
 refine bsel_of (fun c => ?_) fun c => ?_
 ·have c : i < l.length + 3 := by have := of_decide_eq_true c; omega
  refine ⟨by omega, by omega, ?_⟩
  rw [mulS_eq, Int.toNat_natCast, Nat.zero_add]
  have hw9 : IntKind.wrap .i64 (900 + (i : Int)) = 900 + (i : Int) := wrap_i64 (by omega) (by omega)
  have hlen : (M.flatMap barE.f).length = (l.length + 3) * 2 := by rw [barE.flat_len, hM]; rfl
  obtain ⟨s4', w1, w2, w3, w4, w5, w6⟩ := o3.wrN (i * 2) [.int .i64 (IntKind.wrap .i64 (900 + (i : Int))), .int .u64 0] rfl (by rw [hlen]; simp; omega)
  refine ⟨s4', w1, l.length + 3 - (i + 1), by omega, i + 1, M.set i (lmkB i), succ_i (by omega), by omega, by omega, rfl, by simp [hM], fun j hj' => ?_, ?_, f3.step w3 gone, hfr3.wr o3.there w4 w6⟩
  ·by_cases e : j = i
   ·subst e
    rw [List.getElem?_set_self (by omega), lentB_new (by omega) c]
   ·rw [List.getElem?_set_ne (Ne.symm e)]
    exact hj j (by omega)
  ·rw [hw9] at w2
   have := barE.flat_set (l := M) (k := i) (by omega) (j := 0) (vs := barE.f (lmkB i)) (a := lmkB i) (by simp [barE.len]) (by simp [splice, barE.len])
   rw [Nat.add_zero] at this
   rw [← this]
   exact w2
 ·have c : i = l.length + 3 := by have := of_decide_eq_false c; omega
  subst c
  have : M = lentB l := List.ext_getElem? fun j => by
   by_cases h : j < l.length + 3
   ·exact hj j h
   ·rw [List.getElem?_eq_none (by omega), List.getElem?_eq_none (by rw [lentB_len]; omega)]
  subst this
  intro s24 hB
  have f24 := f3.trans hB.fwd
  have om1 := om1.ext f24
  have om3 := h4.own.ext f24
  have o3 := o3.ext hB.fwd
  refine ⟨_, _, om1.ldN 0 2 (by simp), _, _, om1.ldN 2 2 (by simp), _, _, om1.ldN 4 2 (by simp), x, om1.ld1 6 rfl, hx.slen (tkV cutB ?_)⟩
  obtain ⟨s34, w1, w2, w3, w4, w5, w6⟩ := om3.wrAll [.int .u64 a1, .int .u64 a2, .int .u64 a3, .int .u64 a4, .int .u64 a5, .int .u64 a6, .slice s4.nx 0 l.length (.exact (l.length + 3))] rfl rfl
  have hm3 : m3 ≠ s4.nx := fun e => h4.own.there (by rw [e]; exact q2.gone)
  show ∃ s34, wrN s24 (.ptr m3 0) [.int .u64 a1, .int .u64 a2, .int .u64 a3, .int .u64 a4, .int .u64 a5, .int .u64 a6, .slice s4.nx 0 l.length (.exact (l.length + 3))] = some s34 ∧ _
  refine ⟨s34, w1, _, _, _, _, _, _, _, w2.all rfl, s4.nx, rfl, o3.fwd w3 (by simpa using Ne.symm hm3), f4.none q2.gone (by simp), (f4.trans f24).step w3 fun c hc => ?_⟩
  have : c = m3 := by simpa using hc
  rw [this]; exact h2.fwd.none h4.gone (by simp)
theorem barEq_iff {a b : Bar} : ((a.1 == b.1) && ((a.2 == b.2) && true)) = true ↔ a = b := by
 obtain ⟨a1, a2⟩ := a
 obtain ⟨b1, b2⟩ := b
 simp only [Bool.and_true, Bool.and_eq_true, beq_iff_eq, Prod.mk.injEq]
theorem barsStay_ok {s : St} {b n : Nat} {cap : ACap} {y : AV} {l : List Bar} (ho : Own s b ((lentB l).flatMap barE.f)) (hn : n = l.length + 3) (hy : Sl barE s y l) (hl : l.length < 1000000000000000) :
  CallsA P F.spoorlaw14_barsStay [.slice b 0 n cap, y] s fun v s' => (v = .bool true ∧ Frw [] s s') ∧ Fr s' := by
 subst hn
 have hx : Sl barE s (.slice b 0 (l.length + 3) cap) (lentB l) := .inr ⟨b, 0, _, cap, rfl, by rw [barE.flat_len, lentB_len], ho.rd⟩
 refine CallsA.of fun hfr => (vc.spoorlaw14_barsStay_ok ?_).a
 refine ⟨fun n s4 m => ∃ i : Nat, n = i ∧ i ≤ l.length + 3 ∧ m = l.length + 3 - i ∧ Frw [] s s4 ∧ Fr s4, ⟨_, 0, rfl, by omega, rfl, .refl _ _, hfr⟩, ?_⟩
 rintro _ s4 m5 ⟨i, rfl, hi, hm, f4, hfr4⟩
 refine (hx.ext f4).slen (bsel_of (fun c => ?_) fun _ => ⟨rfl, f4⟩)
 rw [lentB_len] at c
 have c : i < l.length + 3 := by have := of_decide_eq_true c; omega
 have hiL : i < (lentB l).length := by rw [lentB_len]; exact c
 refine ⟨fun s5 _ => Frw [] s s5 ∧ Fr s5, ⟨fun c s5 _ => c = false ∧ Frw [] s s5 ∧ Fr s5, ?_, ?_⟩, ?_⟩
 ·intro s9 hB
  have f9 := f4.trans hB.fwd
  have hx9 := hx.ext f9
  have hy9 := hy.ext f9
  refine hy9.slen (bsel_of (fun c2 => ?_) fun c2 => hy9.slen (bsel_of (fun _ => ?_) fun c3 => ?_))
  ·have c2 : i < l.length := by have := of_decide_eq_true c2; omega
   refine hx9.ixs rfl rfl hiL fun b o hR => ⟨_, _, hR.all rfl, hy9.ixs rfl rfl c2 fun b o hR => ⟨_, _, hR.all rfl, bsel_of (fun c3 => ?_) fun _ => hy9.slen (bsel_of (fun c4 => ?_) fun _ => ⟨0, rfl, f9, hB.fr⟩)⟩⟩
   ·have e : (lentB l)[i] = l[i] := by
     have := lentB_old c2
     rw [List.getElem?_eq_getElem hiL] at this
     simpa using this
    rw [e, if_neg (by simp)] at c3
    have := barEq_iff.2 (rfl : l[i] = l[i])
    rw [this] at c3
    simp at c3
   ·have := of_decide_eq_true c4
    omega
  ·have c2 : ¬ i < l.length := by have := of_decide_eq_false c2; omega
   refine hx9.ixs rfl rfl hiL fun b o hR => ⟨_, _, hR.all rfl, 0, ?_, f9, hB.fr⟩
   have e : (lentB l)[i] = lmkB i := by
    have := lentB_new (l := l) (i := i) (by omega) c
    rw [List.getElem?_eq_getElem hiL] at this
    simpa using this
   rw [e, if_neg (by simp), wrap_i64 (a := 900 + (i : Int)) (by omega) (by omega)]
   have := barEq_iff.2 (rfl : lmkB i = lmkB i)
   simp only [lmkB] at this ⊢
   rw [this]
   rfl
  ·have := of_decide_eq_false c2
   have := of_decide_eq_false c3
   omega
 ·rintro _ s47 m48 ⟨rfl, f47, hfr47⟩
  exact bsel_of (fun c => by simp at c) fun _ => ⟨0, f47, hfr47⟩
 ·rintro s50 m51 ⟨f50, hfr50⟩
  exact ⟨l.length + 3 - (i + 1), by omega, i + 1, succ_i (by omega), by omega, rfl, f50, hfr50⟩
end
end Go.Eng.S

namespace Go.Eng.S
open Go Go.Eng Go.Proofs
set_option linter.constructorNameAsVariable false
noncomputable section
attribute [local irreducible] bsel barsOf mergeB
theorem RCheck_ok {s : St} {a : AV} {l : List Bar} (ha : Sl barE s a l) (hr : RngB l) :
  CallsD P F.spoorref13_Check [a] s fun v s' => (v = .int .i64 (if okB (-1) l = true then 0 else 131) ∧ Frw [] s s') ∧ Fr s' := by
 refine CallsD.of fun hfr => vc.spoorref13_Check_ok ?_
 refine ⟨fun n s4 m => ∃ (k : Nat) (last : Int), n = k ∧ k ≤ l.length ∧ m = l.length - k ∧ okB (-1) l = okB last (l.drop k) ∧ ((k : Int) ≤ last + 1 ∧ last < 1920) ∧ (k = 0 → last = -1) ∧ (∀ j (h : j < l.length), j + 1 = k → l[j].1 = last) ∧ Frw [] s s4 ∧ Fr s4, ⟨_, 0, -1, rfl, by omega, rfl, rfl, by omega, fun _ => rfl, fun j _ h => by omega, .refl _ _, hfr⟩, ?_⟩
 intro n s4 m hI
 obtain ⟨k, last, hn, hk, hm, hok, hlast, h0, hj, hfw, hfr4⟩ := hI
 subst hn; subst hm
 refine ha.slen (bsel_of (fun hb => ?_) fun hb => ?_)
 ·have hb : k < l.length := by simpa using hb
  intro s7 hB
  have f7 := hfw.trans hB.fwd
  have ha7 := ha.ext f7
  have hrp : RngP l[k] := hr _ (List.getElem_mem hb)
  rw [drop_at hb] at hok
  have hj' : ∀ j (h : j < l.length), j + 1 = k + 1 → l[j].1 = l[k].1 := by
   intro j h e
   have : j = k := by omega
   subst this; rfl
  refine ha7.ixs rfl rfl hb fun b o hR => ?_
  generalize hp : l[k] = p at hR hok hrp hj'
  obtain ⟨p1, p2⟩ := p
  simp only [okB] at hok
  have bad : ¬ (last < p1 ∧ p1 < 1920 ∧ p2 ≠ 0) → (AV.int .i64 131 = .int .i64 (if okB (-1) l = true then 0 else 131) ∧ Frw [] s s7) := by
   intro h
   refine ⟨?_, f7⟩
   have : okB (-1) l = false := by
    rw [hok]
    simp only [Bool.and_eq_false_iff, decide_eq_false_iff_not, Bool.not_eq_false', beq_iff_eq]
    left
    by_cases h1 : last < p1 <;> by_cases h2 : p1 < 1920 <;> by_cases h3 : p2 = 0 <;> simp_all
   simp [this]
  have good : ∀ (h : last < p1 ∧ p1 < 1920 ∧ p2 ≠ 0), ∃ m, m < l.length - k ∧ ∃ (k' : Nat) (last : Int), IntKind.wrap .i64 ((k : Int) + 1) = (k' : Int) ∧ k' ≤ l.length ∧ m = l.length - k' ∧ okB (-1) l = okB last (l.drop k') ∧ ((k' : Int) ≤ last + 1 ∧ last < 1920) ∧ (k' = 0 → last = -1) ∧ (∀ j (h : j < l.length), j + 1 = k' → l[j].1 = last) ∧ Frw [] s s7 ∧ Fr s7 := by
   intro h
   refine ⟨l.length - (k + 1), by omega, k + 1, p1, ?_, by omega, rfl, ?_, by omega, by omega, hj', f7, hB.fr⟩
   ·rw [wrap_i64 (by omega) (by omega)]; rfl
   ·rw [hok]; simp [h]
  refine ⟨p1, hR.ld1 0 rfl, bsel_of (fun c1 => ?_) fun c1 => ?_⟩
  ·simp at c1
   exact bad (by omega)
  simp at c1
  refine ha7.ixs rfl rfl hb fun b o hR => ?_
  rw [hp] at hR
  refine ⟨p1, hR.ld1 0 rfl, bsel_of (fun c2 => ?_) fun c2 => ?_⟩
  ·simp at c2
   exact bad (by omega)
  simp at c2
  refine ha7.ixs rfl rfl hb fun b o hR => ?_
  rw [hp] at hR
  refine ⟨p2, hR.ld1 1 rfl, bsel_of (fun c3 => ?_) fun c3 => ?_⟩
  ·simp at c3
   exact bad (by omega)
  simp at c3
  refine bsel_of (fun c4 => ?_) fun c4 => ?_
  ·simp at c4
   refine ha7.ixs rfl rfl hb fun b o hR => ?_
   rw [hp] at hR
   refine ⟨p1, hR.ld1 0 rfl, ha7.ixs (k := k - 1) rfl (by rw [wrap_i64 (by omega) (by omega)]; omega) (by omega) fun b' o' hR' => ?_⟩
   have e := hj (k - 1) (by omega) (by omega)
   refine ⟨last, hR'.ld1 0 (by rw [← e]; rfl), bsel_of (fun c5 => ?_) fun c5 => ?_⟩
   ·simp at c5
    exact bad (by omega)
   ·simp at c5
    exact good (by omega)
  ·simp at c4
   have := h0 (by omega)
   exact good (by omega)
 ·have hb : k = l.length := by simp at hb; omega
  subst hb
  simp [okB] at hok
  simp [hok, hfw]
def mg : List Bar → List Bar → List Bar
 | [], b => b
 | x :: a, [] => x :: a
 | x :: a, y :: b => if x.1 < y.1 then x :: mg a (y :: b) else if y.1 < x.1 then y :: mg (x :: a) b else (x.1, sat x.2 y.2) :: mg a b
termination_by a b => a.length + b.length
theorem mg_nil (a : List Bar) : mg a [] = a := by
 cases a with
 | nil => rw [mg]
 | cons => rw [mg]
theorem cnt_below {l : List Bar} {last : Int} {i : Nat} (h1 : -1 ≤ last) (h : okB last l = true) (hi : (i : Int) ≤ last) : cnt l i = 0 := cnt_none (has_below h1 h hi)
theorem sat_z (a : Int) (h : 0 ≤ a ∧ a ≤ M64) : sat a 0 = a := by unfold sat; rw [if_pos (by omega)]; omega
theorem z_sat (a : Int) (h : 0 ≤ a ∧ a ≤ M64) : sat 0 a = a := by unfold sat; rw [if_pos (by omega)]; omega
theorem okB_cons {last : Int} {p : Bar} {r : List Bar} : okB last (p :: r) = true ↔ last < p.1 ∧ p.1 < 1920 ∧ p.2 ≠ 0 ∧ okB p.1 r = true := by
 simp [okB, and_assoc]
theorem mg_laws : ∀ (n : Nat) (a b : List Bar), a.length + b.length ≤ n → ∀ last, -1 ≤ last → okB last a = true → okB last b = true → RngB a → RngB b → okB last (mg a b) = true ∧ RngB (mg a b) ∧ ∀ i, cnt (mg a b) i = sat (cnt a i) (cnt b i)
 | _, [], b, _, _, _, _, hb, _, rb => by
  rw [mg]
  exact ⟨hb, rb, fun i => by rw [show cnt [] i = 0 from rfl, z_sat _ (cnt_rng rb i)]⟩
 | _, x :: a, [], _, _, _, ha, _, ra, _ => by
  rw [mg]
  exact ⟨ha, ra, fun i => by rw [show cnt [] i = 0 from rfl, sat_z _ (cnt_rng ra i)]⟩
 | 0, x :: a, y :: b, hn, _, _, _, _, _, _ => by simp at hn
 | n + 1, x :: a, y :: b, hn, last, hl, ha, hb, ra, rb => by
  obtain ⟨a1, a2, a3, a4⟩ := okB_cons.1 ha
  obtain ⟨b1, b2, b3, b4⟩ := okB_cons.1 hb
  have rx := ra.head.2.2
  have ry := rb.head.2.2
  have cx : ∀ i, x.1.toNat = i → (i : Int) = x.1 := fun i h => by omega
  have cy : ∀ i, y.1.toNat = i → (i : Int) = y.1 := fun i h => by omega
  simp only [List.length_cons] at hn
  rw [mg]
  split
  ·rename_i h
   have hb' : okB x.1 (y :: b) = true := okB_cons.2 ⟨h, b2, b3, b4⟩
   obtain ⟨i1, i2, i3⟩ := mg_laws n a (y :: b) (by simp only [List.length_cons]; omega) x.1 (by omega) a4 hb' ra.tail rb
   refine ⟨okB_cons.2 ⟨a1, a2, a3, i1⟩, fun p hp => ?_, fun i => ?_⟩
   ·rcases List.mem_cons.1 hp with rfl | hp
    ·exact ra.head
    ·exact i2 p hp
   ·show (if x.1.toNat = i then x.2 else cnt (mg a (y :: b)) i) = sat (if x.1.toNat = i then x.2 else cnt a i) (cnt (y :: b) i)
    split
    ·rename_i e
     rw [cnt_below (by omega) hb' (by have := cx i e; omega), sat_z _ rx]
    ·exact i3 i
  split
  ·rename_i h1 h
   have ha' : okB y.1 (x :: a) = true := okB_cons.2 ⟨h, a2, a3, a4⟩
   obtain ⟨i1, i2, i3⟩ := mg_laws n (x :: a) b (by simp only [List.length_cons]; omega) y.1 (by omega) ha' b4 ra rb.tail
   refine ⟨okB_cons.2 ⟨b1, b2, b3, i1⟩, fun p hp => ?_, fun i => ?_⟩
   ·rcases List.mem_cons.1 hp with rfl | hp
    ·exact rb.head
    ·exact i2 p hp
   ·show (if y.1.toNat = i then y.2 else cnt (mg (x :: a) b) i) = sat (cnt (x :: a) i) (if y.1.toNat = i then y.2 else cnt b i)
    split
    ·rename_i e
     rw [cnt_below (by omega) ha' (by have := cy i e; omega), z_sat _ ry]
    ·exact i3 i
  ·rename_i h1 h2
   have e : y.1 = x.1 := by omega
   rw [e] at b4
   obtain ⟨i1, i2, i3⟩ := mg_laws n a b (by omega) x.1 (by omega) a4 b4 ra.tail rb.tail
   have hs := sat_rng rx ry
   refine ⟨okB_cons.2 ⟨a1, a2, ?_, i1⟩, fun p hp => ?_, fun i => ?_⟩
   ·show sat x.2 y.2 ≠ 0
    unfold sat M64 at *
    split <;> omega
   ·rcases List.mem_cons.1 hp with rfl | hp
    ·exact ⟨ra.head.1, ra.head.2.1, hs⟩
    ·exact i2 p hp
   ·show (if x.1.toNat = i then sat x.2 y.2 else cnt (mg a b) i) = sat (if x.1.toNat = i then x.2 else cnt a i) (if y.1.toNat = i then y.2 else cnt b i)
    rw [e]
    split
    ·rfl
    ·exact i3 i
theorem mg_eq {a b : List Bar} (ha : okB (-1) a = true) (hb : okB (-1) b = true) (ra : RngB a) (rb : RngB b) : mg a b = mergeB a b := by
 obtain ⟨h1, h2, h3⟩ := mg_laws _ a b (Nat.le_refl _) (-1) (by omega) ha hb ra rb
 rw [mergeB_eq ha hb ra rb, ← barsOf_cnt h1 h2]
 exact congrArg barsOf (funext h3)
theorem plus13_pure (a b : Int) (ha : 0 ≤ a ∧ a ≤ M64) (hb : 0 ≤ b ∧ b ≤ M64) (s : St) : CallsD P F.spoorref13_plus [.int .u64 a, .int .u64 b] s fun v s' => v = .int .u64 (sat a b) ∧ s' = s := by
 refine CallsD.pure (fun s => (vc.spoorref13_plus_ok ?_).a) rfl s
 unfold sat M64 at *
 unfold vc.spoorref13_plus
 rw [show IntKind.wrap .u64 (18446744073709551615 - b) = 18446744073709551615 - b from wrap_u64 (by omega) (by omega)]
 refine bsel_of (fun c => ?_) fun c => ?_
 ·simp at c
  rw [if_neg (by omega)]
 ·simp at c
  rw [if_pos (by omega), wrap_u64 (by omega) (by omega)]
theorem wrap_u64m (a : Int) : IntKind.wrap .u64 a = a % 18446744073709551616 := by
 simp [IntKind.wrap, IntKind.bits, IntKind.signed]
theorem plusP_hi {a1 a2 b1 b2 : Int} (h : M128 < val2 (a1, a2) + val2 (b1, b2)) : plusP (a1, a2) (b1, b2) = (18446744073709551615, 18446744073709551615) := by
 unfold plusP; rw [if_neg (by omega)]; rfl
theorem plusP_lo {a1 a2 b1 b2 x y : Int} (h : val2 (a1, a2) + val2 (b1, b2) = x * 18446744073709551616 + y) (hx : 0 ≤ x ∧ x ≤ M64) (hy : 0 ≤ y ∧ y ≤ M64) : plusP (a1, a2) (b1, b2) = (x, y) := by
 unfold M64 at *
 unfold plusP; rw [if_pos (by unfold M128; omega), h]
 unfold of2
 congr 1 <;> omega
theorem Add14_pure (a b : P2) (ha : Rng2 a) (hb : Rng2 b) (s : St) : CallsD P F.spoorref14_Add [p2V a, p2V b] s fun v s' => v = p2V (plusP a b) ∧ s' = s := by
 refine CallsD.pure (fun s => (vc.spoorref14_Add_ok ?_).a) rfl s
 obtain ⟨a1, a2⟩ := a
 obtain ⟨b1, b2⟩ := b
 obtain ⟨⟨ha1, ha2⟩, ha3, ha4⟩ := ha
 obtain ⟨⟨hb1, hb2⟩, hb3, hb4⟩ := hb
 simp only [M64] at ha1 ha2 ha3 ha4 hb1 hb2 hb3 hb4
 intro m1 s2 h2 m3 s4 h4 m5 s6 h6
 have o1 := (h2.own.ext h4.fwd).ext h6.fwd
 have o3 := h4.own.ext h6.fwd
 simp only [wrap_u64m]
 have hi : M128 < val2 (a1, a2) + val2 (b1, b2) → ∃ (s13 : St), wrN s6 (.ptr m5 0) [.int .u64 18446744073709551615, .int .u64 18446744073709551615] = some s13 ∧ ∃ n14 n15 : Int, ldN s13 (.ptr m5 0) 2 = some [.int .u64 n14, .int .u64 n15] ∧ AV.agg [.int .u64 n14, .int .u64 n15] = p2V (plusP (a1, a2) (b1, b2)) := by
  intro h
  obtain ⟨s15, w1, w2, _⟩ := h6.own.wrAll [.int .u64 18446744073709551615, .int .u64 18446744073709551615] rfl rfl
  exact ⟨s15, w1, _, _, w2.all rfl, by rw [plusP_hi h]; rfl⟩
 have lo : ∀ x y : Int, val2 (a1, a2) + val2 (b1, b2) = x * 18446744073709551616 + y → (0 ≤ x ∧ x ≤ M64) → (0 ≤ y ∧ y ≤ M64) → ∃ (s13 : St), wrN s6 (.ptr m5 0) [.int .u64 x, .int .u64 y] = some s13 ∧ ∃ n14 n15 : Int, ldN s13 (.ptr m5 0) 2 = some [.int .u64 n14, .int .u64 n15] ∧ AV.agg [.int .u64 n14, .int .u64 n15] = p2V (plusP (a1, a2) (b1, b2)) := by
  intro x y h hx hy
  obtain ⟨s15, w1, w2, _⟩ := h6.own.wrAll [.int .u64 x, .int .u64 y] rfl rfl
  exact ⟨s15, w1, _, _, w2.all rfl, by rw [plusP_lo h hx hy]; rfl⟩
 unfold M64 at lo
 unfold M128 at hi
 simp only [val2] at hi lo
 refine ⟨a2, o1.ld1 1 rfl, b2, o3.ld1 1 rfl, a2, o1.ld1 1 rfl, bsel_of (fun c => ?_) fun c => ?_⟩
 ·simp only [decide_eq_true_eq] at c
  refine ⟨a1, o1.ld1 0 rfl, b1, o3.ld1 0 rfl, a1, o1.ld1 0 rfl, bsel_of (fun c1 => ?_) fun c1 => bsel_of (fun c2 => ?_) fun c2 => ?_⟩
  ·simp only [decide_eq_true_eq] at c1
   exact hi (by omega)
  ·simp only [decide_eq_true_eq, decide_eq_false_iff_not] at c1 c2
   exact hi (by omega)
  ·simp only [decide_eq_false_iff_not] at c1 c2
   exact lo _ _ (by omega) (by omega) (by omega)
 ·simp only [decide_eq_false_iff_not] at c
  refine ⟨a1, o1.ld1 0 rfl, b1, o3.ld1 0 rfl, a1, o1.ld1 0 rfl, bsel_of (fun c1 => ?_) fun c1 => bsel_of (fun c2 => ?_) fun c2 => ?_⟩
  ·simp only [decide_eq_true_eq] at c1
   exact hi (by omega)
  ·simp only [decide_eq_true_eq] at c2
   omega
  ·simp only [decide_eq_false_iff_not] at c1 c2
   exact lo _ _ (by omega) (by omega) (by omega)
theorem mg_takeA {l1 l2 : List Bar} {i j : Nat} (hi : i < l1.length) (h : j = l2.length ∨ ∃ hj : j < l2.length, l1[i].1 < l2[j].1) : mg (l1.drop i) (l2.drop j) = l1[i] :: mg (l1.drop (i + 1)) (l2.drop j) := by
 rcases h with rfl | ⟨hj, h⟩
 ·rw [drop_at hi, List.drop_length, mg_nil, mg_nil]
 ·rw [drop_at hi, drop_at hj, mg, if_pos h]
theorem mg_takeB {l1 l2 : List Bar} {i j : Nat} (hj : j < l2.length) (h : i = l1.length ∨ ∃ hi : i < l1.length, l2[j].1 < l1[i].1) : mg (l1.drop i) (l2.drop j) = l2[j] :: mg (l1.drop i) (l2.drop (j + 1)) := by
 rcases h with rfl | ⟨hi, h⟩
 ·rw [drop_at hj, List.drop_length, mg, mg]
 ·rw [drop_at hi, drop_at hj, mg, if_neg (by omega), if_pos h]
theorem mg_takeC {l1 l2 : List Bar} {i j : Nat} (hi : i < l1.length) (hj : j < l2.length) (h : l1[i].1 = l2[j].1) : mg (l1.drop i) (l2.drop j) = (l1[i].1, sat l1[i].2 l2[j].2) :: mg (l1.drop (i + 1)) (l2.drop (j + 1)) := by
 rw [drop_at hi, drop_at hj, mg, if_neg (by omega), if_neg (by omega)]
def RMI (l1 l2 : List Bar) (s : St) (x : AV) (n10 n11 : Int) (s12 : St) (m : Nat) : Prop :=
 ∃ (i j : Nat) (acc : List Bar), n10 = i ∧ n11 = j ∧ m = (l1.length - i) + (l2.length - j) ∧ i ≤ l1.length ∧ j ≤ l2.length ∧ acc.length ≤ i + j ∧ acc ++ mg (l1.drop i) (l2.drop j) = mg l1 l2 ∧ So barE s12 x acc ∧ (∀ c, c ∈ blkOf x → s.h.get c = none) ∧ Frw [] s s12 ∧ Fr s12
theorem RMI.next {l1 l2 : List Bar} {s s12 s' : St} {x : AV} {i j i' j' b : Nat} {acc : List Bar} {p : Bar} {n n' : Int} (hlen : l1.length ≤ 1920 ∧ l2.length ≤ 1920) (hacc : acc.length ≤ i + j) (hmg : acc ++ mg (l1.drop i) (l2.drop j) = mg l1 l2) (hso : So barE s12 x acc) (hnew : ∀ c, c ∈ blkOf x → s.h.get c = none) (f12 : Frw [] s s12)
  (hij : i ≤ i' ∧ j ≤ j' ∧ i' ≤ l1.length ∧ j' ≤ l2.length ∧ i + j < i' + j') (h : mg (l1.drop i) (l2.drop j) = p :: mg (l1.drop i') (l2.drop j')) (f : Frw [] s12 s') (hfr : Fr s') (ho : Own s' b [.int .i64 p.1, .int .u64 p.2]) (hn : n = i') (hn' : n' = j') :
  ∃ x' s24, appendX D s' T.sl_api_Bar T.sl_api_Bar x (.slice b 0 1 (.exact 1)) = some (x', s24) ∧ ∃ m, m < (l1.length - i) + (l2.length - j) ∧ RMI l1 l2 s x' n n' s24 m := by
 obtain ⟨x62, s63, q1, q2, q3, q4, q5, q6⟩ := So.append' (a := p) (hso.ext f) ty.sl_api_Bar rfl ty.api_Bar rfl rfl rfl rfl ho.rd rfl (show (acc.length + 1 + (acc.length + 1) / 4 + 600) * 16 ≤ pow48 by unfold pow48; omega) (by unfold pow48; omega) hfr
 refine ⟨x62, s63, q1, (l1.length - i') + (l2.length - j'), by omega, i', j', acc ++ [p], hn, hn', rfl, by omega, by omega, ?_, ?_, q2, fun c hc => ?_, (f12.trans f).step q3 hnew, q5⟩
 ·rw [List.length_append]; simp only [List.length_cons, List.length_nil]; omega
 ·rw [List.append_assoc, List.singleton_append, ← h, hmg]
 ·rw [q4] at hc
  have : c = s'.nx := by simpa using hc
  rw [this]
  exact (f12.trans f).none (hfr _ (Nat.le_refl _)) (by simp)
set_option maxRecDepth 4000 in
theorem RMerge_ok {s : St} {a1 a2 : AV} {l1 l2 : List Bar} (h1 : Sl barE s a1 l1) (h2 : Sl barE s a2 l2) (r1 : RngB l1) (r2 : RngB l2) (k1 : okB (-1) l1 = true) (k2 : okB (-1) l2 = true) :
  CallsD P F.spoorref13_Merge [a1, a2] s fun v s' => ((∃ z, v = .tuple [z, .int .i64 0] ∧ Sl barE s' z (mergeB l1 l2) ∧ Gone s z) ∧ Frw [] s s') ∧ Fr s' := by
 refine CallsD.of fun hfr => vc.spoorref13_Merge_ok ((RCheck_ok h1 r1).mono ?_)
 rintro v s2 ⟨⟨rfl, f2⟩, hfr2⟩
 refine ⟨_, rfl, bsel_of (fun c => by simp [k1] at c) fun _ => (RCheck_ok (h2.ext f2) r2).mono ?_⟩
 rintro v s5 ⟨⟨rfl, f5'⟩, hfr5⟩
 have f5 := f2.trans f5'
 refine ⟨_, rfl, bsel_of (fun c => by simp [k2] at c) fun _ => ?_⟩
 have n1 : l1.length ≤ 1920 ∧ l2.length ≤ 1920 := ⟨by have := okB_len (by omega) k1; omega, by have := okB_len (by omega) k2; omega⟩
 refine ⟨RMI l1 l2 s, ⟨_, 0, 0, [], rfl, rfl, rfl, by omega, by omega, by simp, by simp, .nil _ _, by simp [blkOf], f5, hfr5⟩, ?_⟩
 rintro x9 n10 n11 s12 m13 ⟨i, j, acc, rfl, rfl, rfl, hi, hj, hacc, hmg, hso, hnew, f12, hfr12⟩
 have a12 := h1.ext f12
 have b12 := h2.ext f12
 have wi : IntKind.wrap .i64 ((i : Int) + 1) = ((i + 1 : Nat) : Int) := by rw [wrap_i64 (by omega) (by omega)]; rfl
 have wj : IntKind.wrap .i64 ((j : Int) + 1) = ((j + 1 : Nat) : Int) := by rw [wrap_i64 (by omega) (by omega)]; rfl
 have takeA : ∀ {s' : St} (f : Frw [] s12 s') (hi' : i < l1.length) (h : j = l2.length ∨ ∃ hj : j < l2.length, l1[i].1 < l2[j].1), ixsK 2 a1 (i : Int) fun m17 m18 => ∃ (n19 : Int) (n20 : Int), ldN s' (.ptr m17 m18) 2 = some [.int .i64 n19, .int .u64 n20] ∧ ∀ (m21 : Nat) (s22 : St), NewO s' (cellsO [.int .i64 n19, .int .u64 n20]) m21 s22 → ∃ x23 s24, appendX D s22 T.sl_api_Bar T.sl_api_Bar x9 (.slice m21 0 1 (.exact 1)) = some (x23, s24) ∧ ∃ m25, m25 < (l1.length - i) + (l2.length - j) ∧ RMI l1 l2 s x23 (IntKind.wrap .i64 ((i : Int) + 1)) (j : Int) s24 m25 := by
  intro s' f hi' h
  refine (a12.ext f).ixs rfl rfl hi' fun b o hR => ⟨_, _, hR.all rfl, fun m21 s22 hN => ?_⟩
  exact RMI.next (i' := i + 1) (j' := j) (p := l1[i]) n1 hacc hmg hso hnew f12 (by omega) (mg_takeA hi' h) (f.trans hN.fwd) hN.fr hN.own wi rfl
 have takeB : ∀ {s' : St} (f : Frw [] s12 s') (hj' : j < l2.length) (h : i = l1.length ∨ ∃ hi : i < l1.length, l2[j].1 < l1[i].1), ixsK 2 a2 (j : Int) fun m17 m18 => ∃ (n19 : Int) (n20 : Int), ldN s' (.ptr m17 m18) 2 = some [.int .i64 n19, .int .u64 n20] ∧ ∀ (m21 : Nat) (s22 : St), NewO s' (cellsO [.int .i64 n19, .int .u64 n20]) m21 s22 → ∃ x23 s24, appendX D s22 T.sl_api_Bar T.sl_api_Bar x9 (.slice m21 0 1 (.exact 1)) = some (x23, s24) ∧ ∃ m25, m25 < (l1.length - i) + (l2.length - j) ∧ RMI l1 l2 s x23 (i : Int) (IntKind.wrap .i64 ((j : Int) + 1)) s24 m25 := by
  intro s' f hj' h
  refine (b12.ext f).ixs rfl rfl hj' fun b o hR => ⟨_, _, hR.all rfl, fun m21 s22 hN => ?_⟩
  exact RMI.next (i' := i) (j' := j + 1) (p := l2[j]) n1 hacc hmg hso hnew f12 (by omega) (mg_takeB hj' h) (f.trans hN.fwd) hN.fr hN.own rfl wj
 refine a12.slen (bsel_of (fun c => ?_) fun c => ?_)
 ·have hi' : i < l1.length := by simpa using c
  intro s15 hB
  have b15 := b12.ext hB.fwd
  have a15 := a12.ext hB.fwd
  refine b15.slen (bsel_of (fun c => ?_) fun c => a15.slen (bsel_of (fun _ => ?_) fun c' => by simp at c'; omega))
  ·exact takeA hB.fwd hi' (.inl (by simp at c; omega))
  have hj' : j < l2.length := by simp at c; omega
  refine a15.ixs rfl rfl hi' fun b o hRa => ⟨_, hRa.ld1 0 rfl, b15.ixs rfl rfl hj' fun b' o' hRb => ⟨_, hRb.ld1 0 rfl, bsel_of (fun c1 => ?_) fun c1 => ?_⟩⟩
  ·exact takeA hB.fwd hi' (.inr ⟨hj', by simpa using c1⟩)
  simp only [decide_eq_false_iff_not] at c1
  intro s42 hB2
  have g42 := hB.fwd.trans hB2.fwd
  have b42 := b12.ext g42
  have a42 := a12.ext g42
  refine a42.slen (bsel_of (fun c => by simp at c; omega) fun _ => ?_)
  refine b42.ixs rfl rfl hj' fun b' o' hRb => ⟨_, hRb.ld1 0 rfl, a42.ixs rfl rfl hi' fun b o hRa => ⟨_, hRa.ld1 0 rfl, bsel_of (fun c2 => ?_) fun c2 => ?_⟩⟩
  ·exact takeB g42 hj' (.inr ⟨hi', by simpa using c2⟩)
  simp only [decide_eq_false_iff_not] at c2
  intro s68 hB3
  have g68 := g42.trans hB3.fwd
  have b68 := b12.ext g68
  have a68 := a12.ext g68
  refine a68.ixs rfl rfl hi' fun b1 o1 hR1 => ⟨_, hR1.ld1 0 rfl, a68.ixs rfl rfl hi' fun b2 o2 hR2 => ⟨_, hR2.ld1 1 rfl, b68.ixs rfl rfl hj' fun b3 o3 hR3 => ⟨_, hR3.ld1 1 rfl, (plus13_pure _ _ (r1 _ (List.getElem_mem hi')).2.2 (r2 _ (List.getElem_mem hj')).2.2 s68).mono ?_⟩⟩⟩
  rintro _ s79 ⟨rfl, rfl⟩
  refine ⟨_, rfl, hR1.ld1 0 rfl, a68.noSym ?_⟩
  have hfree : s79.h.get (s42.nx + 18) = none := hB3.free
  have hlt : s42.nx + 18 < s79.nx := by have := hB3.lt; omega
  exact RMI.next (i' := i + 1) (j' := j + 1) (p := (l1[i].1, sat l1[i].2 l2[j].2)) n1 hacc hmg hso hnew f12 (by omega) (mg_takeC hi' hj' (by omega)) (g68.trans (hsetS_fwd hfree)) (hsetS_fr hB3.fr hlt) hsetS_own wi wj
 ·have hi' : i = l1.length := by simp at c; omega
  refine b12.slen (bsel_of (fun c => ?_) fun c => ?_)
  ·have hj' : j < l2.length := by simpa using c
   intro s127 hB
   have b15 := b12.ext hB.fwd
   have a15 := a12.ext hB.fwd
   refine b15.slen (bsel_of (fun c => by simp at c; omega) fun _ => a15.slen (bsel_of (fun c' => by simp at c'; omega) fun _ => ?_))
   intro s196 hB2
   have g42 := hB.fwd.trans hB2.fwd
   refine (a12.ext g42).slen (bsel_of (fun _ => ?_) fun c => by simp at c; omega)
   exact takeB g42 hj' (.inl hi')
  ·have hj' : j = l2.length := by simp at c; omega
   subst hi'; subst hj'
   refine ⟨⟨x9, rfl, ?_, hnew⟩, f12⟩
   rw [← mg_eq k1 k2 r1 r2, ← hmg, List.drop_length, List.drop_length, mg, List.append_nil]
   exact hso.sl
theorem RMerge_okG {s : St} {a1 a2 : AV} {l1 l2 : List Bar} (h1 : Sl barE s a1 l1) (h2 : Sl barE s a2 l2) (r1 : RngB l1) (r2 : RngB l2) :
  CallsD P F.spoorref13_Merge [a1, a2] s fun v s' => ((if okB (-1) l1 = true ∧ okB (-1) l2 = true then ∃ z, v = .tuple [z, .int .i64 0] ∧ Sl barE s' z (mergeB l1 l2) ∧ Gone s z else v = .tuple [.nilslice, .int .i64 131]) ∧ Frw [] s s') ∧ Fr s' := by
 by_cases c : okB (-1) l1 = true ∧ okB (-1) l2 = true
 ·refine (RMerge_ok h1 h2 r1 r2 c.1 c.2).mono fun v s' hv => ?_
  rw [if_pos c]
  exact hv
 ·suffices h : CallsD P F.spoorref13_Merge [a1, a2] s fun v s' => (v = .tuple [.nilslice, .int .i64 131] ∧ Frw [] s s') ∧ Fr s' from h.mono fun v s' hv => by rw [if_neg c]; exact hv
  refine CallsD.of fun hfr => vc.spoorref13_Merge_ok ((RCheck_ok h1 r1).mono ?_)
  rintro v s2 ⟨⟨rfl, f2⟩, hfr2⟩
  refine ⟨_, rfl, bsel_of (fun _ => ⟨rfl, f2⟩) fun c1 => (RCheck_ok (h2.ext f2) r2).mono ?_⟩
  rintro v s5 ⟨⟨rfl, f5⟩, hfr5⟩
  refine ⟨_, rfl, bsel_of (fun _ => ⟨rfl, f2.trans f5⟩) fun c2 => ?_⟩
  refine absurd ⟨?_, ?_⟩ c
  ·cases h : okB (-1) l1 with
   | true => rfl
   | false => rw [h] at c1; simp at c1
  ·cases h : okB (-1) l2 with
   | true => rfl
   | false => rw [h] at c2; simp at c2
theorem RPlus_okG {s : St} {t u : Tal} {x y : AV} (hx : Sl barE s x t.l) (hy : Sl barE s y u.l) (ht : t.Rng) (hu : u.Rng) :
  CallsD P F.spoorref14_Plus [t.V x, u.V y] s fun v s' => ((if t.ok = true ∧ u.ok = true then ∃ z, v = .tuple [(t.plus u).V z, .int .i64 0] ∧ Sl barE s' z (t.plus u).l ∧ Gone s z else v = .tuple [Tal.zero.V .nilslice, .int .i64 131]) ∧ Frw [] s s') ∧ Fr s' := by
 refine CallsD.of fun hfr => vc.spoorref14_Plus_ok ?_
 intro m1 s2 h2 m3 s4 h4 m5 s6 h6
 have f6 : Frw [] s s6 := (h2.fwd.trans h4.fwd).trans h6.fwd
 have o1 := (h2.own.ext h4.fwd).ext h6.fwd
 have o3 := h4.own.ext h6.fwd
 have o5 := h6.own
 have f5 : s.h.get m5 = none := (h2.fwd.trans h4.fwd).none h6.gone (by simp)
 refine ⟨x, o1.ld1 6 rfl, y, o3.ld1 6 rfl, (RMerge_okG (hx.ext f6) (hy.ext f6) ht.l hu.l).mono ?_⟩
 rintro v s10 ⟨⟨hv, f10⟩, hfr10⟩
 by_cases c : t.ok = true ∧ u.ok = true
 ·rw [if_pos c] at hv
  obtain ⟨z, rfl, hz, hg⟩ := hv
  refine ⟨z, 0, rfl, bsel_of (fun c => by simp at c) fun _ => ?_⟩
  intro s21 hB
  have o1 := (o1.ext f10).ext hB.fwd
  have o3 := (o3.ext f10).ext hB.fwd
  have o5 := (o5.ext f10).ext hB.fwd
  have hz := hz.ext hB.fwd
  refine ⟨_, _, o1.ldN 0 2 (by simp), _, _, o3.ldN 0 2 (by simp), (Add14_pure _ _ ht.a hu.a s21).mono ?_⟩
  rintro _ _ ⟨rfl, rfl⟩
  refine ⟨_, _, rfl, _, _, o1.ldN 2 2 (by simp), o1.ldN 2 2 (by simp), _, _, o3.ldN 2 2 (by simp), o3.ldN 2 2 (by simp), (Add14_pure _ _ ht.b hu.b _).mono ?_⟩
  rintro _ _ ⟨rfl, rfl⟩
  refine ⟨_, _, rfl, _, _, o1.ldN 4 2 (by simp), o1.ldN 4 2 (by simp), o1.ldN 4 2 (by simp), _, _, o3.ldN 4 2 (by simp), o3.ldN 4 2 (by simp), o3.ldN 4 2 (by simp), (Add14_pure _ _ ht.c hu.c _).mono ?_⟩
  rintro _ _ ⟨rfl, rfl⟩
  refine ⟨_, _, rfl, hz.one ?_⟩
  obtain ⟨s49, w1, w2, w3, w4⟩ := o5.wrAll ((t.plus u).C z) (hz.onesx []) rfl
  refine ⟨s49, w1, _, _, _, _, _, _, _, w2.all rfl, ?_, ((f6.trans f10).trans hB.fwd).step w3 (by simpa using f5)⟩
  rw [if_pos c]
  exact ⟨z, rfl, hz.wr w3 hg h6.own.there, hg.back f6⟩
 ·rw [if_neg c] at hv
  subst hv
  refine ⟨.nilslice, 131, rfl, bsel_of (fun _ => ?_) fun c => by simp at c⟩
  obtain ⟨s49, w1, w2, w3, w4⟩ := (o5.ext f10).wrAll (Tal.zero.C .nilslice) rfl rfl
  refine ⟨s49, w1, _, _, _, _, _, _, _, w2.all rfl, ?_, (f6.trans f10).step w3 (by simpa using f5)⟩
  rw [if_neg c]; rfl
theorem below_pure (a b : P2) (ha : Rng2 a) (hb : Rng2 b) (s : St) : CallsD P F.spoorref14_below [p2V a, p2V b] s fun v s' => v = .bool (!leP b a) ∧ s' = s := by
 refine CallsD.pure (fun s => (vc.spoorref14_below_ok ?_).a) rfl s
 obtain ⟨a1, a2⟩ := a
 obtain ⟨b1, b2⟩ := b
 obtain ⟨⟨ha1, ha2⟩, ha3, ha4⟩ := ha
 obtain ⟨⟨hb1, hb2⟩, hb3, hb4⟩ := hb
 simp only [M64] at ha1 ha2 ha3 ha4 hb1 hb2 hb3 hb4
 intro m1 s2 h2 m3 s4 h4
 have o1 := h2.own.ext h4.fwd
 have o3 := h4.own
 have key : ∀ {c : Bool}, (c = true ↔ a1 < b1 ∨ (a1 = b1 ∧ a2 < b2)) → AV.bool c = .bool (!leP (b1, b2) (a1, a2)) := fun {c} h => by
  congr 1
  unfold leP val2
  simp only
  rw [Bool.eq_iff_iff, h]
  simp
  omega
 refine ⟨_, o1.ld1 0 rfl, _, o3.ld1 0 rfl, bsel_of (fun c => ?_) fun c => ⟨_, o1.ld1 0 rfl, _, o3.ld1 0 rfl, bsel_of (fun c2 => ⟨_, o1.ld1 1 rfl, _, o3.ld1 1 rfl, ?_⟩) fun c2 => ?_⟩⟩
 ·have c : a1 < b1 := of_decide_eq_true c
  exact key ⟨fun _ => .inl c, fun _ => rfl⟩
 ·have c : ¬ a1 < b1 := of_decide_eq_false c
  have c2 : a1 = b1 := by simpa using c2
  exact key (by rw [decide_eq_true_iff]; omega)
 ·have c : ¬ a1 < b1 := of_decide_eq_false c
  have c2 : ¬ a1 = b1 := by simpa using c2
  exact key ⟨fun h => by simp at h, fun h => by omega⟩
theorem sub14_pure (a b : P2) (ha : Rng2 a) (hb : Rng2 b) (hle : leP b a = true) (s : St) : CallsD P F.spoorref14_sub [p2V a, p2V b] s fun v s' => v = p2V (minusP a b) ∧ s' = s := by
 refine CallsD.pure (fun s => (vc.spoorref14_sub_ok ?_).a) rfl s
 obtain ⟨a1, a2⟩ := a
 obtain ⟨b1, b2⟩ := b
 obtain ⟨⟨ha1, ha2⟩, ha3, ha4⟩ := ha
 obtain ⟨⟨hb1, hb2⟩, hb3, hb4⟩ := hb
 simp only [M64] at ha1 ha2 ha3 ha4 hb1 hb2 hb3 hb4
 have hle : b1 * 18446744073709551616 + b2 ≤ a1 * 18446744073709551616 + a2 := by
  unfold leP val2 at hle
  simpa using hle
 intro m1 s2 h2 m3 s4 h4 m5 s6 h6
 have o1 := (h2.own.ext h4.fwd).ext h6.fwd
 have o3 := h4.own.ext h6.fwd
 simp only [wrap_u64m]
 have fin : ∀ x y : Int, (a1 * 18446744073709551616 + a2) - (b1 * 18446744073709551616 + b2) = x * 18446744073709551616 + y → 0 ≤ x ∧ x < 18446744073709551616 → 0 ≤ y ∧ y < 18446744073709551616 → ∃ (s13 : St), wrN s6 (.ptr m5 0) [.int .u64 x, .int .u64 y] = some s13 ∧ ∃ n14 n15 : Int, ldN s13 (.ptr m5 0) 2 = some [.int .u64 n14, .int .u64 n15] ∧ AV.agg [.int .u64 n14, .int .u64 n15] = p2V (minusP (a1, a2) (b1, b2)) := by
  intro x y h hx hy
  obtain ⟨s15, w1, w2, _⟩ := h6.own.wrAll [.int .u64 x, .int .u64 y] rfl rfl
  refine ⟨s15, w1, _, _, w2.all rfl, ?_⟩
  have : minusP (a1, a2) (b1, b2) = (x, y) := by
   unfold minusP of2 val2
   simp only
   congr 1 <;> omega
  rw [this]; rfl
 refine ⟨_, o1.ld1 0 rfl, _, o3.ld1 0 rfl, _, o1.ld1 1 rfl, _, o3.ld1 1 rfl, bsel_of (fun c => ⟨_, o1.ld1 1 rfl, _, o3.ld1 1 rfl, ?_⟩) fun c => ⟨_, o1.ld1 1 rfl, _, o3.ld1 1 rfl, ?_⟩⟩
 ·have c : a2 < b2 := of_decide_eq_true c
  exact fin _ _ (by omega) (by omega) (by omega)
 ·have c : ¬ a2 < b2 := of_decide_eq_false c
  exact fin _ _ (by omega) (by omega) (by omega)
end
end Go.Eng.S

namespace Go.Eng.S
open Go Go.Eng Go.Proofs
set_option linter.constructorNameAsVariable false
set_option maxRecDepth 4000
noncomputable section
attribute [local irreducible] bsel mergeB
def consP (x : Bar) (l : List Bar) : List Bar := if x.2 > 0 then x :: l else l
def lsB : List Bar → List Bar → Option (List Bar)
 | [], [] => some []
 | [], _ :: _ => none
 | x :: a, [] => (lsB a []).map (consP x)
 | x :: a, y :: b => if y.1 = x.1 then (if y.2 > x.2 then none else (lsB a b).map (consP (x.1, x.2 - y.2))) else (lsB a (y :: b)).map (consP x)
theorem okB_weak {last last' : Int} {l : List Bar} (h : okB last l = true) (hl : last' ≤ last) : okB last' l = true := by
 cases l with
 | nil => rfl
 | cons p q =>
  simp only [okB, Bool.and_eq_true, decide_eq_true_eq] at h ⊢
  exact ⟨⟨⟨by omega, h.1.1.2⟩, h.1.2⟩, h.2⟩
def LsP (last : Int) (a b : List Bar) : Option (List Bar) → Prop
 | some l => okB last l = true ∧ RngB l ∧ (∀ i, cnt b i ≤ cnt a i) ∧ ∀ i, cnt l i = cnt a i - cnt b i
 | none => ∃ i, cnt a i < cnt b i
theorem lsB_law : ∀ (a b : List Bar) (last : Int), -1 ≤ last → okB last a = true → okB last b = true → RngB a → RngB b → LsP last a b (lsB a b)
 | [], [], last, _, _, _, _, _ => ⟨rfl, fun p hp => by simp at hp, fun i => Int.le_refl _, fun i => by simp [cnt]⟩
 | [], y :: b, last, _, _, hb, _, rb => by
  have hb := (okB_cons (last := last) (p := y) (r := b)).1 hb
  have ry := rb.head.2.2
  exact ⟨y.1.toNat, by simp only [cnt, if_true]; omega⟩
 | x :: a, [], last, hl, ha, _, ra, _ => by
  obtain ⟨a1, a2, a3, a4⟩ := okB_cons.1 ha
  have rx := ra.head.2.2
  have ih := lsB_law a [] x.1 (by omega) a4 rfl ra.tail (fun p hp => by simp at hp)
  rw [lsB]
  cases e : lsB a [] with
  | none =>
   rw [e] at ih
   obtain ⟨i, hi⟩ := ih
   have := cnt_rng ra.tail i
   have h0 : cnt [] i = 0 := rfl
   omega
  | some l =>
   rw [e] at ih
   obtain ⟨i1, i2, i3, i4⟩ := ih
   show LsP last (x :: a) [] (some (consP x l))
   unfold consP
   rw [if_pos (by omega)]
   refine ⟨okB_cons.2 ⟨a1, a2, a3, i1⟩, fun p hp => ?_, fun i => (cnt_rng ra i).1, fun i => ?_⟩
   ·rcases List.mem_cons.1 hp with rfl | hp
    ·exact ra.head
    ·exact i2 p hp
   ·have h0 : cnt [] i = 0 := rfl
    have := i4 i
    simp only [cnt]
    split <;> omega
 | x :: a, y :: b, last, hl, ha, hb, ra, rb => by
  obtain ⟨a1, a2, a3, a4⟩ := okB_cons.1 ha
  obtain ⟨b1, b2, b3, b4⟩ := okB_cons.1 hb
  have rx := ra.head.2.2
  have ry := rb.head.2.2
  rw [lsB]
  by_cases e : y.1 = x.1
  ·rw [if_pos e]
   have ca : cnt a x.1.toNat = 0 := cnt_below (by omega) a4 (by omega)
   have cb : cnt b x.1.toNat = 0 := cnt_below (last := y.1) (by omega) b4 (by omega)
   have xa : cnt (x :: a) x.1.toNat = x.2 := by simp [cnt]
   have yb : cnt (y :: b) x.1.toNat = y.2 := by simp [cnt, e]
   by_cases c : y.2 > x.2
   ·rw [if_pos c]
    exact ⟨x.1.toNat, by rw [xa, yb]; omega⟩
   ·rw [if_neg c]
    have ih := lsB_law a b x.1 (by omega) a4 (by rw [← e]; exact b4) ra.tail rb.tail
    cases e2 : lsB a b with
    | none =>
     rw [e2] at ih
     obtain ⟨i, hi⟩ := ih
     refine ⟨i, ?_⟩
     have hne : i ≠ x.1.toNat := fun h => by rw [h, ca, cb] at hi; omega
     have n1 : ¬ x.1.toNat = i := Ne.symm hne
     have n2 : ¬ y.1.toNat = i := by rw [e]; exact n1
     simp only [cnt, n1, n2, if_false]
     exact hi
    | some l =>
     rw [e2] at ih
     obtain ⟨i1, i2, i3, i4⟩ := ih
     have cl : cnt l x.1.toNat = 0 := by rw [i4, ca, cb]; rfl
     have hle : ∀ i, cnt (y :: b) i ≤ cnt (x :: a) i := fun i => by
      have := i3 i
      simp only [cnt, e]
      split <;> omega
     have hcn : ∀ i, cnt (consP (x.1, x.2 - y.2) l) i = cnt (x :: a) i - cnt (y :: b) i := fun i => by
      have := i4 i
      unfold consP
      simp only
      by_cases hx : x.1.toNat = i
      ·subst hx
       rw [xa, yb]
       split
       ·simp [cnt]
       ·rw [cl]; omega
      ·have n2 : ¬ y.1.toNat = i := by rw [e]; exact hx
       split
       ·simp only [cnt, hx, n2, if_false]; exact this
       ·simp only [cnt, hx, n2, if_false]; exact this
     show LsP last (x :: a) (y :: b) (some (consP (x.1, x.2 - y.2) l))
     refine ⟨?_, ?_, hle, hcn⟩
     ·unfold consP
      simp only
      split
      ·exact okB_cons.2 ⟨a1, a2, by simp only; omega, i1⟩
      ·exact okB_weak i1 (by omega)
     ·unfold consP
      simp only
      split
      ·intro p hp
       rcases List.mem_cons.1 hp with rfl | hp
       ·exact ⟨ra.head.1, ra.head.2.1, by simp only; omega, by simp only; omega⟩
       ·exact i2 p hp
      ·exact i2
  ·rw [if_neg e]
   by_cases hlt : x.1 < y.1
   ·have hb' : okB x.1 (y :: b) = true := okB_cons.2 ⟨hlt, b2, b3, b4⟩
    have cb : cnt (y :: b) x.1.toNat = 0 := cnt_below (by omega) hb' (by omega)
    have ih := lsB_law a (y :: b) x.1 (by omega) a4 hb' ra.tail rb
    cases e2 : lsB a (y :: b) with
    | none =>
     rw [e2] at ih
     obtain ⟨i, hi⟩ := ih
     refine ⟨i, ?_⟩
     have hne : ¬ x.1.toNat = i := fun h => by
      rw [← h, cb] at hi
      have := cnt_rng ra.tail x.1.toNat
      omega
     rw [show cnt (x :: a) i = cnt a i by simp only [cnt, hne, if_false]]
     exact hi
    | some l =>
     rw [e2] at ih
     obtain ⟨i1, i2, i3, i4⟩ := ih
     show LsP last (x :: a) (y :: b) (some (consP x l))
     unfold consP
     rw [if_pos (by omega)]
     refine ⟨okB_cons.2 ⟨a1, a2, a3, i1⟩, fun p hp => ?_, fun i => ?_, fun i => ?_⟩
     ·rcases List.mem_cons.1 hp with rfl | hp
      ·exact ra.head
      ·exact i2 p hp
     ·by_cases hx : x.1.toNat = i
      ·subst hx; rw [cb]; exact (cnt_rng ra _).1
      ·rw [show cnt (x :: a) i = cnt a i by simp only [cnt, hx, if_false]]; exact i3 i
     ·by_cases hx : x.1.toNat = i
      ·subst hx; rw [cb]; simp [cnt]
      ·rw [show cnt (x :: a) i = cnt a i by simp only [cnt, hx, if_false], show cnt (x :: l) i = cnt l i by simp only [cnt, hx, if_false]]; exact i4 i
   ·have ha' : okB y.1 (x :: a) = true := okB_cons.2 ⟨by omega, a2, a3, a4⟩
    have cx : cnt (x :: a) y.1.toNat = 0 := cnt_below (by omega) ha' (by omega)
    have ca : cnt a y.1.toNat = 0 := cnt_below (last := x.1) (by omega) a4 (by omega)
    have cy : cnt (y :: b) y.1.toNat = y.2 := by simp [cnt]
    have hno : LsP last (x :: a) (y :: b) none := ⟨y.1.toNat, by rw [cx, cy]; omega⟩
    have ih := lsB_law a (y :: b) last hl (okB_weak a4 (by omega)) hb ra.tail rb
    cases e2 : lsB a (y :: b) with
    | none => exact hno
    | some l =>
     rw [e2] at ih
     have := ih.2.2.1 y.1.toNat
     rw [ca, cy] at this
     omega
theorem subR_le : ∀ {b : List Bar} {r r' : RowF} {last : Int}, -1 ≤ last → okB last b = true → (∀ i, 0 ≤ r i) → subR r b = some r' → ∀ i, cnt b i ≤ r i
 | [], r, r', _, _, _, h0, _, i => by simpa [cnt] using h0 i
 | p :: q, r, r', last, hl, hb, h0, h, i => by
  obtain ⟨b1, b2, b3, b4⟩ := okB_cons.1 hb
  simp only [subR] at h
  split at h
  ·simp at h
  ·rename_i hc
   have hq : cnt q p.1.toNat = 0 := cnt_below (by omega) b4 (by omega)
   have ih := subR_le (by omega) b4 (fun i => by
    unfold upd
    split
    ·omega
    ·exact h0 i) h i
   simp only [cnt]
   split
   ·rename_i e; subst e; omega
   ·rename_i e
    simpa [upd, Ne.symm e] using ih
theorem lsB_eq {a b : List Bar} (ha : okB (-1) a = true) (hb : okB (-1) b = true) (ra : RngB a) (rb : RngB b) : lsB a b = lessB a b := by
 have law := lsB_law a b (-1) (by omega) ha hb ra rb
 have hc : ∀ i, fillR zeroR a i = cnt a i := fun i => fill_zero ha i
 unfold lessB
 cases e : lsB a b with
 | some l =>
  rw [e] at law
  obtain ⟨i1, i2, i3, i4⟩ := law
  obtain ⟨r', e1, e2⟩ := subR_eq (r := fillR zeroR a) (by omega : (-1 : Int) ≤ -1) hb (fun i => by rw [hc]; exact i3 i)
  rw [e1]
  simp only [Option.map_some]
  have : barsOf r' = barsOf (cnt l) := barsTo_congr fun i _ => by rw [e2, hc, i4]
  rw [this, barsOf_cnt i1 i2]
 | none =>
  rw [e] at law
  obtain ⟨i, hi⟩ := law
  cases e2 : subR (fillR zeroR a) b with
  | none => rfl
  | some r' =>
   have := subR_le (by omega : (-1 : Int) ≤ -1) hb (fun i => by rw [hc]; exact (cnt_rng ra i).1) e2 i
   rw [hc] at this
   omega
end
end Go.Eng.S

namespace Go.Eng.S
open Go Go.Eng Go.Proofs
set_option linter.constructorNameAsVariable false
set_option maxRecDepth 4000
noncomputable section
attribute [local irreducible] bsel barsOf mergeB lessB
def LsI (l1 l2 : List Bar) (s5 : St) (x9 : AV) (n10 n11 : Int) (s : St) (m : Nat) : Prop :=
 ∃ (k i : Nat) (out : List Bar), n10 = k ∧ n11 = i ∧ i ≤ l1.length ∧ k ≤ l2.length ∧ m = l1.length - i ∧ lsB l1 l2 = (lsB (l1.drop i) (l2.drop k)).map (out ++ ·) ∧ So barE s x9 out ∧ (∀ c, c ∈ blkOf x9 → s5.h.get c = none) ∧ Frw [] s5 s ∧ Fr s ∧ out.length ≤ i
theorem LsI.emit {l1 l2 : List Bar} {s5 s12 s' : St} {x9 : AV} {k k' i m19 : Nat} {out : List Bar} {p1 c N1 : Int} (n1 : l1.length ≤ 1920) (hi : i < l1.length) (hk' : k' ≤ l2.length) (hls : lsB l1 l2 = (lsB (l1.drop i) (l2.drop k)).map (out ++ ·)) (hso : So barE s12 x9 out) (hg : ∀ c, c ∈ blkOf x9 → s5.h.get c = none) (f12 : Frw [] s5 s12) (hol : out.length ≤ i)
  (f : Frw [] s12 s') (hfr : Fr s') (ho : Own s' m19 [.int .i64 p1, .int .u64 c]) (hN : N1 = k') (he : lsB (l1.drop i) (l2.drop k) = (lsB (l1.drop (i + 1)) (l2.drop k')).map (consP (p1, c))) :
  bsel (decide (c > 0)) (∃ (n40 n41 : Int), ldN s' (.ptr m19 0) 2 = some [.int .i64 n40, .int .u64 n41] ∧ ∀ (m42 : Nat) (s43 : St), NewO s' (cellsO [.int .i64 n40, .int .u64 n41]) m42 s43 → ∃ (x44 : AV) (s45 : St), appendX D s43 T.sl_api_Bar T.sl_api_Bar x9 (.slice m42 0 1 (.exact 1)) = some (x44, s45) ∧ ∃ (m46 : Nat), m46 < l1.length - i ∧ LsI l1 l2 s5 x44 N1 (IntKind.wrap .i64 ((i : Int) + 1)) s45 m46)
   (∃ (m47 : Nat), m47 < l1.length - i ∧ LsI l1 l2 s5 x9 N1 (IntKind.wrap .i64 ((i : Int) + 1)) s' m47) := by
 subst hN
 have wi : IntKind.wrap .i64 ((i : Int) + 1) = ((i + 1 : Nat) : Int) := by rw [wrap_i64 (by omega) (by omega)]; rfl
 rw [wi]
 refine bsel_of (fun h => ?_) fun h => ?_
 ·have h : c > 0 := of_decide_eq_true h
  refine ⟨_, _, ho.all rfl, fun m42 s43 hN => ?_⟩
  obtain ⟨x44, s45, q1, q2, q3, q4, q5, q6⟩ := So.append' (a := ((p1, c) : Bar)) (hso.ext (f.trans hN.fwd)) ty.sl_api_Bar rfl ty.api_Bar rfl rfl rfl rfl hN.own.rd rfl (show (out.length + 1 + (out.length + 1) / 4 + 600) * 16 ≤ pow48 by unfold pow48; omega) (by unfold pow48; omega) hN.fr
  have f43 := (f12.trans f).trans hN.fwd
  refine ⟨x44, s45, q1, l1.length - (i + 1), by omega, k', i + 1, out ++ [(p1, c)], rfl, rfl, by omega, hk', rfl, ?_, q2, fun c hc => ?_, f43.step q3 hg, q5, by simp; omega⟩
  ·rw [hls, he, Option.map_map]
   congr 1
   funext l
   simp [consP, h]
  ·rw [q4] at hc
   have : c = s43.nx := by simpa using hc
   rw [this]
   exact f43.none (hN.fr _ (Nat.le_refl _)) (by simp)
 ·have h : ¬ c > 0 := of_decide_eq_false h
  refine ⟨l1.length - (i + 1), by omega, k', i + 1, out, rfl, rfl, by omega, hk', rfl, ?_, hso.ext f, hg, f12.trans f, hfr, by omega⟩
  rw [hls, he, Option.map_map]
  congr 1
  funext l
  simp [consP, h]
theorem dropB {l : List Bar} {i : Nat} (h : i < l.length) : l.drop i = l[i] :: l.drop (i + 1) := List.drop_eq_getElem_cons h
set_option maxHeartbeats 1000000 in
theorem RLess_ok2 {s : St} {a1 a2 : AV} {l1 l2 : List Bar} (h1 : Sl barE s a1 l1) (h2 : Sl barE s a2 l2) (r1 : RngB l1) (r2 : RngB l2) :
  CallsD P F.spoorref13_Less [a1, a2] s fun v s' => ((if okB (-1) l1 = true ∧ okB (-1) l2 = true then (match lessB l1 l2 with | some l => ∃ x, v = .tuple [x, .int .i64 0] ∧ Sl barE s' x l ∧ Gone s x | none => v = .tuple [.nilslice, .int .i64 134]) else v = .tuple [.nilslice, .int .i64 131]) ∧ Frw [] s s') ∧ Fr s' := by
 by_cases c : okB (-1) l1 = true ∧ okB (-1) l2 = true
 rotate_left
 ·suffices h : CallsD P F.spoorref13_Less [a1, a2] s fun v s' => (v = .tuple [.nilslice, .int .i64 131] ∧ Frw [] s s') ∧ Fr s' from h.mono fun v s' hv => by rw [if_neg c]; exact hv
  refine CallsD.of fun hfr => vc.spoorref13_Less_ok ((RCheck_ok h1 r1).mono ?_)
  rintro v s2 ⟨⟨rfl, f2⟩, hfr2⟩
  refine ⟨_, rfl, bsel_of (fun _ => ⟨rfl, f2⟩) fun c1 => (RCheck_ok (h2.ext f2) r2).mono ?_⟩
  rintro v s5 ⟨⟨rfl, f5⟩, hfr5⟩
  refine ⟨_, rfl, bsel_of (fun _ => ⟨rfl, f2.trans f5⟩) fun c2 => ?_⟩
  refine absurd ⟨?_, ?_⟩ c
  ·cases h : okB (-1) l1 with
   | true => rfl
   | false => rw [h] at c1; simp at c1
  ·cases h : okB (-1) l2 with
   | true => rfl
   | false => rw [h] at c2; simp at c2
 obtain ⟨k1, k2⟩ := c
 have heq := lsB_eq k1 k2 r1 r2
 suffices h : CallsD P F.spoorref13_Less [a1, a2] s fun v s' => ((match lsB l1 l2 with | some l => ∃ x, v = .tuple [x, .int .i64 0] ∧ Sl barE s' x l ∧ Gone s x | none => v = .tuple [.nilslice, .int .i64 134]) ∧ Frw [] s s') ∧ Fr s' from h.mono fun v s' hv => by rw [if_pos ⟨k1, k2⟩, ← heq]; exact hv
 clear heq
 have n1 : l1.length ≤ 1920 := by have := okB_len (by omega) k1; omega
 have n2 : l2.length ≤ 1920 := by have := okB_len (by omega) k2; omega
 refine CallsD.of fun hfr => vc.spoorref13_Less_ok ((RCheck_ok h1 r1).mono ?_)
 rintro v s2 ⟨⟨rfl, f2⟩, hfr2⟩
 refine ⟨_, rfl, bsel_of (fun c => by simp [k1] at c) fun _ => (RCheck_ok (h2.ext f2) r2).mono ?_⟩
 rintro v s5 ⟨⟨rfl, f5'⟩, hfr5⟩
 have f5 := f2.trans f5'
 refine ⟨_, rfl, bsel_of (fun c => by simp [k2] at c) fun _ => ?_⟩
 refine ⟨LsI l1 l2 s5, ⟨_, 0, 0, [], rfl, rfl, by omega, by omega, rfl, by simp, .nil _ _, by simp [blkOf], .refl _ _, hfr5, by simp⟩, ?_⟩
 rintro x9 _ _ s12 m13 ⟨k, i, out, rfl, rfl, hi, hk, rfl, hls, hso, hg, f12, hfr12, hol⟩
 have a12 := h1.ext (f5.trans f12)
 have b12 := h2.ext (f5.trans f12)
 refine a12.slen (bsel_of (fun c => ?_) fun c => ?_)
 ·have hi' : i < l1.length := by have := of_decide_eq_true c; omega
  refine a12.ixs rfl rfl hi' fun b o hR => ?_
  have hp := r1 _ (List.getElem_mem hi')
  have hd1 := dropB hi'
  generalize l1[i] = p at hR hp hd1
  obtain ⟨p1, p2⟩ := p
  refine ⟨p1, p2, hR.all rfl, fun m19 s20 hN => ?_⟩
  obtain ⟨s21, w1, o21, f21, hfr21⟩ := hN.put [.int .i64 p1, .int .u64 p2] rfl rfl
  refine ⟨s21, w1, fun s22 hB => ?_⟩
  have f22 := f21.trans hB.fwd
  have o22 := o21.ext hB.fwd
  have b22 := b12.ext f22
  have plain : (k = l2.length ∨ ∃ hk' : k < l2.length, l2[k].1 ≠ p1) → lsB (l1.drop i) (l2.drop k) = (lsB (l1.drop (i + 1)) (l2.drop k)).map (consP (p1, p2)) := fun h => by
   rw [hd1]
   rcases h with rfl | ⟨hk', hne⟩
   ·rw [List.drop_length, lsB]
   ·rw [dropB hk', lsB, if_neg hne]
  refine b22.slen (bsel_of (fun c2 => ?_) fun c2 => ?_)
  ·have hk' : k < l2.length := by have := of_decide_eq_true c2; omega
   refine b22.ixs rfl rfl hk' fun b' o' hR' => ⟨_, hR'.ld1 0 rfl, _, o22.ld1 0 rfl, bsel_of (fun c3 => ?_) fun c3 => ?_⟩
   ·have c3 : l2[k].1 = p1 := by simpa using c3
    intro s28 hB28
    have f28 := f22.trans hB28.fwd
    have o28 := o22.ext hB28.fwd
    refine (b12.ext f28).ixs rfl rfl hk' fun b' o' hR' => ⟨_, hR'.ld1 1 rfl, _, o28.ld1 1 rfl, bsel_of (fun c4 => ?_) fun c4 => ?_⟩
    ·have c4 : l2[k].2 > p2 := of_decide_eq_true c4
     have hno : lsB l1 l2 = none := by
      rw [hls, hd1, dropB hk', lsB, if_pos c3, if_pos c4]; rfl
     refine ⟨?_, (f5.trans f12).trans f28⟩
     rw [hno]
    ·have c4 : ¬ l2[k].2 > p2 := of_decide_eq_false c4
     have hq := r2 _ (List.getElem_mem hk')
     have hp2 := hp.2.2
     have hq2 := hq.2.2
     unfold M64 at hp2 hq2
     simp only at hp2
     intro s33 hB33
     have f33 := f28.trans hB33.fwd
     have o33 := o28.ext hB33.fwd
     refine ⟨_, o33.ld1 1 rfl, (b12.ext f33).ixs rfl rfl hk' fun b' o' hR' => ⟨_, hR'.ld1 1 rfl, ?_⟩⟩
     rw [wrap_u64 (a := p2 - l2[k].2) (by omega) (by omega)]
     obtain ⟨s38, v1, v2, v3, v4, v5, v6⟩ := o33.wrN 1 [.int .u64 (p2 - l2[k].2)] rfl (by simp)
     have v2 : Own s38 m19 [.int .i64 p1, .int .u64 (p2 - l2[k].2)] := v2
     refine ⟨s38, v1, _, v2.ld1 1 rfl, ?_⟩
     refine LsI.emit (k' := k + 1) n1 hi' (by omega) hls hso hg f12 hol (f33.step v3 fun c hc => ?_) (hB33.fr.wr o33.there v4 v6) v2 (by rw [wrap_i64 (by omega) (by omega)]; rfl) ?_
     ·have : c = m19 := by simpa using hc
      rw [this]; exact hN.gone
     ·rw [hd1, dropB hk', lsB, if_pos c3, if_neg c4]
   ·have c3 : l2[k].1 ≠ p1 := by simpa using c3
    refine ⟨_, o22.ld1 1 rfl, ?_⟩
    exact LsI.emit n1 hi' hk hls hso hg f12 hol f22 hB.fr o22 rfl (plain (.inr ⟨hk', c3⟩))
  ·have hk' : k = l2.length := by have := of_decide_eq_false c2; omega
   refine ⟨_, o22.ld1 1 rfl, ?_⟩
   exact LsI.emit n1 hi' hk hls hso hg f12 hol f22 hB.fr o22 rfl (plain (.inl hk'))
 ·have hi' : i = l1.length := by have := of_decide_eq_false c; omega
  subst hi'
  rw [List.drop_length] at hls
  refine b12.slen (bsel_of (fun c2 => ?_) fun c2 => ?_)
  ·have hk' : k < l2.length := by have := of_decide_eq_true c2; omega
   have hno : lsB l1 l2 = none := by rw [hls, dropB hk']; rfl
   refine ⟨?_, f5.trans f12⟩
   rw [hno]
  ·have hk' : k = l2.length := by have := of_decide_eq_false c2; omega
   subst hk'
   have hsome : lsB l1 l2 = some out := by rw [hls, List.drop_length]; simp [lsB]
   refine ⟨?_, f5.trans f12⟩
   rw [hsome]
   exact ⟨x9, rfl, hso.sl, fun c hc => f5.none (hg c hc) (by simp)⟩
end
end Go.Eng.S

namespace Go.Eng.S
open Go Go.Eng Go.Proofs
set_option linter.constructorNameAsVariable false
set_option maxRecDepth 4000
noncomputable section
attribute [local irreducible] bsel barsOf mergeB lessB
theorem wrapN {k : Nat} (h : k < 18446744073709551616) : IntKind.wrap .u64 (k : Int) = (k : Int) := wrap_u64 (by omega) (by omega)
theorem div2 (n e : Nat) : n / 2 ^ e / 2 = n / 2 ^ (e + 1) := by rw [Nat.div_div_eq_div_mul, Nat.pow_succ]
theorem RIndex_ok (n : Nat) (hn : n < 18446744073709551616) (s : St) : CallsD P F.spoorref13_Index [.int .u64 (n : Int)] s fun v s' => v = .int .i64 (idxN n : Int) ∧ s' = s := by
 refine CallsD.pure (fun s => (vc.spoorref13_Index_ok (bsel_of (fun c => ?_) fun c => ?_)).a) rfl s
 ·have c : n < 64 := by have := of_decide_eq_true c; omega
  show AV.int .i64 (IntKind.wrap .i64 (n : Int)) = _
  rw [wrap_i64 (by omega) (by omega), idxN, if_pos c]
 ·have c : 64 ≤ n := by have := of_decide_eq_false c; omega
  have h0 : n ≠ 0 := by omega
  refine ⟨fun n3 n4 s5 m => ∃ e : Nat, n3 = e ∧ n4 = ((n / 2 ^ e : Nat) : Int) ∧ m = n / 2 ^ e ∧ 1 ≤ n / 2 ^ e, ⟨_, 0, rfl, by simp, rfl, by simp; omega⟩, ?_⟩
  rintro _ _ s5 m6 ⟨e, rfl, rfl, rfl, h1⟩
  have he : e < 64 := by
   refine Classical.byContradiction fun hc => ?_
   have : 2 ^ 64 ≤ 2 ^ e := Nat.pow_le_pow_right (by omega) (by omega)
   have : n / 2 ^ e = 0 := Nat.div_eq_of_lt (by omega)
   omega
  have hle : n / 2 ^ e ≤ n := Nat.div_le_self _ _
  refine bsel_of (fun c1 => ⟨by decide, ?_⟩) fun c1 => ?_
  ·have c1 : 1 < n / 2 ^ e := by have := of_decide_eq_true c1; omega
   have e1 : n / 2 ^ (e + 1) = n / 2 ^ e / 2 := (div2 n e).symm
   refine ⟨n / 2 ^ (e + 1), by omega, e + 1, succ_i (by omega), ?_, rfl, by omega⟩
   rw [tdiv2, wrapN (by omega), e1]
  ·have c1 : n / 2 ^ e = 1 := by have := of_decide_eq_false c1; omega
   have hk := log2_of c1
   have h2 : 2 ^ e ≤ n := by rw [← hk]; exact Nat.log2_self_le h0
   have h3 : n < 2 ^ (e + 1) := by rw [← hk]; exact Nat.lt_log2_self
   have he6 : 6 ≤ e := by
    refine Classical.byContradiction fun hc => ?_
    have : 2 ^ (e + 1) ≤ 2 ^ 6 := Nat.pow_le_pow_right (by omega) (by omega)
    omega
   have hp : 0 < 2 ^ (e - 5) := Nat.pow_pos (by omega)
   have ee : 2 ^ (e + 1) = 64 * 2 ^ (e - 5) := by
    rw [show (64 : Nat) = 2 ^ 6 from rfl, ← Nat.pow_add]; congr 1; omega
   have q1 : n / 2 ^ (e - 5) < 64 := by rw [Nat.div_lt_iff_lt_mul hp]; omega
   have w5 : IntKind.wrap .i64 ((e : Int) - 5) = ((e - 5 : Nat) : Int) := by rw [wrap_i64 (by omega) (by omega)]; omega
   have w6 : IntKind.wrap .i64 ((e : Int) - 6) = ((e - 6 : Nat) : Int) := by rw [wrap_i64 (by omega) (by omega)]; omega
   refine ⟨fun n10 n11 s m => ∃ i : Nat, n10 = ((n / 2 ^ i : Nat) : Int) ∧ n11 = i ∧ i ≤ e - 5 ∧ m = e - 5 - i, ⟨_, 0, by simp, rfl, by omega, rfl⟩, ?_⟩
   rintro _ _ s12 m13 ⟨i, rfl, rfl, hi, rfl⟩
   rw [w5, w6]
   refine bsel_of (fun c2 => ⟨by decide, ?_⟩) fun c2 => ?_
   ·have c2 : i < e - 5 := by have := of_decide_eq_true c2; omega
    have hle2 : n / 2 ^ i ≤ n := Nat.div_le_self _ _
    refine ⟨e - 5 - (i + 1), by omega, i + 1, ?_, succ_i (by omega), by omega, rfl⟩
    rw [tdiv2, wrapN (by omega), div2]
   ·have c2 : i = e - 5 := by have := of_decide_eq_false c2; omega
    subst c2
    have q2 : 32 ≤ n / 2 ^ (e - 5) := by
     rw [Nat.le_div_iff_mul_le hp]
     have : 2 ^ e = 32 * 2 ^ (e - 5) := by
      rw [show (32 : Nat) = 2 ^ 5 from rfl, ← Nat.pow_add]; congr 1; omega
     omega
    show AV.int .i64 _ = AV.int .i64 _
    congr 1
    rw [idxN, if_neg (by omega), hk]
    generalize n / 2 ^ (e - 5) = q at q1 q2
    rw [wrap_i64 (a := ((q : Nat) : Int)) (by omega) (by omega), wrap_i64 (a := 32 * ((e - 6 : Nat) : Int)) (by omega) (by omega), wrap_i64 (a := 64 + 32 * ((e - 6 : Nat) : Int)) (by omega) (by omega), wrap_i64 (a := 64 + 32 * ((e - 6 : Nat) : Int) + ((q : Nat) : Int)) (by omega) (by omega), wrap_i64 (by omega) (by omega)]
    omega
theorem One_okO {s : St} {c : CallR} (h : c.Rng) : CallsD P F.calls_One [.agg (callF c)] s fun v s' => ((∃ b, v = (oneT c).V (.slice b 0 1 (.exact 1)) ∧ Own s' b [.int .i64 (idxN c.took.toNat : Int), .int .u64 1] ∧ s.h.get b = none) ∧ Frw [] s s') ∧ Fr s' := by
 refine CallsD.of fun hfr => vc.calls_One_ok ?_
 obtain ⟨ho, e, bad, se⟩ := c
 intro m1 s2 h2 m3 s4 h4 s5 hB
 have f4 := h2.fwd.trans h4.fwd
 have f5 := f4.trans hB.fwd
 have o1 := (h2.own.ext h4.fwd).ext hB.fwd
 have o3 := h4.own.ext hB.fwd
 have hse := h.2
 simp only [M64] at hse
 obtain ⟨n, rfl⟩ := Int.eq_ofNat_of_zero_le hse.1
 refine ⟨_, o1.ld1 4 rfl, _, o1.ld1 4 rfl, (Index_ok n (by omega) s5).mono ?_⟩
 rintro _ s9 ⟨rfl, rfl⟩
 refine ⟨_, rfl, o1.ld1 4 rfl, ?_⟩
 have free8 : s9.h.get (s4.nx + 8) = none := hB.free
 have free10 : s9.h.get (s4.nx + 10) = none := hB.free
 have hlt : s9.nx = s4.nx + 12 := hB.lt
 have p1 := hsetS_fwd (o := cellsO [.int .u64 0, .int .u64 0, .int .u64 0, .int .u64 0, .int .u64 0, .int .u64 0, .nilslice]) free10
 have x1 := hsetS_own (s := s9) (b := s4.nx + 10) (cs := [.int .u64 0, .int .u64 0, .int .u64 0, .int .u64 0, .int .u64 0, .int .u64 0, .nilslice])
 have free8' : (hsetS s9 (s4.nx + 10) (cellsO [.int .u64 0, .int .u64 0, .int .u64 0, .int .u64 0, .int .u64 0, .int .u64 0, .nilslice])).h.get (s4.nx + 8) = none := by
  simp only [hsetS, PT.get_set]; rw [if_neg (by omega)]; exact free8
 have y1 := hsetS_fr (o := cellsO [.int .u64 0, .int .u64 0, .int .u64 0, .int .u64 0, .int .u64 0, .int .u64 0, .nilslice]) hB.fr (show s4.nx + 10 < s9.nx by omega)
 have hnx : (hsetS s9 (s4.nx + 10) (cellsO [.int .u64 0, .int .u64 0, .int .u64 0, .int .u64 0, .int .u64 0, .int .u64 0, .nilslice])).nx = s4.nx + 12 := hlt
 generalize hsetS s9 (s4.nx + 10) (cellsO [.int .u64 0, .int .u64 0, .int .u64 0, .int .u64 0, .int .u64 0, .int .u64 0, .nilslice]) = sA at p1 x1 free8' y1 hnx ⊢
 have p2 := hsetS_fwd (o := cellsO [.int .i64 (idxN n : Int), .int .u64 1]) free8'
 have x2 := hsetS_own (s := sA) (b := s4.nx + 8) (cs := [.int .i64 (idxN n : Int), .int .u64 1])
 generalize hsetS sA (s4.nx + 8) (cellsO [.int .i64 (idxN n : Int), .int .u64 1]) = sB at p2 x2 ⊢
 have fB : Frw [] s9 sB := p1.trans p2
 have xB := x1.ext p2
 obtain ⟨s11, w1, xC, w2, w3, w4, w5⟩ := xB.wrAll [.int .u64 0, .int .u64 1, .int .u64 0, .int .u64 0, .int .u64 0, .int .u64 (n : Int), .slice (s4.nx + 8) 0 1 (.exact 1)] rfl rfl
 have f11 : Frw [] s9 s11 := fB.step w2 (by intro c hc; have : c = s4.nx + 10 := by simpa using hc
                                            rw [this]; exact free10)
 have x2' := x2.fwd w2 (by simp)
 have sl : ∀ s', Frw [] s11 s' ∨ Frw [s4.nx + 10] s11 s' → Own s' (s4.nx + 8) [.int .i64 (idxN n : Int), .int .u64 1] := by
  rintro s' (h | h)
  ·exact x2'.ext h
  ·exact x2'.fwd h (by simp)
 have m3lt : m3 ≠ s4.nx + 10 ∧ m3 ≠ s4.nx + 8 := by
  refine ⟨?_, ?_⟩ <;> (rintro rfl; exact o3.there (by assumption))
 have fin : ∀ s', Own s' (s4.nx + 10) ((oneT ⟨ho, e, bad, n⟩).C (.slice (s4.nx + 8) 0 1 (.exact 1))) → Own s' (s4.nx + 8) [.int .i64 (idxN n : Int), .int .u64 1] → Frw [] s9 s' →
   ∃ (n14 n15 n16 n17 n18 n19 : Int) (x20 : AV), ldN s' (.ptr (s4.nx + 10) 0) 7 = some [.int .u64 n14, .int .u64 n15, .int .u64 n16, .int .u64 n17, .int .u64 n18, .int .u64 n19, x20] ∧
   ∃ (s21 : St), wrN s' (.ptr m3 0) [.int .u64 n14, .int .u64 n15, .int .u64 n16, .int .u64 n17, .int .u64 n18, .int .u64 n19, x20] = some s21 ∧
   ∃ (n22 n23 n24 n25 n26 n27 : Int) (x28 : AV), ldN s21 (.ptr m3 0) 7 = some [.int .u64 n22, .int .u64 n23, .int .u64 n24, .int .u64 n25, .int .u64 n26, .int .u64 n27, x28] ∧
   (∃ b, AV.agg [.int .u64 n22, .int .u64 n23, .int .u64 n24, .int .u64 n25, .int .u64 n26, .int .u64 n27, x28] = (oneT ⟨ho, e, bad, n⟩).V (.slice b 0 1 (.exact 1)) ∧ Own s21 b [.int .i64 (idxN n : Int), .int .u64 1] ∧ s.h.get b = none) ∧ Frw [] s s21 := by
  intro s' hx hx8 hf
  refine ⟨_, _, _, _, _, _, _, hx.all rfl, ?_⟩
  obtain ⟨s21, v1, v2, v3, v4, v5, v6⟩ := (o3.ext hf).wrAll ((oneT ⟨ho, e, bad, n⟩).C (.slice (s4.nx + 8) 0 1 (.exact 1))) rfl rfl
  refine ⟨s21, v1, _, _, _, _, _, _, _, v2.all rfl, ⟨s4.nx + 8, rfl, ?_, ?_⟩, ?_⟩
  ·exact hx8.fwd v3 (by simpa using m3lt.2.symm)
  ·exact f5.none free8 (by simp)
  ·exact (f5.trans hf).step v3 (by
    intro c hc
    have : c = m3 := by simpa using hc
    rw [this]; exact h2.fwd.none h4.gone (by simp))
 refine ⟨s11, w1, bad, (o1.ext f11).ld1 3 rfl, bsel_of (fun c => ?_) fun c => ?_⟩
 ·obtain ⟨s13, u1, u2, u3, u4, u5, u6⟩ := xC.wrN 3 [.int .u64 1] rfl (by simp)
  refine ⟨s13, u1, fin s13 ?_ (sl s13 (.inr u3)) (f11.step u3 (by
    intro c hc
    have : c = s4.nx + 10 := by simpa using hc
    rw [this]; exact free10))⟩
  subst c
  exact u2
 ·subst c
  exact fin s11 xC (sl s11 (.inl (.refl _ _))) f11
theorem ROne_okO {s : St} {c : CallR} (h : c.Rng) : CallsD P F.spoorref14_One [.agg (callF c)] s fun v s' => ((∃ b, v = (oneT c).V (.slice b 0 1 (.exact 1)) ∧ Own s' b [.int .i64 (idxN c.took.toNat : Int), .int .u64 1] ∧ s.h.get b = none) ∧ Frw [] s s') ∧ Fr s' := by
 refine CallsD.of fun hfr => vc.spoorref14_One_ok ?_
 obtain ⟨ho, e, bad, se⟩ := c
 intro m1 s2 h2 m3 s4 h4 s5 hB
 have f4 := h2.fwd.trans h4.fwd
 have f5 := f4.trans hB.fwd
 have o1 := (h2.own.ext h4.fwd).ext hB.fwd
 have o3 := h4.own.ext hB.fwd
 have hse := h.2
 simp only [M64] at hse
 obtain ⟨n, rfl⟩ := Int.eq_ofNat_of_zero_le hse.1
 refine ⟨_, o1.ld1 4 rfl, _, o1.ld1 4 rfl, (RIndex_ok n (by omega) s5).mono ?_⟩
 rintro _ s9 ⟨rfl, rfl⟩
 refine ⟨_, rfl, o1.ld1 4 rfl, ?_⟩
 have free8 : s9.h.get (s4.nx + 8) = none := hB.free
 have free10 : s9.h.get (s4.nx + 10) = none := hB.free
 have hlt : s9.nx = s4.nx + 12 := hB.lt
 have p1 := hsetS_fwd (o := cellsO [.int .u64 0, .int .u64 0, .int .u64 0, .int .u64 0, .int .u64 0, .int .u64 0, .nilslice]) free10
 have x1 := hsetS_own (s := s9) (b := s4.nx + 10) (cs := [.int .u64 0, .int .u64 0, .int .u64 0, .int .u64 0, .int .u64 0, .int .u64 0, .nilslice])
 have free8' : (hsetS s9 (s4.nx + 10) (cellsO [.int .u64 0, .int .u64 0, .int .u64 0, .int .u64 0, .int .u64 0, .int .u64 0, .nilslice])).h.get (s4.nx + 8) = none := by
  simp only [hsetS, PT.get_set]; rw [if_neg (by omega)]; exact free8
 have y1 := hsetS_fr (o := cellsO [.int .u64 0, .int .u64 0, .int .u64 0, .int .u64 0, .int .u64 0, .int .u64 0, .nilslice]) hB.fr (show s4.nx + 10 < s9.nx by omega)
 have hnx : (hsetS s9 (s4.nx + 10) (cellsO [.int .u64 0, .int .u64 0, .int .u64 0, .int .u64 0, .int .u64 0, .int .u64 0, .nilslice])).nx = s4.nx + 12 := hlt
 generalize hsetS s9 (s4.nx + 10) (cellsO [.int .u64 0, .int .u64 0, .int .u64 0, .int .u64 0, .int .u64 0, .int .u64 0, .nilslice]) = sA at p1 x1 free8' y1 hnx ⊢
 have p2 := hsetS_fwd (o := cellsO [.int .i64 (idxN n : Int), .int .u64 1]) free8'
 have x2 := hsetS_own (s := sA) (b := s4.nx + 8) (cs := [.int .i64 (idxN n : Int), .int .u64 1])
 generalize hsetS sA (s4.nx + 8) (cellsO [.int .i64 (idxN n : Int), .int .u64 1]) = sB at p2 x2 ⊢
 have fB : Frw [] s9 sB := p1.trans p2
 have xB := x1.ext p2
 obtain ⟨s11, w1, xC, w2, w3, w4, w5⟩ := xB.wrAll [.int .u64 0, .int .u64 1, .int .u64 0, .int .u64 0, .int .u64 0, .int .u64 (n : Int), .slice (s4.nx + 8) 0 1 (.exact 1)] rfl rfl
 have f11 : Frw [] s9 s11 := fB.step w2 (by intro c hc; have : c = s4.nx + 10 := by simpa using hc
                                            rw [this]; exact free10)
 have x2' := x2.fwd w2 (by simp)
 have sl : ∀ s', Frw [] s11 s' ∨ Frw [s4.nx + 10] s11 s' → Own s' (s4.nx + 8) [.int .i64 (idxN n : Int), .int .u64 1] := by
  rintro s' (h | h)
  ·exact x2'.ext h
  ·exact x2'.fwd h (by simp)
 have m3lt : m3 ≠ s4.nx + 10 ∧ m3 ≠ s4.nx + 8 := by
  refine ⟨?_, ?_⟩ <;> (rintro rfl; exact o3.there (by assumption))
 have fin : ∀ s', Own s' (s4.nx + 10) ((oneT ⟨ho, e, bad, n⟩).C (.slice (s4.nx + 8) 0 1 (.exact 1))) → Own s' (s4.nx + 8) [.int .i64 (idxN n : Int), .int .u64 1] → Frw [] s9 s' →
   ∃ (n14 n15 n16 n17 n18 n19 : Int) (x20 : AV), ldN s' (.ptr (s4.nx + 10) 0) 7 = some [.int .u64 n14, .int .u64 n15, .int .u64 n16, .int .u64 n17, .int .u64 n18, .int .u64 n19, x20] ∧
   ∃ (s21 : St), wrN s' (.ptr m3 0) [.int .u64 n14, .int .u64 n15, .int .u64 n16, .int .u64 n17, .int .u64 n18, .int .u64 n19, x20] = some s21 ∧
   ∃ (n22 n23 n24 n25 n26 n27 : Int) (x28 : AV), ldN s21 (.ptr m3 0) 7 = some [.int .u64 n22, .int .u64 n23, .int .u64 n24, .int .u64 n25, .int .u64 n26, .int .u64 n27, x28] ∧
   (∃ b, AV.agg [.int .u64 n22, .int .u64 n23, .int .u64 n24, .int .u64 n25, .int .u64 n26, .int .u64 n27, x28] = (oneT ⟨ho, e, bad, n⟩).V (.slice b 0 1 (.exact 1)) ∧ Own s21 b [.int .i64 (idxN n : Int), .int .u64 1] ∧ s.h.get b = none) ∧ Frw [] s s21 := by
  intro s' hx hx8 hf
  refine ⟨_, _, _, _, _, _, _, hx.all rfl, ?_⟩
  obtain ⟨s21, v1, v2, v3, v4, v5, v6⟩ := (o3.ext hf).wrAll ((oneT ⟨ho, e, bad, n⟩).C (.slice (s4.nx + 8) 0 1 (.exact 1))) rfl rfl
  refine ⟨s21, v1, _, _, _, _, _, _, _, v2.all rfl, ⟨s4.nx + 8, rfl, ?_, ?_⟩, ?_⟩
  ·exact hx8.fwd v3 (by simpa using m3lt.2.symm)
  ·exact f5.none free8 (by simp)
  ·exact (f5.trans hf).step v3 (by
    intro c hc
    have : c = m3 := by simpa using hc
    rw [this]; exact h2.fwd.none h4.gone (by simp))
 refine ⟨s11, w1, bad, (o1.ext f11).ld1 3 rfl, bsel_of (fun c => ?_) fun c => ?_⟩
 ·obtain ⟨s13, u1, u2, u3, u4, u5, u6⟩ := xC.wrN 3 [.int .u64 1] rfl (by simp)
  refine ⟨s13, u1, fin s13 ?_ (sl s13 (.inr u3)) (f11.step u3 (by
    intro c hc
    have : c = s4.nx + 10 := by simpa using hc
    rw [this]; exact free10))⟩
  subst c
  exact u2
 ·subst c
  exact fin s11 xC (sl s11 (.inl (.refl _ _))) f11
def capV (p : P2) : Int := if p.1 > 0 then 18446744073709551615 else p.2
theorem RCap_ok (p : P2) (s : St) : CallsD P F.spoorref14_Cap [p2V p] s fun v s' => v = .int .u64 (capV p) ∧ s' = s := by
 refine CallsD.pure (fun s => (vc.spoorref14_Cap_ok ?_).a) rfl s
 obtain ⟨a, b⟩ := p
 intro m1 s2 h2
 refine ⟨_, h2.own.ld1 0 rfl, bsel_of (fun c => ?_) fun c => ⟨_, h2.own.ld1 1 rfl, ?_⟩⟩
 ·have c : a > 0 := of_decide_eq_true c
  unfold capV; rw [if_pos c]
 ·have c : ¬ a > 0 := of_decide_eq_false c
  unfold capV; rw [if_neg c]
theorem Cap_ok (p : P2) (hp : Rng2 p) (s : St) : CallsD P F.calls_Cap [p2V p] s fun v s' => v = .int .u64 (capV p) ∧ s' = s := by
 refine CallsD.pure (fun s => (vc.calls_Cap_ok ?_).a) rfl s
 obtain ⟨a, b⟩ := p
 have h0 : 0 ≤ a := hp.1.1
 intro m1 s2 h2
 refine ⟨_, _, h2.own.all rfl, _, h2.own.ld1 1 rfl, bsel_of (fun c => ?_) fun c => ⟨_, h2.own.ld1 1 rfl, ?_⟩⟩
 ·have c : a ≠ 0 := by simpa using c
  unfold capV; rw [if_pos (show (a, b).1 > 0 by simp only; omega)]
 ·have c : a = 0 := by simpa using c
  unfold capV; rw [if_neg (show ¬ (a, b).1 > 0 by simp only; omega)]
theorem RMinus_okG {s : St} {t u : Tal} {x y : AV} (hx : Sl barE s x t.l) (hy : Sl barE s y u.l) (ht : t.Rng) (hu : u.Rng) :
  CallsD P F.spoorref14_Minus [t.V x, u.V y] s fun v s' => ((if t.ok = true ∧ u.ok = true then (match t.minus u with | some d => ∃ z, v = .tuple [d.V z, .int .i64 0] ∧ Sl barE s' z d.l ∧ Gone s z | none => v = .tuple [Tal.zero.V .nilslice, .int .i64 141]) else v = .tuple [Tal.zero.V .nilslice, .int .i64 131]) ∧ Frw [] s s') ∧ Fr s' := by
 refine CallsD.of fun hfr => vc.spoorref14_Minus_ok ?_
 intro m1 s2 h2 m3 s4 h4 m5 s6 h6
 have f6 : Frw [] s s6 := (h2.fwd.trans h4.fwd).trans h6.fwd
 have o1 := (h2.own.ext h4.fwd).ext h6.fwd
 have o3 := h4.own.ext h6.fwd
 have o5 := h6.own
 have f5 : s.h.get m5 = none := (h2.fwd.trans h4.fwd).none h6.gone (by simp)
 refine ⟨x, o1.ld1 6 rfl, (RCheck_ok (hx.ext f6) ht.l).mono ?_⟩
 rintro _ s9 ⟨⟨rfl, g9⟩, hfr9⟩
 have o1 := o1.ext g9
 have o3 := o3.ext g9
 have o5 := o5.ext g9
 have f9 := f6.trans g9
 refine ⟨_, rfl, y, o3.ld1 6 rfl, (RCheck_ok (hy.ext f9) hu.l).mono ?_⟩
 rintro _ s13 ⟨⟨rfl, g13⟩, hfr13⟩
 have o1 := o1.ext g13
 have o3 := o3.ext g13
 have o5 := o5.ext g13
 have f13 := f9.trans g13
 have badok : ¬ (t.ok = true ∧ u.ok = true) → ∃ s15, wrN s13 (.ptr m5 0) (Tal.zero.C .nilslice) = some s15 ∧ ∃ (n1 n2 n3 n4 n5 n6 : Int) (x1 : AV), ldN s15 (.ptr m5 0) 7 = some [.int .u64 n1, .int .u64 n2, .int .u64 n3, .int .u64 n4, .int .u64 n5, .int .u64 n6, x1] ∧
   ((if t.ok = true ∧ u.ok = true then (match t.minus u with | some d => ∃ z, AV.tuple [.agg [.int .u64 n1, .int .u64 n2, .int .u64 n3, .int .u64 n4, .int .u64 n5, .int .u64 n6, x1], .int .i64 131] = .tuple [d.V z, .int .i64 0] ∧ Sl barE s15 z d.l ∧ Gone s z | none => AV.tuple [.agg [.int .u64 n1, .int .u64 n2, .int .u64 n3, .int .u64 n4, .int .u64 n5, .int .u64 n6, x1], .int .i64 131] = .tuple [Tal.zero.V .nilslice, .int .i64 141]) else AV.tuple [.agg [.int .u64 n1, .int .u64 n2, .int .u64 n3, .int .u64 n4, .int .u64 n5, .int .u64 n6, x1], .int .i64 131] = .tuple [Tal.zero.V .nilslice, .int .i64 131]) ∧ Frw [] s s15) := fun hno => by
  obtain ⟨s15, w1, w2, w3, w4⟩ := o5.wrAll (Tal.zero.C .nilslice) rfl rfl
  refine ⟨s15, w1, _, _, _, _, _, _, _, w2.all rfl, ?_, f13.step w3 (by simpa using f5)⟩
  rw [if_neg hno]; rfl
 refine ⟨_, rfl, bsel_of (fun c => ?_) fun c => bsel_of (fun c2 => ?_) fun c2 => ?_⟩
 ·refine badok fun h => ?_
  rw [if_pos h.1] at c; simp at c
 ·refine badok fun h => ?_
  rw [if_pos h.2] at c2; simp at c2
 have ct : t.ok = true := by
  cases h : okB (-1) t.l with
  | true => exact h
  | false => rw [h] at c; simp at c
 have cu : u.ok = true := by
  cases h : okB (-1) u.l with
  | true => exact h
  | false => rw [h] at c2; simp at c2
 refine ⟨x, o1.ld1 6 rfl, y, o3.ld1 6 rfl, (RLess_ok2 (hx.ext f13) (hy.ext f13) ht.l hu.l).mono ?_⟩
 rintro v s34 ⟨⟨hv, g34⟩, hfr34⟩
 rw [if_pos ⟨ct, cu⟩] at hv
 have o1 := o1.ext g34
 have o3 := o3.ext g34
 have o5 := o5.ext g34
 have f34 := f13.trans g34
 have hv' : ∃ z n, v = .tuple [z, .int .i64 n] ∧ ((n = 0 ∧ ∃ l, lessB t.l u.l = some l ∧ Sl barE s34 z l ∧ Gone s13 z) ∨ (n ≠ 0 ∧ lessB t.l u.l = none)) := by
  cases h : lessB t.l u.l with
  | none => rw [h] at hv; exact ⟨_, _, hv, .inr ⟨by omega, rfl⟩⟩
  | some l => rw [h] at hv; obtain ⟨z, e, q⟩ := hv; exact ⟨z, 0, e, .inl ⟨rfl, l, rfl, q⟩⟩
 obtain ⟨z, n, rfl, hn⟩ := hv'
 refine ⟨z, n, rfl, _, _, o1.ldN 0 2 (by simp), _, _, o3.ldN 0 2 (by simp), (below_pure _ _ ht.a hu.a s34).mono ?_⟩
 rintro _ _ ⟨rfl, rfl⟩
 refine ⟨_, rfl, _, _, o1.ldN 2 2 (by simp), _, _, o3.ldN 2 2 (by simp), (below_pure _ _ ht.b hu.b _).mono ?_⟩
 rintro _ _ ⟨rfl, rfl⟩
 refine ⟨_, rfl, _, _, o1.ldN 4 2 (by simp), _, _, o3.ldN 4 2 (by simp), (below_pure _ _ ht.c hu.c _).mono ?_⟩
 rintro _ s56 ⟨rfl, rfl⟩
 refine ⟨_, rfl, ?_⟩
 have fail : t.minus u = none → ∃ s73, wrN s56 (.ptr m5 0) (Tal.zero.C .nilslice) = some s73 ∧ ∃ (n1 n2 n3 n4 n5 n6 : Int) (x1 : AV), ldN s73 (.ptr m5 0) 7 = some [.int .u64 n1, .int .u64 n2, .int .u64 n3, .int .u64 n4, .int .u64 n5, .int .u64 n6, x1] ∧
   ((if t.ok = true ∧ u.ok = true then (match t.minus u with | some d => ∃ z, AV.tuple [.agg [.int .u64 n1, .int .u64 n2, .int .u64 n3, .int .u64 n4, .int .u64 n5, .int .u64 n6, x1], .int .i64 141] = .tuple [d.V z, .int .i64 0] ∧ Sl barE s73 z d.l ∧ Gone s z | none => AV.tuple [.agg [.int .u64 n1, .int .u64 n2, .int .u64 n3, .int .u64 n4, .int .u64 n5, .int .u64 n6, x1], .int .i64 141] = .tuple [Tal.zero.V .nilslice, .int .i64 141]) else AV.tuple [.agg [.int .u64 n1, .int .u64 n2, .int .u64 n3, .int .u64 n4, .int .u64 n5, .int .u64 n6, x1], .int .i64 141] = .tuple [Tal.zero.V .nilslice, .int .i64 131]) ∧ Frw [] s s73) := fun hn => by
  obtain ⟨s73, w1, w2, w3, w4⟩ := o5.wrAll (Tal.zero.C .nilslice) rfl rfl
  refine ⟨s73, w1, _, _, _, _, _, _, _, w2.all rfl, ?_, f34.step w3 (by simpa using f5)⟩
  rw [if_pos ⟨ct, cu⟩, hn]; rfl
 refine bsel_of (fun c => ?_) fun cn => bsel_of (fun c => ?_) fun ca => bsel_of (fun c => ?_) fun cb => bsel_of (fun c => ?_) fun cc => ?_
 ·have : lessB t.l u.l = none := by
   rcases hn with ⟨rfl, _⟩ | ⟨_, h⟩
   ·simp at c
   ·exact h
  exact fail (by unfold Tal.minus; rw [this]; simp)
 ·exact fail (by unfold Tal.minus; rw [if_neg (by simp at c; simp [c])])
 ·exact fail (by unfold Tal.minus; rw [if_neg (by simp at c; simp [c])])
 ·exact fail (by unfold Tal.minus; rw [if_neg (by simp at c; simp [c])])
 ·have hn : ∃ l, lessB t.l u.l = some l ∧ Sl barE s56 z l ∧ Gone s13 z := by
   rcases hn with ⟨_, h⟩ | ⟨h, _⟩
   ·exact h
   ·simp [h] at cn
  obtain ⟨l, hl, hz, hg⟩ := hn
  have ca : leP u.a t.a = true := by simpa using ca
  have cb : leP u.b t.b = true := by simpa using cb
  have cc : leP u.c t.c = true := by simpa using cc
  have hm : t.minus u = some ⟨minusP t.a u.a, minusP t.b u.b, minusP t.c u.c, l⟩ := by unfold Tal.minus; rw [if_pos ⟨ca, cb, cc⟩, hl]; rfl
  intro s90 hB
  have o1 := o1.ext hB.fwd
  have o3 := o3.ext hB.fwd
  have o5 := o5.ext hB.fwd
  have hz := hz.ext hB.fwd
  refine ⟨_, _, o1.ldN 0 2 (by simp), _, _, o3.ldN 0 2 (by simp), (sub14_pure _ _ ht.a hu.a ca s90).mono ?_⟩
  rintro _ _ ⟨rfl, rfl⟩
  refine ⟨_, _, rfl, _, _, o1.ldN 2 2 (by simp), o1.ldN 2 2 (by simp), _, _, o3.ldN 2 2 (by simp), o3.ldN 2 2 (by simp), (sub14_pure _ _ ht.b hu.b cb _).mono ?_⟩
  rintro _ _ ⟨rfl, rfl⟩
  refine ⟨_, _, rfl, _, _, o1.ldN 4 2 (by simp), o1.ldN 4 2 (by simp), o1.ldN 4 2 (by simp), _, _, o3.ldN 4 2 (by simp), o3.ldN 4 2 (by simp), o3.ldN 4 2 (by simp), (sub14_pure _ _ ht.c hu.c cc _).mono ?_⟩
  rintro _ _ ⟨rfl, rfl⟩
  refine ⟨_, _, rfl, hz.one ?_⟩
  obtain ⟨s111, w1, w2, w3, w4⟩ := o5.wrAll ((⟨minusP t.a u.a, minusP t.b u.b, minusP t.c u.c, l⟩ : Tal).C z) (hz.onesx []) rfl
  refine ⟨s111, w1, _, _, _, _, _, _, _, w2.all rfl, ?_, (f34.trans hB.fwd).step w3 (by simpa using f5)⟩
  rw [if_pos ⟨ct, cu⟩, hm]
  exact ⟨z, rfl, hz.wr w3 hg ((h6.own.ext g9).ext g13).there, hg.back f13⟩
end
end Go.Eng.S

namespace Go.Eng.S
open Go Go.Eng Go.Proofs
set_option linter.constructorNameAsVariable false
set_option maxRecDepth 4000
noncomputable section
attribute [local irreducible] bsel barsOf mergeB lessB
def plusU (t u : Tal) : Tal × Int := if t.ok = true ∧ u.ok = true then (t.plus u, 0) else (.zero, 131)
def minusU (t u : Tal) : Tal × Int := if t.ok = true ∧ u.ok = true then (match t.minus u with | some d => (d, 0) | none => (.zero, 141)) else (.zero, 131)
theorem goneNil {s : St} : ∀ c, c ∈ blkOf AV.nilslice → s.h.get c = none := fun c hc => (List.not_mem_nil (show c ∈ ([] : List Nat) from hc)).elim
theorem soNnil (s : St) : SoN barE s .nilslice [] := ⟨.nil _ _, fun _ => rfl⟩
theorem Plus_okU {s : St} {t u : Tal} {x y : AV} (hx : Sl barE s x t.l) (hy : Sl barE s y u.l) (ht : t.Rng) (hu : u.Rng) :
  CallsA P F.calls_Plus [t.V x, u.V y] s fun v s' => ((∃ z, v = .tuple [(plusU t u).1.V z, .int .i64 (plusU t u).2] ∧ SoN barE s' z (plusU t u).1.l ∧ ∀ c, c ∈ blkOf z → s.h.get c = none) ∧ Frw [] s s') ∧ Fr s' := by
 refine (Plus_okS hx hy ht hu).a.mono ?_
 rintro v s' ⟨⟨hv, h2⟩, h3⟩
 refine ⟨⟨?_, h2⟩, h3⟩
 unfold plusU
 split at hv
 ·rename_i c
  rw [if_pos c]
  exact hv
 ·rename_i c
  rw [if_neg c]
  exact ⟨.nilslice, hv, soNnil _, goneNil⟩
theorem Minus_okU {s : St} {t u : Tal} {x y : AV} (hx : Sl barE s x t.l) (hy : Sl barE s y u.l) (ht : t.Rng) (hu : u.Rng) :
  CallsA P F.calls_Minus [t.V x, u.V y] s fun v s' => ((∃ z, v = .tuple [(minusU t u).1.V z, .int .i64 (minusU t u).2] ∧ SoN barE s' z (minusU t u).1.l ∧ ∀ c, c ∈ blkOf z → s.h.get c = none) ∧ Frw [] s s') ∧ Fr s' := by
 refine (Minus_okS hx hy ht hu).a.mono ?_
 rintro v s' ⟨⟨hv, h2⟩, h3⟩
 refine ⟨⟨?_, h2⟩, h3⟩
 unfold minusU
 split at hv
 ·rename_i c
  rw [if_pos c]
  cases e : t.minus u with
  | some d => rw [e] at hv; exact hv
  | none => rw [e] at hv; exact ⟨.nilslice, hv, soNnil _, goneNil⟩
 ·rename_i c
  rw [if_neg c]
  exact ⟨.nilslice, hv, soNnil _, goneNil⟩
theorem RPlus_okU {s : St} {t u : Tal} {x y : AV} (hx : Sl barE s x t.l) (hy : Sl barE s y u.l) (ht : t.Rng) (hu : u.Rng) :
  CallsA P F.spoorref14_Plus [t.V x, u.V y] s fun v s' => ((∃ z, v = .tuple [(plusU t u).1.V z, .int .i64 (plusU t u).2] ∧ Sl barE s' z (plusU t u).1.l) ∧ Frw [] s s') ∧ Fr s' := by
 refine (RPlus_okG hx hy ht hu).a.mono ?_
 rintro v s' ⟨⟨hv, h2⟩, h3⟩
 refine ⟨⟨?_, h2⟩, h3⟩
 unfold plusU
 split at hv
 ·rename_i c
  rw [if_pos c]
  obtain ⟨z, h1, h2, _⟩ := hv
  exact ⟨z, h1, h2⟩
 ·rename_i c
  rw [if_neg c]
  exact ⟨.nilslice, hv, .nil _ _⟩
theorem RMinus_okU {s : St} {t u : Tal} {x y : AV} (hx : Sl barE s x t.l) (hy : Sl barE s y u.l) (ht : t.Rng) (hu : u.Rng) :
  CallsA P F.spoorref14_Minus [t.V x, u.V y] s fun v s' => ((∃ z, v = .tuple [(minusU t u).1.V z, .int .i64 (minusU t u).2] ∧ Sl barE s' z (minusU t u).1.l) ∧ Frw [] s s') ∧ Fr s' := by
 refine (RMinus_okG hx hy ht hu).a.mono ?_
 rintro v s' ⟨⟨hv, h2⟩, h3⟩
 refine ⟨⟨?_, h2⟩, h3⟩
 unfold minusU
 split at hv
 ·rename_i c
  rw [if_pos c]
  cases e : t.minus u with
  | some d => rw [e] at hv; obtain ⟨z, h1, h2, _⟩ := hv; exact ⟨z, h1, h2⟩
  | none => rw [e] at hv; exact ⟨.nilslice, hv, .nil _ _⟩
 ·rename_i c
  rw [if_neg c]
  exact ⟨.nilslice, hv, .nil _ _⟩
theorem plusU_len {t u : Tal} (ht : t.Rng) (hu : u.Rng) : (plusU t u).1.l.length ≤ 1920 := by
 unfold plusU
 split
 ·have : okB (-1) (mergeB t.l u.l) = true := mergeB_ok
  have := okB_len (by omega) this
  show (mergeB t.l u.l).length ≤ 1920
  omega
 ·exact Nat.zero_le _
theorem minusU_len {t u : Tal} (ht : t.Rng) (hu : u.Rng) : (minusU t u).1.l.length ≤ 1920 := by
 unfold minusU
 split
 ·rename_i c
  cases e : t.minus u with
  | none => exact Nat.zero_le _
  | some d =>
   unfold Tal.minus at e
   split at e
   ·cases e2 : lessB t.l u.l with
    | none => rw [e2] at e; simp at e
    | some l =>
     rw [e2] at e
     simp only [Option.map_some, Option.some.injEq] at e
     subst e
     have law := lsB_law t.l u.l (-1) (by omega) c.1 c.2 ht.l hu.l
     rw [lsB_eq c.1 c.2 ht.l hu.l, e2] at law
     have := okB_len (by omega) law.1
     show l.length ≤ 1920
     omega
   ·simp at e
 ·exact Nat.zero_le _
def BarO (s : St) (x : AV) (l : List Bar) : Prop := So barE s x l ∨ ∃ b, x = .slice b 0 l.length (.exact l.length) ∧ Own s b (l.flatMap barE.f)
theorem BarO.sl {s : St} {x : AV} {l : List Bar} (h : BarO s x l) : Sl barE s x l := by
 rcases h with h | ⟨b, rfl, h⟩
 ·exact h.sl
 ·exact .inr ⟨b, 0, _, _, rfl, barE.flat_len l, h.rd⟩
theorem BarO.there {s : St} {x : AV} {l : List Bar} (h : BarO s x l) : ∀ c, c ∈ blkOf x → s.h.get c ≠ none := by
 rcases h with h | ⟨b, rfl, h⟩
 ·rcases h with ⟨rfl, _⟩ | ⟨b, k, n, c, rfl, _, h2, _⟩
  ·intro c hc; exact (List.not_mem_nil (show c ∈ ([] : List Nat) from hc)).elim
  ·intro d hd
   have : d = b := by simpa [blkOf] using hd
   rw [this, h2]; simp
 ·intro d hd
  have : d = b := by simpa [blkOf] using hd
  rw [this]; exact h.there
theorem BarO.beside {s s' : St} {x : AV} {l : List Bar} {M : List Nat} (h : BarO s x l) (hf : Frw M s s') (hM : ∀ c, c ∈ M → c ∉ blkOf x) : BarO s' x l := by
 rcases h with h | ⟨b, rfl, h⟩
 ·exact .inl (h.beside hf hM)
 ·exact .inr ⟨b, rfl, h.fwd hf fun hb => hM b hb (by simp [blkOf])⟩
theorem BarO.mkP {s : St} {x : AV} {l : List Bar} (h : BarO s x l) (a : Bar) : MkP barE s x l.length 0 a := by
 rcases h with h | ⟨b, rfl, h⟩
 ·exact h.mkP a
 ·exact h.mkP (barE.flat_len l) a
structure OutB (s0 s : St) (L : List (AV × List Bar)) : Prop where
 so : ∀ p, p ∈ L → BarO s p.1 p.2
 ap : L.Pairwise fun p q => ∀ c, c ∈ blkOf p.1 → c ∉ blkOf q.1
 old : ∀ p, p ∈ L → ∀ c, c ∈ blkOf p.1 → s0.h.get c = none
theorem OutB.fwd {s0 s s' : St} {L : List (AV × List Bar)} {M : List Nat} (h : OutB s0 s L) (hf : Frw M s s') (hM : ∀ c, c ∈ M → s0.h.get c ≠ none) : OutB s0 s' L :=
 ⟨fun p hp => (h.so p hp).beside hf fun c hc hb => hM c hc (h.old p hp c hb), h.ap, h.old⟩
theorem OutB.ext {s0 s s' : St} {L : List (AV × List Bar)} (h : OutB s0 s L) (hf : Frw [] s s') : OutB s0 s' L := h.fwd hf (by simp)
theorem OutB.add {s0 s s' : St} {L : List (AV × List Bar)} {g : AV} {G : List Bar} (h : OutB s0 s L) (h0 : ∀ d, s.h.get d = none → s0.h.get d = none) (hf : Frw [] s s') (hg : BarO s' g G) (hn : ∀ d, d ∈ blkOf g → s.h.get d = none) : OutB s0 s' (L ++ [(g, G)]) := by
 refine ⟨fun p hp => ?_, List.pairwise_append.2 ⟨h.ap, by simp, fun p hp q hq d hd hd' => ?_⟩, fun p hp d hd => ?_⟩
 ·rcases List.mem_append.1 hp with hp | hp
  ·exact (h.so p hp).beside hf (by simp)
  ·simp only [List.mem_cons, List.not_mem_nil, or_false] at hp
   subst hp
   exact hg
 ·have h1 := (h.so p hp).there d hd
  simp only [List.mem_cons, List.not_mem_nil, or_false] at hq
  subst hq
  exact h1 (hn d hd')
 ·rcases List.mem_append.1 hp with hp | hp
  ·exact h.old p hp d hd
  ·simp only [List.mem_cons, List.not_mem_nil, or_false] at hp
   subst hp
   exact h0 d (hn d hd)
theorem OutB.own {s0 s s1 : St} {L : List (AV × List Bar)} {m k : Nat} (h : OutB s0 s L) (hN : NewO s (cellsO (L.map (·.1))) m s1) (hk : k = L.length) (hL : ∀ p, p ∈ L → p.2.length ≤ 1920) (hs : L.length ≤ 100000) :
  CallsA P F.spoorlaw14_ownBars [.slice m 0 k (.exact k)] s1 fun v _ => v = .bool true := by
 subst hk
 have hget : ∀ {j : Nat} {x : AV}, (L.map (·.1))[j]? = some x → ∃ p, L[j]? = some p ∧ p.1 = x := fun {j x} hx => by
  rw [List.getElem?_map] at hx
  obtain ⟨p, h1, h2⟩ := Option.map_eq_some_iff.1 hx
  exact ⟨p, h1, h2⟩
 have hso : ∀ {j : Nat} {p : AV × List Bar}, L[j]? = some p → BarO s1 p.1 p.2 := fun hp => (h.so _ (List.mem_of_getElem? hp)).beside hN.fwd (by simp)
 refine ownBars_ok (L := L.map (·.1)) (ns := fun j => ((L[j]?).map (·.2.length)).getD 0) (N := 2000) (.inr ⟨m, 0, _, _, rfl, by rw [avE_flat, List.length_map]; exact (Nat.mul_one _).symm, by rw [avE_flat]; exact hN.own.rd⟩) (fun j x hx => ?_) (fun i j x y hx hy hij c hc hd => ?_) (fun i x hx c hc hd => ?_) (fun j => ?_) (by decide) (by rw [List.length_map]; exact hs)
 ·obtain ⟨p, h1, rfl⟩ := hget hx
  simp only [h1, Option.map_some, Option.getD_some]
  exact (hso h1).mkP _
 ·obtain ⟨p, h1, rfl⟩ := hget hx
  obtain ⟨q, h2, rfl⟩ := hget hy
  obtain ⟨i1, e1⟩ := List.getElem?_eq_some_iff.1 h1
  obtain ⟨j1, e2⟩ := List.getElem?_eq_some_iff.1 h2
  have hp := List.pairwise_iff_getElem.1 h.ap
  rcases Nat.lt_or_ge i j with hlt | hge
  ·have := hp i j i1 j1 hlt
   rw [e1, e2] at this
   exact this c hc hd
  ·have := hp j i j1 i1 (by omega)
   rw [e1, e2] at this
   exact this c hd hc
 ·obtain ⟨p, h1, rfl⟩ := hget hx
  have := (h.so _ (List.mem_of_getElem? h1)).there c hc
  have e : c = m := by simpa [blkOf] using hd
  rw [e] at this
  exact this hN.gone
 ·cases e : L[j]? with
  | none => simp
  | some p =>
   have := hL p (List.mem_of_getElem? e)
   simp only [Option.map_some, Option.getD_some]
   omega
end
end Go.Eng.S

