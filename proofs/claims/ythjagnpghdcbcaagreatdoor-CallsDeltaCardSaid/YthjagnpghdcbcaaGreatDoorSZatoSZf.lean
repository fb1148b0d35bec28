/-
  Types of lists of lists; lists that came out are their owner's.
  Lists that are lent, and stay; the document's order of calls, its sort, its 'Delta'.
  The document's sort of calls, its 'Delta'.
  The document's 'Delta'; the program's, as one thing.
  'CallsDelta': the walk over states.
  'CallsDelta': the walk.
-/
import Derived.Test.YthjagnpghdcbcaaGreatDoorSYatoSYk
import Derived.Test.YthjagnpghdcbcaaGreatDoorSVltoSVn
import Derived.Test.YthjagnpghdcbcaaGreatDoorW28to31
import Derived.Test.YthjagnpghdcbcaaGreatDoorSPe
namespace Go.Eng.S
open Go Go.Eng Go.Proofs
set_option linter.constructorNameAsVariable false
set_option maxRecDepth 4000
noncomputable section
attribute [local irreducible] bsel
theorem ty.sl_sl_api_Call : D.ty.get T.sl_sl_api_Call = some { d := .slice 48, size := 1, bytes := 24, zero := (some .nilslice), held := false } := by kernel_rfl
theorem wrap7 {i : Nat} (h : i ≤ 1000000) : IntKind.wrap .u64 (IntKind.wrap .i64 (7000 + (i : Int))) = 7000 + (i : Int) := by
 rw [wrap_i64 (by omega) (by omega), wrap_u64 (by omega) (by omega)]
def mkC (i : Nat) : CallR := ⟨0, (ByteArray.empty, ByteArray.empty), false, 7000 + (i : Int)⟩
set_option maxHeartbeats 1000000 in
theorem ownCalls_ok {s : St} {a0 : AV} {L : List AV} {ns : Nat → Nat} {N : Nat} (ha : Sl avE s a0 L) (hl : ∀ (j : Nat) (x : AV), L[j]? = some x → MkP callE s x (ns j) 0 (mkC j))
  (hd : ∀ (i j : Nat) (x y : AV), L[i]? = some x → L[j]? = some y → i ≠ j → ∀ c, c ∈ blkOf x → c ∉ blkOf y) (hda : ∀ (i : Nat) (x : AV), L[i]? = some x → ∀ c, c ∈ blkOf x → c ∉ blkOf a0)
  (hn : ∀ j, ns j + 80 ≤ N) (hN : (N + 1 + (N + 1) / 4 + 600) * 56 ≤ pow48) (hk : L.length ≤ 100000) :
  CallsA P F.spoorlaw14_ownCalls [a0] s fun v _ => v = .bool true := by
 refine CallsA.fr fun hfr => vc.spoorlaw14_ownCalls_ok ?_
 have hN4 : N + 1 ≤ pow48 := by unfold pow48 at hN ⊢; omega
 have hNb : N < 4611686018427387904 := by unfold pow48 at hN; omega
 refine ⟨fun n s1 k => ∃ i : Nat, n = i ∧ i ≤ L.length ∧ k = L.length - i ∧ Own1 callE mkC ns (fun j => if j < i then ns j else 0) s.nx a0 L s1, ⟨_, 0, rfl, by omega, rfl, hfr, Nat.le_refl _, ha, fun c hc => hfr.lt (by
  rcases ha with ⟨h1, _⟩ | ⟨b, o, n, cap, rfl, h1, h2⟩
  ·cases a0 <;> simp [slZero, blkOf] at h1 hc
  ·have : c = b := by simpa [blkOf] using hc
   rw [this]; exact h2.there), fun j x hx => by simpa using hl j x hx, hd, hda⟩, ?_⟩
 rintro _ s4 m5 ⟨i, rfl, hi, hm5, H⟩
 refine H.a.slen (bsel_of (fun c => ?_) fun c => ?_)
 ·-- one list is marked
  have c : i < L.length := by simpa using c
  have hxi : L[i]? = some L[i] := List.getElem?_eq_getElem c
  refine ⟨fun n s1 k => ∃ q : Nat, n = q ∧ q ≤ ns i ∧ k = ns i - q ∧ Own1 callE mkC ns (fun j => if j = i then q else if j < i then ns j else 0) s.nx a0 L s1, ⟨_, 0, rfl, by omega, rfl, ?_⟩, ?_⟩
  ·have e : (fun j => if j = i then 0 else if j < i then ns j else 0) = fun j => if j < i then ns j else 0 := by
    funext j
    split
    ·rename_i h; rw [if_neg (by omega)]
    ·rfl
   rw [e]; exact H
  ·rintro _ s10 m11 ⟨q, rfl, hq, hm11, H1⟩
   have hM := H1.l i _ hxi
   simp only [if_true] at hM
   refine H1.a.ixs rfl rfl c fun b o hR => ⟨L[i], hR.ld1 0 rfl, ?_⟩
   unfold slenK
   rw [hM.len]
   refine bsel_of (fun c2 => ?_) fun c2 => ?_
   ·have c2 : q < ns i := by simpa using c2
    refine H1.a.ixs rfl rfl c fun b o hR => ⟨L[i], hR.ld1 0 rfl, ?_⟩
    refine hM.put rfl rfl c2 (vs := [.int .i64 0, .str ByteArray.empty, .str ByteArray.empty, .bool false, .int .u64 (IntKind.wrap .u64 (IntKind.wrap .i64 (7000 + (i : Int))))]) rfl (by rw [wrap7 (by omega)]; rfl) fun b o s' e1 e2 e3 e4 e5 e6 => ?_
    have H2 := H1.wr hxi e1 e3 e4 e5 e6
    have := hn i
    refine ⟨s', e2, ns i - (q + 1), by omega, q + 1, by rw [wrap_i64 (by omega) (by omega)]; simp, by omega, rfl, ?_⟩
    have e : (fun j => if j = i then q + 1 else if j = i then q else if j < i then ns j else 0) = fun j => if j = i then q + 1 else if j < i then ns j else 0 := by
     funext j
     split
     ·rfl
     ·rename_i h; first | rfl | rw [if_neg h]
    rw [← e]; exact H2
   ·have c2 : ¬ q < ns i := by simpa using c2
    obtain rfl : q = ns i := by omega
    refine ⟨L.length - (i + 1), by omega, i + 1, by rw [wrap_i64 (by omega) (by omega)]; simp, by omega, rfl, ?_⟩
    have e : (fun j => if j = i then ns i else if j < i then ns j else 0) = fun j => if j < i + 1 then ns j else 0 := by
     funext j
     by_cases h : j = i
     ·rw [if_pos h, if_pos (by omega), h]
     ·rw [if_neg h]
      by_cases h2 : j < i
      ·rw [if_pos h2, if_pos (by omega)]
      ·rw [if_neg h2, if_neg (by omega)]
    rw [← e]; exact H1
 ·-- all are grown
  have c : ¬ i < L.length := by simpa using c
  obtain rfl : i = L.length := by omega
  have H0 : Own1 callE mkC ns ns s.nx a0 L s4 := ⟨H.fr, H.nx, H.a, H.ab, fun j x hx => by
   have := H.l j x hx
   have hj := (List.getElem?_eq_some_iff.1 hx).1
   simp only [hj, if_true] at this
   exact this, H.d, H.da⟩
  obtain ⟨col0, J0⟩ := H0.done N
  refine ⟨fun x n s1 k => ∃ (i : Nat) (col : Nat → Option Nat) (LG : List AV), n = i ∧ i ≤ L.length ∧ k = L.length - i ∧ LG.length = 3 * i ∧ Own2 callE mkC ns N s.nx a0 L col s1 x LG, ⟨_, 0, col0, [], rfl, by omega, rfl, rfl, J0⟩, ?_⟩
  rintro x26 _ s28 m29 ⟨i, col, LG, rfl, hi, hm29, hLG, J⟩
  refine J.a.slen (bsel_of (fun c => ?_) fun c => ?_)
  ·have c : i < L.length := by simpa using c
   have hxi : L[i]? = some L[i] := List.getElem?_eq_getElem c
   have hni := hn i
   refine J.a.ixs rfl rfl c fun b o hR => ⟨L[i], hR.ld1 0 rfl, ?_⟩
   refine ⟨fun x n s1 k => ∃ (q : Nat) (col : Nat → Option Nat), n = q ∧ q ≤ 20 ∧ k = 20 - q ∧ Own2 callE mkC ns N s.nx a0 L col s1 x26 LG ∧ Mk callE s1 x (ns i + q) (mkC i) ∧ ColS col x (some i), ⟨_, 0, col, rfl, by omega, rfl, J, J.l i _ hxi⟩, ?_⟩
   rintro x36 _ s38 m39 ⟨q, col1, rfl, hq, hm39, J1, hM, hC⟩
   refine bsel_of (fun c2 => ?_) fun c2 => ?_
   ·have c2 : q < 20 := by have := of_decide_eq_true c2; omega
    intro m40 s41 h41
    have G1 := GrowC.new (E := callE) (mark := mkC) (col := col1) h41.fwd J1.fr
    have J2 := J1.grow G1 h41.fr
    obtain ⟨M1, M2⟩ := G1.1 _ _ _ hM hC
    refine M1.app M2 ty.sl_api_Call rfl ty.api_Call rfl rfl rfl rfl h41.own.rd (by rw [wrap7 (by omega)]; rfl) (Nat.le_trans (Nat.mul_le_mul_right 56 (by omega)) hN) (by omega) h41.fr fun v s' col' A1 A2 A3 A4 => ?_
    exact ⟨20 - (q + 1), by omega, q + 1, col', by rw [wrap_i64 (by omega) (by omega)]; simp, by omega, rfl, J2.grow A3 A4, A1, A2⟩
   ·have c2 : ¬ q < 20 := by have := of_decide_eq_false c2; omega
    refine J1.a.ixs rfl rfl c fun b o hR => ⟨L[i], hR.ld1 0 rfl, ?_⟩
    refine ⟨fun x n s1 k => ∃ (p : Nat) (col : Nat → Option Nat), n = p ∧ p ≤ 80 ∧ k = 80 - p ∧ Own2 callE mkC ns N s.nx a0 L col s1 x26 LG ∧ (Mk callE s1 x36 (ns i + q) (mkC i) ∧ ColS col x36 (some i)) ∧ Mk callE s1 x (ns i + p) (mkC i) ∧ ColS col x (some i), ⟨_, 0, col1, rfl, by omega, rfl, J1, ⟨hM, hC⟩, J1.l i _ hxi⟩, ?_⟩
    rintro x50 _ s52 m53 ⟨p, col2, rfl, hp, hm53, J2, ⟨hM2, hC2⟩, hM3, hC3⟩
    refine bsel_of (fun c3 => ?_) fun c3 => ?_
    ·have c3 : p < 80 := by have := of_decide_eq_true c3; omega
     intro m54 s55 h55
     have G1 := GrowC.new (E := callE) (mark := mkC) (col := col2) h55.fwd J2.fr
     have J3 := J2.grow G1 h55.fr
     obtain ⟨M1, M2⟩ := G1.1 _ _ _ hM3 hC3
     obtain ⟨M3, M4⟩ := G1.1 _ _ _ hM2 hC2
     refine M1.app M2 ty.sl_api_Call rfl ty.api_Call rfl rfl rfl rfl h55.own.rd (by rw [wrap7 (by omega)]; rfl) (Nat.le_trans (Nat.mul_le_mul_right 56 (by omega)) hN) (by omega) h55.fr fun v s' col' A1 A2 A3 A4 => ?_
     exact ⟨80 - (p + 1), by omega, p + 1, col', by rw [wrap_i64 (by omega) (by omega)]; simp, by omega, rfl, J3.grow A3 A4, A3.1 _ _ _ M3 M4, A1, A2⟩
    ·have c3 : ¬ p < 80 := by have := of_decide_eq_false c3; omega
     refine J2.a.ixs rfl rfl c fun b o hR => ⟨L[i], hR.ld1 0 rfl, ?_⟩
     have one1 : ∀ {y : AV} {k : Nat} {R : Prop}, Mk callE s52 y k (mkC i) → R → oneK y R := fun hk hR => by
      have := hk.len
      rename_i y k R
      cases y <;> first | exact hR | simp [slLen] at this
     obtain ⟨L1, L2⟩ := J2.l i _ hxi
     refine one1 L1 (one1 hM2 (one1 hM3 ?_))
     intro m62 s63 h63
     obtain ⟨v, s', col', q1, q2, q3⟩ := J2.push ty.sl_sl_api_Call rfl ty.sl_api_Call rfl (by decide) rfl rfl L1 hM2 hM3 L2 hC2 hC3 (by omega) (by omega) (by omega) hLG (by omega) h63
     exact .inl ⟨v, s', q1, L.length - (i + 1), by omega, i + 1, col', _, by rw [wrap_i64 (by omega) (by omega)]; simp, by omega, rfl, q3, q2⟩
  ·-- all are looked at
   have c : ¬ i < L.length := by simpa using c
   refine ⟨fun n s1 k => ∃ q : Nat, n = q ∧ q ≤ LG.length ∧ k = LG.length - q ∧ s1 = s28, ⟨_, 0, rfl, by omega, rfl, rfl⟩, ?_⟩
   rintro _ s70 m71 ⟨q, rfl, hq, hm71, rfl⟩
   refine J.og.sl.slen (bsel_of (fun c2 => ?_) fun c2 => ?_)
   ·have c2 : q < LG.length := by simpa using c2
    obtain ⟨n, hnN, hM, _⟩ := J.gl q _ (List.getElem?_eq_getElem c2)
    refine ⟨fun k s1 r => ∃ p : Nat, k = p ∧ p ≤ n ∧ r = n - p ∧ s1 = s70, ⟨_, 0, rfl, by omega, rfl, rfl⟩, ?_⟩
    rintro _ s76 m77 ⟨p, rfl, hp, hm77, rfl⟩
    refine J.og.sl.ixs rfl rfl c2 fun b o hR => ⟨LG[q], hR.ld1 0 rfl, ?_⟩
    unfold slenK
    rw [hM.len]
    refine bsel_of (fun c3 => ?_) fun c3 => ?_
    ·have c3 : p < n := by simpa using c3
     refine J.og.sl.ixs rfl rfl c2 fun b o hR => ⟨LG[q], hR.ld1 0 rfl, ?_⟩
     refine hM.at rfl rfl c3 fun b o hR => ⟨_, _, _, _, _, hR.all rfl, by decide, ?_⟩
     have e3 : Int.tdiv (q : Int) 3 = ((q / 3 : Nat) : Int) := by rw [Int.tdiv_eq_ediv_of_nonneg (by omega)]; omega
     rw [e3, wrap_i64 (a := ((q / 3 : Nat) : Int)) (by omega) (by omega), wrap7 (by omega)]
     refine bsel_of (fun c4 => ?_) fun _ => ?_
     ·simp [mkC, bytesEq] at c4
     ·exact ⟨n - (p + 1), by omega, p + 1, by rw [wrap_i64 (by omega) (by omega)]; simp, by omega, rfl, rfl⟩
    ·exact ⟨LG.length - (q + 1), by omega, q + 1, by rw [wrap_i64 (by omega) (by omega)]; simp, by omega, rfl, rfl⟩
   ·rfl
end
end Go.Eng.S

namespace Go.Eng.S
open Go Go.Eng Go.Proofs
set_option linter.constructorNameAsVariable false
set_option maxRecDepth 4000
noncomputable section
attribute [local irreducible] bsel
theorem succ_i {i : Nat} (h : i < 4611686018427387904) : IntKind.wrap .i64 ((i : Int) + 1) = ((i + 1 : Nat) : Int) := by
 rw [wrap_i64 (by omega) (by omega)]; simp
theorem callEq_iff {a b : CallR} : ((a.hour == b.hour) && (((bytesEq (Array.toList (ByteArray.data a.edge.1)) (Array.toList (ByteArray.data b.edge.1))) && ((bytesEq (Array.toList (ByteArray.data a.edge.2)) (Array.toList (ByteArray.data b.edge.2))) && true)) && ((a.failed == b.failed) && ((a.took == b.took) && true)))) = true ↔ a = b := by
 rw [sEq_eq, sEq_eq]
 obtain ⟨a1, ⟨a2, a3⟩, a4, a5⟩ := a
 obtain ⟨b1, ⟨b2, b3⟩, b4, b5⟩ := b
 simp only [Bool.and_true, Bool.and_eq_true, beq_iff_eq, decide_eq_true_eq, CallR.mk.injEq, Prod.mk.injEq]
theorem sameCalls_ok {s : St} {x y : AV} {l : List CallR} (hx : Sl callE s x l) (hy : Sl callE s y l) (hn : l.length < 4611686018427387904) :
  CallsA P F.spoorlaw14_sameCalls [x, y] s fun v s' => (v = .bool true ∧ Frw [] s s') ∧ Fr s' := by
 refine CallsA.of fun hfr => (vc.spoorlaw14_sameCalls_ok ?_).a
 refine hx.slen (hy.slen (bsel_of (fun c => by simp at c) fun _ => ?_))
 refine ⟨fun n s4 m => ∃ k : Nat, n = k ∧ m = l.length - k ∧ k ≤ l.length ∧ Frw [] s s4 ∧ Fr s4, ⟨_, 0, rfl, rfl, by omega, .refl _ _, hfr⟩, ?_⟩
 rintro _ s4 m7 ⟨k, rfl, hm, hk, f4, hfr4⟩
 refine (hx.ext f4).slen (bsel_of (fun c => ?_) fun _ => ⟨rfl, f4⟩)
 have c : k < l.length := by simpa using c
 intro s9 hB
 have f9 := f4.trans hB.fwd
 refine (hx.ext f9).ixs rfl rfl c fun b o hR => ⟨_, _, _, _, _, hR.all rfl, (hy.ext f9).ixs rfl rfl c fun b o hR => ⟨_, _, _, _, _, hR.all rfl, bsel_of (fun c => ?_) fun _ => ⟨l.length - (k + 1), by omega, k + 1, succ_i (by omega), rfl, by omega, f9, hB.fr⟩⟩⟩
 rw [if_neg (by simp)] at c
 have := callEq_iff.2 (rfl : l[k] = l[k])
 rw [this] at c
 simp at c
theorem RLess_ok (a b : CallR) (s : St) : CallsD P F.spoorref14_Less [.agg (callF a), .agg (callF b)] s fun v s' => v = .bool (decide (cmpCall a b < 0)) ∧ s' = s := by
 refine CallsD.pure (fun s => (vc.spoorref14_Less_ok ?_).a) rfl s
 intro m1 s2 h2 m3 s4 h4
 have o1 := h2.own.ext h4.fwd
 have o3 := h4.own
 have key : ∀ {c : Bool}, (c = true ↔ ltCall a b) → AV.bool c = .bool (decide (cmpCall a b < 0)) := fun {c} h => by
  congr 1
  cases c with
  | true => exact (decide_eq_true ((cmpCall_lt a b).2 (h.1 rfl))).symm
  | false => exact (decide_eq_false fun g => by have := h.2 ((cmpCall_lt a b).1 g); simp at this).symm
 obtain ⟨a1, ⟨a2, a3⟩, a4, a5⟩ := a
 obtain ⟨b1, ⟨b2, b3⟩, b4, b5⟩ := b
 have sl : ∀ x y : ByteArray, bytesLt x.data.toList y.data.toList = sLt x y := fun _ _ => rfl
 refine ⟨_, o1.ld1 0 rfl, _, o3.ld1 0 rfl, bsel_of (fun c => ⟨_, o1.ld1 0 rfl, _, o3.ld1 0 rfl, ?_⟩) fun c => ?_⟩
 ·have c : a1 ≠ b1 := by simpa using c
  refine key ⟨fun h => .inl (of_decide_eq_true h), fun h => decide_eq_true ?_⟩
  rcases h with h | ⟨h, _⟩
  ·exact h
  ·exact absurd h c
 have c : a1 = b1 := by simpa using c
 subst c
 refine ⟨_, o1.ld1 1 rfl, _, o3.ld1 1 rfl, bsel_of (fun c2 => ⟨_, o1.ld1 1 rfl, _, o3.ld1 1 rfl, ?_⟩) fun c2 => ?_⟩
 ·have c2 : a2 ≠ b2 := by
   rintro rfl
   rw [sEq_eq] at c2
   simp at c2
  refine key ⟨fun h => .inr ⟨rfl, .inl ((ssLt_iff _ _).2 (.inl h))⟩, fun h => ?_⟩
  rcases h with h | ⟨_, h | ⟨h, _⟩⟩
  ·simp only at h; omega
  ·rcases (ssLt_iff _ _).1 h with h | ⟨h, _⟩
   ·exact h
   ·exact absurd h c2
  ·exact absurd (Prod.mk.inj h).1 c2
 have c2 : a2 = b2 := by
  rw [sEq_eq] at c2
  simpa using c2
 subst c2
 refine ⟨_, o1.ld1 2 rfl, _, o3.ld1 2 rfl, bsel_of (fun c3 => ⟨_, o1.ld1 2 rfl, _, o3.ld1 2 rfl, ?_⟩) fun c3 => ?_⟩
 ·have c3 : a3 ≠ b3 := by
   rintro rfl
   rw [sEq_eq] at c3
   simp at c3
  refine key ⟨fun h => .inr ⟨rfl, .inl ((ssLt_iff _ _).2 (.inr ⟨rfl, h⟩))⟩, fun h => ?_⟩
  rcases h with h | ⟨_, h | ⟨h, _⟩⟩
  ·simp only at h; omega
  ·rcases (ssLt_iff _ _).1 h with h | ⟨_, h⟩
   ·simp only [sLt_irrefl] at h; simp at h
   ·exact h
  ·exact absurd (Prod.mk.inj h).2 c3
 have c3 : a3 = b3 := by
  rw [sEq_eq] at c3
  simpa using c3
 subst c3
 refine ⟨_, o1.ld1 3 rfl, _, o3.ld1 3 rfl, bsel_of (fun c4 => ⟨_, o3.ld1 3 rfl, ?_⟩) fun c4 => ⟨_, o1.ld1 4 rfl, _, o3.ld1 4 rfl, ?_⟩⟩
 ·have c4 : a4 ≠ b4 := by
   rintro rfl
   simp at c4
  refine key ⟨fun h => .inr ⟨rfl, .inr ⟨rfl, .inl ⟨?_, h⟩⟩⟩, fun h => ?_⟩
  ·have h : b4 = true := h
   subst h
   simpa using c4
  ·rcases h with h | ⟨_, h | ⟨_, ⟨_, h⟩ | ⟨h, _⟩⟩⟩
   ·simp only at h; omega
   ·rw [ssLt_irrefl] at h; simp at h
   ·exact h
   ·exact absurd h c4
 ·have c4 : a4 = b4 := by simpa using c4
  subst c4
  refine key ⟨fun h => .inr ⟨rfl, .inr ⟨rfl, .inr ⟨rfl, of_decide_eq_true h⟩⟩⟩, fun h => decide_eq_true ?_⟩
  rcases h with h | ⟨_, h | ⟨_, ⟨h1, h2⟩ | ⟨_, h⟩⟩⟩
  ·simp only at h; omega
  ·rw [ssLt_irrefl] at h; simp at h
  ·simp only at h1 h2; rw [h1] at h2; simp at h2
  ·exact h
def lmk (i : Nat) : CallR := ⟨900 + (i : Int), (ByteArray.empty, ByteArray.empty), false, 0⟩
def lentL (l : List CallR) : List CallR := l ++ [lmk l.length, lmk (l.length + 1), lmk (l.length + 2), lmk (l.length + 3)]
theorem lentL_len (l : List CallR) : (lentL l).length = l.length + 4 := by simp [lentL]
theorem lentL_old {l : List CallR} {i : Nat} (h : i < l.length) : (lentL l)[i]? = some l[i] := by
 unfold lentL
 rw [List.getElem?_append_left h]; exact List.getElem?_eq_getElem h
theorem lentL_new {l : List CallR} {i : Nat} (h : l.length ≤ i) (h' : i < l.length + 4) : (lentL l)[i]? = some (lmk i) := by
 unfold lentL
 rw [List.getElem?_append_right h]
 obtain ⟨d, rfl⟩ : ∃ d, i = l.length + d := ⟨i - l.length, by omega⟩
 rw [Nat.add_sub_cancel_left]
 match d, h' with
 | 0, _ => rfl
 | 1, _ => rfl
 | 2, _ => rfl
 | 3, _ => rfl
 | d + 4, h' => omega
def zC : CallR := ⟨0, (ByteArray.empty, ByteArray.empty), false, 0⟩
theorem zeros_C : ∀ n : Nat, zeros (callF zC) n = (List.replicate n zC).flatMap callF
 | 0 => rfl
 | n + 1 => by rw [List.replicate_succ, List.flatMap_cons, ← zeros_C n]; rfl
theorem splice0 {M : List CallR} {l : List CallR} (h : l.length ≤ M.length) : splice (M.flatMap callE.f) 0 (l.flatMap callE.f) = (l ++ M.drop l.length).flatMap callE.f := by
 unfold splice
 rw [List.take_zero, List.nil_append, Nat.zero_add, List.flatMap_append, callE.flat_drop h, callE.flat_len]
theorem lentCalls_ok {s : St} {x : AV} {l : List CallR} (hx : Sl callE s x l) (hn : (l.length + 4) * 56 ≤ pow48) :
  CallsA P F.spoorlaw14_lentCalls [x] s fun v s' => (∃ b, v = .slice b 0 (l.length + 4) (.exact (l.length + 4)) ∧ Own s' b ((lentL l).flatMap callE.f) ∧ s.h.get b = none ∧ Frw [] s s') ∧ Fr s' := by
 refine CallsA.of fun hfr => (vc.spoorlaw14_lentCalls_ok ?_).a
 have hn4 : l.length + 4 < 4611686018427387904 := by unfold pow48 at hn; omega
 refine hx.slen ?_
 have e4 : IntKind.wrap .i64 (((l.length : Nat) : Int) + 4) = ((l.length + 4 : Nat) : Int) := by
  rw [wrap_i64 (by omega) (by omega)]; simp
 rw [e4]
 obtain ⟨s1, q1, q2⟩ := makeSlice_of (D := D) (s := s) (t := T.sl_api_Call) (k := .i64) (k' := .i64) (n := ((l.length + 4 : Nat) : Int)) (m := ((l.length + 4 : Nat) : Int)) ty.sl_api_Call rfl ty.api_Call rfl rfl (by omega) (Int.le_refl _) (by unfold pow48 at hn; omega) (by rw [Int.toNat_natCast]; show 56 * _ ≤ _; rw [Nat.mul_comm]; exact hn) hfr
 rw [Int.toNat_natCast] at q1 q2
 have hz : zeros (AV.cells (.agg [.int .i64 0, .str .empty, .str .empty, .bool false, .int .u64 0])) (l.length + 4) = (List.replicate (l.length + 4) zC).flatMap callE.f := zeros_C _
 have o1 : Own s1 s.nx ((List.replicate (l.length + 4) zC).flatMap callE.f) := by rw [← hz]; exact q2.own
 have hl1 : ((List.replicate (l.length + 4) zC).flatMap callE.f).length = (l.length + 4) * callE.z := by rw [callE.flat_len, List.length_replicate]
 obtain ⟨s2, c1, c2, c3, c4, c5⟩ := copy_of (cap := .exact (l.length + 4)) ty.sl_api_Call rfl ty.api_Call rfl o1 hl1 (hx.ext q2.fwd) (by omega) (fun a _ => rfl)
 rw [splice0 (by rw [List.length_replicate]; omega)] at c2
 have hfr2 : Fr s2 := q2.fr.wr o1.there c4 c5
 have f2 : Frw [] s s2 := q2.fwd.step c3 fun c hc => by
  have : c = s.nx := by simpa using hc
  rw [this]; exact q2.gone
 refine ⟨_, s1, q1, _, s2, c1, hx.slen ⟨fun n s3 m => ∃ (i : Nat) (M : List CallR), n = i ∧ l.length ≤ i ∧ i ≤ l.length + 4 ∧ m = l.length + 4 - i ∧ M.length = l.length + 4 ∧ (∀ j, j < i → M[j]? = (lentL l)[j]?) ∧ Own s3 s.nx (M.flatMap callE.f) ∧ Frw [] s s3 ∧ Fr s3, ⟨_, l.length, _, rfl, Nat.le_refl _, by omega, rfl, ?_, fun j hj => ?_, c2, f2, hfr2⟩, ?_⟩⟩
 ·simp
 ·rw [List.getElem?_append_left hj, lentL_old hj, List.getElem?_eq_getElem hj]
 rintro _ s3 m11 ⟨i, M, rfl, h1, h2, hm, hM, hj, o3, f3, hfr3⟩
 show slenK _ _
 unfold slenK
 show bsel _ _ _
 refine bsel_of (fun c => ?_) fun c => ?_
 ·have c : i < l.length + 4 := by have := of_decide_eq_true c; omega
  refine ⟨by omega, by omega, ?_⟩
  rw [mulS_eq, Int.toNat_natCast, Nat.zero_add]
  have hw9 : IntKind.wrap .i64 (900 + (i : Int)) = 900 + (i : Int) := wrap_i64 (by omega) (by omega)
  have hlen : (M.flatMap callE.f).length = (l.length + 4) * 5 := by rw [callE.flat_len, hM]; rfl
  obtain ⟨s4, w1, w2, w3, w4, w5, w6⟩ := o3.wrN (i * 5) [.int .i64 (IntKind.wrap .i64 (900 + (i : Int))), .str ByteArray.empty, .str ByteArray.empty, .bool false, .int .u64 0] rfl (by rw [hlen]; simp; omega)
  refine ⟨s4, w1, l.length + 4 - (i + 1), by omega, i + 1, M.set i (lmk i), succ_i (by omega), by omega, by omega, rfl, by simp [hM], fun j hj' => ?_, ?_, f3.step w3 fun c hc => by
   have : c = s.nx := by simpa using hc
   rw [this]; exact q2.gone, hfr3.wr o3.there w4 w6⟩
  ·by_cases e : j = i
   ·subst e
    rw [List.getElem?_set_self (by omega), lentL_new (by omega) c]
   ·rw [List.getElem?_set_ne (Ne.symm e)]
    exact hj j (by omega)
  ·rw [hw9] at w2
   have := callE.flat_set (l := M) (k := i) (by omega) (j := 0) (vs := callE.f (lmk i)) (a := lmk i) (by simp [callE.len]) (by simp [splice, callE.len])
   rw [Nat.add_zero] at this
   rw [← this]
   exact w2
 ·have c : i = l.length + 4 := by have := of_decide_eq_false c; omega
  subst c
  have : M = lentL l := List.ext_getElem? fun j => by
   by_cases h : j < l.length + 4
   ·exact hj j h
   ·rw [List.getElem?_eq_none (by omega), List.getElem?_eq_none (by rw [lentL_len]; omega)]
  subst this
  exact ⟨s.nx, rfl, o3, q2.gone, f3⟩
theorem callsStay_ok {s : St} {b n : Nat} {cap : ACap} {y : AV} {l : List CallR} (ho : Own s b ((lentL l).flatMap callE.f)) (hn : n = l.length + 4) (hy : Sl callE s y l) (hl : l.length < 1000000000000000) :
  CallsA P F.spoorlaw14_callsStay [.slice b 0 n cap, y] s fun v s' => (v = .bool true ∧ Frw [] s s') ∧ Fr s' := by
 subst hn
 have hx : Sl callE s (.slice b 0 (l.length + 4) cap) (lentL l) := .inr ⟨b, 0, _, cap, rfl, by rw [callE.flat_len, lentL_len], ho.rd⟩
 refine CallsA.of fun hfr => (vc.spoorlaw14_callsStay_ok ?_).a
 refine ⟨fun n s4 m => ∃ i : Nat, n = i ∧ i ≤ l.length + 4 ∧ m = l.length + 4 - i ∧ Frw [] s s4 ∧ Fr s4, ⟨_, 0, rfl, by omega, rfl, .refl _ _, hfr⟩, ?_⟩
 rintro _ s4 m5 ⟨i, rfl, hi, hm, f4, hfr4⟩
 refine (hx.ext f4).slen (bsel_of (fun c => ?_) fun _ => ⟨rfl, f4⟩)
 rw [lentL_len] at c
 have c : i < l.length + 4 := by have := of_decide_eq_true c; omega
 have hiL : i < (lentL l).length := by rw [lentL_len]; exact c
 refine ⟨fun s5 _ => Frw [] s s5 ∧ Fr s5, ⟨fun c s5 _ => c = false ∧ Frw [] s s5 ∧ Fr s5, ?_, ?_⟩, ?_⟩
 ·intro s9 hB
  have f9 := f4.trans hB.fwd
  have hx9 := hx.ext f9
  have hy9 := hy.ext f9
  refine hy9.slen (bsel_of (fun c2 => ?_) fun c2 => hy9.slen (bsel_of (fun _ => ?_) fun c3 => ?_))
  ·have c2 : i < l.length := by have := of_decide_eq_true c2; omega
   refine hx9.ixs rfl rfl hiL fun b o hR => ⟨_, _, _, _, _, hR.all rfl, hy9.ixs rfl rfl c2 fun b o hR => ⟨_, _, _, _, _, hR.all rfl, bsel_of (fun c3 => ?_) fun _ => hy9.slen (bsel_of (fun c4 => ?_) fun _ => ⟨0, rfl, f9, hB.fr⟩)⟩⟩
   ·have e : (lentL l)[i] = l[i] := by
     have := lentL_old c2
     rw [List.getElem?_eq_getElem hiL] at this
     simpa using this
    rw [e, if_neg (by simp)] at c3
    have := callEq_iff.2 (rfl : l[i] = l[i])
    rw [this] at c3
    simp at c3
   ·have := of_decide_eq_true c4
    omega
  ·have c2 : ¬ i < l.length := by have := of_decide_eq_false c2; omega
   refine hx9.ixs rfl rfl hiL fun b o hR => ⟨_, _, _, _, _, hR.all rfl, 0, ?_, f9, hB.fr⟩
   have e : (lentL l)[i] = lmk i := by
    have := lentL_new (l := l) (i := i) (by omega) c
    rw [List.getElem?_eq_getElem hiL] at this
    simpa using this
   rw [e, if_neg (by simp), wrap_i64 (a := 900 + (i : Int)) (by omega) (by omega)]
   have := callEq_iff.2 (rfl : lmk i = lmk i)
   simp only [lmk] at this ⊢
   rw [this]
   rfl
  ·have := of_decide_eq_false c2
   have := of_decide_eq_false c3
   omega
 ·rintro _ s47 m48 ⟨rfl, f47, hfr47⟩
  exact bsel_of (fun c => by simp at c) fun _ => ⟨0, f47, hfr47⟩
 ·rintro s50 m51 ⟨f50, hfr50⟩
  exact ⟨l.length + 4 - (i + 1), by omega, i + 1, succ_i (by omega), by omega, rfl, f50, hfr50⟩
end
end Go.Eng.S

namespace Go.Eng.S
open Go Go.Eng Go.Proofs
set_option linter.constructorNameAsVariable false
set_option maxRecDepth 4000
noncomputable section
attribute [local irreducible] bsel
def SortedC (l : List CallR) : Prop := l.Pairwise fun y z => 0 ≤ cmpCall z y
def leC (a b : CallR) : Bool := decide (0 ≤ cmpCall b a)
theorem leC_not {a b : CallR} : leC a b = true ↔ ¬ ltCall b a := by
 unfold leC
 rw [decide_eq_true_iff, ← cmpCall_lt]; omega
theorem leC_trans (a b c : CallR) (h : leC a b = true) (h' : leC b c = true) : leC a c = true := by
 rw [leC_not] at h h' ⊢
 intro g
 rcases ltCall_total a b with q | q | q
 ·exact h' (ltCall_trans g q)
 ·rw [q] at g; exact h' g
 ·exact h q
theorem leC_total (a b : CallR) : (leC a b || leC b a) = true := by
 rw [Bool.or_eq_true, leC_not, leC_not]
 refine Classical.byContradiction fun h => ?_
 have h := not_or.1 h
 have h1 := Classical.not_not.1 h.1
 have h2 := Classical.not_not.1 h.2
 exact ltCall_irrefl _ (ltCall_trans h1 h2)
theorem sortedC_iff {l : List CallR} : SortedC l ↔ l.Pairwise fun a b => leC a b = true := by
 unfold SortedC leC
 constructor
 ·exact fun h => h.imp fun h => decide_eq_true h
 ·exact fun h => h.imp fun h => of_decide_eq_true h
theorem exists_sorted (l : List CallR) : ∃ l', l'.Perm l ∧ SortedC l' :=
 ⟨l.mergeSort leC, List.mergeSort_perm _ _, sortedC_iff.2 (List.pairwise_mergeSort leC_trans leC_total l)⟩
def mgC (A B : List CallR) : List CallR := A.merge B leC
theorem mgC_nil (A : List CallR) : mgC A [] = A := List.merge_right A
theorem nil_mgC (B : List CallR) : mgC [] B = B := List.nil_merge B
theorem mgC_l {a b : CallR} {A B : List CallR} (h : ¬ cmpCall b a < 0) : mgC (a :: A) (b :: B) = a :: mgC A (b :: B) := by
 unfold mgC
 rw [List.cons_merge_cons, if_pos (show leC a b = true from decide_eq_true (by omega))]
theorem mgC_r {a b : CallR} {A B : List CallR} (h : cmpCall b a < 0) : mgC (a :: A) (b :: B) = b :: mgC (a :: A) B := by
 unfold mgC
 rw [List.cons_merge_cons, if_neg (by unfold leC; simp; omega)]
theorem short_sorted {l : List CallR} (h : l.length < 2) : SortedC l := by
 unfold SortedC
 rcases l with _ | ⟨a, _ | ⟨b, r⟩⟩
 ·exact .nil
 ·simp
 ·simp at h; omega
theorem tdiv2 (n : Nat) : Int.tdiv (n : Int) 2 = ((n / 2 : Nat) : Int) := by
 rw [Int.tdiv_eq_ediv_of_nonneg (by omega)]; omega
theorem tkV {z : Nat} {x y : AV} {lo hi mx : Option AV} {K : AV → Prop} (h : sliceV z x lo hi mx = some y) (hk : K y) : optK (sliceV z x lo hi mx) K := by rw [h]; exact hk
theorem drop_some {l : List CallR} {i : Nat} {a : CallR} (h : l[i]? = some a) : l.drop i = a :: l.drop (i + 1) := by
 obtain ⟨h1, h2⟩ := List.getElem?_eq_some_iff.1 h
 rw [List.drop_eq_getElem_cons h1, h2]
theorem hlen2 {n : Nat} (h : (n + 1 + (n + 1) / 4 + 600) * 56 ≤ pow48) : (n + n / 4 + 600) * 56 ≤ pow48 := Nat.le_trans (Nat.mul_le_mul_right 56 (by omega)) h
theorem hlen3 {n m : Nat} (h : (n + 1 + (n + 1) / 4 + 600) * 56 ≤ pow48) (hm : m ≤ n) : (m + 1 + (m + 1) / 4 + 600) * 56 ≤ pow48 := Nat.le_trans (Nat.mul_le_mul_right 56 (by omega)) h
set_option maxHeartbeats 2000000 in
theorem sorted_ok : ∀ (n : Nat) {l : List CallR} {s : St} {x : AV}, l.length = n → Sl callE s x l → (l ≠ [] → CutS x) → (l.length + 1 + (l.length + 1) / 4 + 600) * 56 ≤ pow48 →
  CallsA P F.spoorref14_sorted [x] s fun v s' => ((∃ l', l'.Perm l ∧ SortedC l' ∧ Sl callE s' v l') ∧ Frw [] s s') ∧ Fr s' := by
 intro n
 induction n using Nat.strongRecOn with
 | _ n ih =>
 intro l s x hn hx hcut hlen
 have hl9 : l.length < 4611686018427387904 := by unfold pow48 at hlen; omega
 refine CallsA.of fun hfr => vc.spoorref14_sorted_ok ?_
 refine hx.slen (bsel_of (fun c => ?_) fun c => ?_)
 ·have c : l.length < 2 := by have := of_decide_eq_true c; omega
  intro m2 s3 h3
  obtain ⟨v, s', q1, q2, _, q4, _⟩ := appendAll0 (E := callE) (D := D) (t := T.sl_api_Call) h3.own (hx.ext h3.fwd) ty.sl_api_Call rfl ty.api_Call rfl rfl rfl (fun a _ => rfl) (hlen2 hlen) (by unfold pow48 at hlen ⊢; omega) h3.fr
  exact ⟨v, s', q1, ⟨l, .refl _, short_sorted c, q2⟩, h3.fwd.trans q4⟩
 have c : 2 ≤ l.length := by have := of_decide_eq_false c; omega
 have hne : l ≠ [] := by rintro rfl; simp at c
 have e2 : IntKind.wrap .i64 (Int.tdiv ((l.length : Nat) : Int) 2) = ((l.length / 2 : Nat) : Int) := by
  rw [tdiv2, wrap_i64 (by omega) (by omega)]
 obtain ⟨⟨y1, t1, t2, t3⟩, _⟩ := hx.cut (hcut hne) (k := l.length / 2) (by omega) (by omega)
 refine hx.slen ⟨by decide, ?_⟩
 rw [e2]
 refine tkV t1 ((ih (l.length / 2) (by omega) (by rw [List.length_take]; omega) t2 (fun _ => t3) (hlen3 hlen (by rw [List.length_take]; omega))).mono ?_)
 rintro v1 s9 ⟨⟨⟨A, pA, sA, hA⟩, f9⟩, hfr9⟩
 refine ⟨v1, rfl, ?_⟩
 have hx9 := hx.ext f9
 obtain ⟨_, y2, u1, u2, u3⟩ := hx9.cut (hcut hne) (k := l.length / 2) (by omega) (by omega)
 refine hx9.slen ⟨by decide, ?_⟩
 rw [e2]
 refine tkV u1 ((ih (l.length - l.length / 2) (by omega) (by rw [List.length_drop]) u2 (fun _ => u3) (hlen3 hlen (by rw [List.length_drop]; omega))).mono ?_)
 rintro v2 s14 ⟨⟨⟨B, pB, sB, hB⟩, f14⟩, hfr14⟩
 refine ⟨v2, rfl, ?_⟩
 have hA14 := hA.ext f14
 have lA : A.length = l.length / 2 := by rw [pA.length_eq, List.length_take]; omega
 have lB : B.length = l.length - l.length / 2 := by rw [pB.length_eq, List.length_drop]
 have f014 := f9.trans f14
 refine ⟨fun x18 n19 n20 s21 m22 => ∃ (i k : Nat) (out : List CallR), n19 = i ∧ n20 = k ∧ i ≤ A.length ∧ k ≤ B.length ∧ m22 = A.length - i + (B.length - k) ∧ So callE s21 x18 out ∧ (∀ c, c ∈ blkOf x18 → s14.h.get c = none) ∧ Frw [] s14 s21 ∧ Fr s21 ∧ mgC A B = out ++ mgC (A.drop i) (B.drop k) ∧ out.length = i + k,
  ⟨_, 0, 0, [], rfl, rfl, by omega, by omega, rfl, .nil _ _, by simp [blkOf], .refl _ _, hfr14, by simp, rfl⟩, ?_⟩
 rintro x18 _ _ s21 m22 ⟨i, k, out, rfl, rfl, hi, hk, hm, hso, hgo, f21, hfr21, hmg, hol⟩
 have hA21 := hA14.ext f21
 have hB21 := hB.ext f21
 refine ⟨fun s33 _ => s21 = s33 ∧ (i < A.length ∨ k < B.length), ⟨fun c s30 _ => s21 = s30 ∧ (c = true ↔ (i < A.length ∨ k < B.length)), ?_, ?_⟩, ?_⟩
 ·refine hA21.slen (bsel_of (fun c => ⟨0, rfl, ?_⟩) fun c => hB21.slen ⟨0, rfl, ?_⟩)
  ·have := of_decide_eq_true c
   exact ⟨fun _ => .inl (by omega), fun _ => rfl⟩
  ·have := of_decide_eq_false c
   rw [decide_eq_true_iff]
   omega
 ·rintro c _ _ ⟨rfl, hc⟩
  refine bsel_of (fun c1 => ⟨0, rfl, hc.1 c1⟩) fun c1 => ?_
  have hno : ¬ (i < A.length ∨ k < B.length) := fun h => by rw [hc.2 h] at c1; simp at c1
  have e1 : A.drop i = [] := List.drop_eq_nil_of_le (by omega)
  have e2 : B.drop k = [] := List.drop_eq_nil_of_le (by omega)
  rw [e1, e2, mgC_nil, List.append_nil] at hmg
  refine ⟨⟨out, ?_, ?_, hso.sl⟩, f014.trans f21⟩
  ·rw [← hmg]
   refine (List.merge_perm_append leC).trans ((pA.append pB).trans (.of_eq (List.take_append_drop _ _)))
  ·rw [← hmg]
   exact sortedC_iff.2 (List.pairwise_merge leC_trans leC_total _ _ (sortedC_iff.1 sA) (sortedC_iff.1 sB))
 rintro s33 _ ⟨hs33, hany⟩
 subst hs33
 refine ⟨fun c s _ => Frw [] s21 s ∧ Fr s ∧ (c = true ↔ ∃ a b, A[i]? = some a ∧ B[k]? = some b ∧ cmpCall b a < 0), ?_, ?_⟩
 ·intro s36 hBu
  have hA36 := hA21.ext hBu.fwd
  have hB36 := hB21.ext hBu.fwd
  refine hB36.slen (bsel_of (fun c => hA36.slen (bsel_of (fun c2 => ?_) fun c2 => ⟨0, hBu.fwd, hBu.fr, ?_⟩)) fun c => ⟨0, hBu.fwd, hBu.fr, ?_⟩)
  ·have c : k < B.length := by have := of_decide_eq_true c; omega
   have c2 : i < A.length := by have := of_decide_eq_true c2; omega
   refine hB36.ixs rfl rfl c fun b o hR => ⟨_, _, _, _, _, hR.all rfl, hA36.ixs rfl rfl c2 fun b o hR => ⟨_, _, _, _, _, hR.all rfl, (RLess_ok B[k] A[i] s36).mono ?_⟩⟩
   rintro _ _ ⟨rfl, rfl⟩
   refine ⟨_, rfl, 0, hBu.fwd, hBu.fr, ?_⟩
   rw [decide_eq_true_iff]
   refine ⟨fun h => ⟨_, _, List.getElem?_eq_getElem c2, List.getElem?_eq_getElem c, h⟩, ?_⟩
   rintro ⟨a, b, h1, h2, h3⟩
   rw [List.getElem?_eq_getElem c2] at h1
   rw [List.getElem?_eq_getElem c] at h2
   simp only [Option.some.injEq] at h1 h2
   rw [h1, h2]; exact h3
  ·have := of_decide_eq_false c2
   refine ⟨fun h => by simp at h, ?_⟩
   rintro ⟨a, b, h1, h2, h3⟩
   have := (List.getElem?_eq_some_iff.1 h1).1
   omega
  ·have := of_decide_eq_false c
   refine ⟨fun h => by simp at h, ?_⟩
   rintro ⟨a, b, h1, h2, h3⟩
   have := (List.getElem?_eq_some_iff.1 h2).1
   omega
 rintro c s60 _ ⟨f60, hfr60, hc⟩
 refine ⟨fun d s _ => s60 = s ∧ (d = true → ∃ a, A[i]? = some a ∧ mgC (A.drop i) (B.drop k) = a :: mgC (A.drop (i + 1)) (B.drop k)) ∧ (d = false → ∃ b, B[k]? = some b ∧ mgC (A.drop i) (B.drop k) = b :: mgC (A.drop i) (B.drop (k + 1))), ?_, ?_⟩
 ·refine (hB21.ext f60).slen (bsel_of (fun c1 => ⟨0, rfl, fun _ => ?_, fun h => by simp at h⟩) fun c1 => (hA21.ext f60).slen (bsel_of (fun c2 => ⟨0, rfl, fun h => ?_, fun h => ?_⟩) fun c2 => ⟨0, rfl, fun h => by simp at h, fun _ => ?_⟩))
  ·have c1 : k = B.length := by simp at c1; omega
   have hiA : i < A.length := by omega
   refine ⟨A[i], List.getElem?_eq_getElem hiA, ?_⟩
   rw [show B.drop k = [] from List.drop_eq_nil_of_le (by omega), mgC_nil, mgC_nil, drop_some (List.getElem?_eq_getElem hiA)]
  ·have c1 : k ≠ B.length := by simp at c1; omega
   have hkB : k < B.length := by omega
   have hiA : i < A.length := by have := of_decide_eq_true c2; omega
   refine ⟨A[i], List.getElem?_eq_getElem hiA, ?_⟩
   rw [drop_some (List.getElem?_eq_getElem hiA), drop_some (List.getElem?_eq_getElem hkB)]
   refine mgC_l fun hlt => ?_
   rw [hc.2 ⟨_, _, List.getElem?_eq_getElem hiA, List.getElem?_eq_getElem hkB, hlt⟩] at h
   simp at h
  ·have h : c = true := by cases c <;> simp at h ⊢
   obtain ⟨a, b, h1, h2, h3⟩ := hc.1 h
   refine ⟨b, h2, ?_⟩
   rw [drop_some h1, drop_some h2, mgC_r h3]
  ·have c1 : k ≠ B.length := by simp at c1; omega
   have hkB : k < B.length := by omega
   have hiA : ¬ i < A.length := by have := of_decide_eq_false c2; omega
   refine ⟨B[k], List.getElem?_eq_getElem hkB, ?_⟩
   rw [show A.drop i = [] from List.drop_eq_nil_of_le (by omega), nil_mgC, nil_mgC, drop_some (List.getElem?_eq_getElem hkB)]
 rintro d s69 _ ⟨hs69, hd1, hd2⟩
 subst hs69
 have f1460 := f21.trans f60
 have hso60 := hso.ext f60
 have hbound : (out.length + 1 + (out.length + 1) / 4 + 600) * 56 ≤ pow48 := hlen3 hlen (by omega)
 refine bsel_of (fun c1 => ?_) fun c1 => ?_
 ·obtain ⟨a, h1, h2⟩ := hd1 c1
  obtain ⟨hiA, e⟩ := List.getElem?_eq_some_iff.1 h1
  refine (hA21.ext f60).ixs rfl rfl hiA fun b o hR => ⟨_, _, _, _, _, hR.all rfl, ?_⟩
  rw [e]
  intro m78 s79 hN
  obtain ⟨x', s', q1, q2, q3, q4, q5⟩ := app_ok (a := a) hso60 hN hbound
  exact ⟨x', s', q1, A.length - (i + 1) + (B.length - k), by omega, i + 1, k, out ++ [a], succ_i (by omega), rfl, by omega, by omega, rfl, q2, fun c hc => f1460.none (q3 c hc) (by simp), f1460.step q4 hgo, q5, by rw [hmg, h2]; simp, by simp; omega⟩
 ·obtain ⟨b', h1, h2⟩ := hd2 c1
  obtain ⟨hkB, e⟩ := List.getElem?_eq_some_iff.1 h1
  refine (hB21.ext f60).ixs rfl rfl hkB fun b o hR => ⟨_, _, _, _, _, hR.all rfl, ?_⟩
  rw [e]
  intro m78 s79 hN
  obtain ⟨x', s', q1, q2, q3, q4, q5⟩ := app_ok (a := b') hso60 hN hbound
  exact ⟨x', s', q1, A.length - i + (B.length - (k + 1)), by omega, i, k + 1, out ++ [b'], rfl, succ_i (by omega), by omega, by omega, rfl, q2, fun c hc => f1460.none (q3 c hc) (by simp), f1460.step q4 hgo, q5, by rw [hmg, h2]; simp, by simp; omega⟩
end
end Go.Eng.S

namespace Go.Eng.S
open Go Go.Eng Go.Proofs
set_option linter.constructorNameAsVariable false
set_option maxRecDepth 4000
noncomputable section
attribute [local irreducible] bsel
def DelL (A B G C : List CallR) : Prop := ∃ la lb, la.Perm A ∧ SortedC la ∧ lb.Perm B ∧ SortedC lb ∧ dl la lb = (G, C)
theorem DelL.unique {A B G C G' C' : List CallR} (h : DelL A B G C) (h' : DelL A B G' C') : G = G' ∧ C = C' := by
 obtain ⟨la, lb, p1, s1, p2, s2, e⟩ := h
 obtain ⟨la', lb', p1', s1', p2', s2', e'⟩ := h'
 have h1 : la = la' := sort_unique (p1.trans p1'.symm) s1 s1'
 have h2 : lb = lb' := sort_unique (p2.trans p2'.symm) s2 s2'
 subst h1; subst h2
 rw [e] at e'
 exact ⟨(Prod.mk.inj e').1, (Prod.mk.inj e').2⟩
theorem DelL.exist (A B : List CallR) : ∃ G C, DelL A B G C := by
 obtain ⟨la, p1, s1⟩ := exists_sorted A
 obtain ⟨lb, p2, s2⟩ := exists_sorted B
 exact ⟨_, _, la, lb, p1, s1, p2, s2, rfl⟩
theorem dl_len : ∀ (n : Nat) (A B : List CallR), A.length + B.length = n → (dl A B).1.length ≤ A.length ∧ (dl A B).2.length ≤ B.length := by
 intro n
 induction n using Nat.strongRecOn with
 | _ n ih =>
  intro A B hn
  cases A with
  | nil => simp [dl]
  | cons a A =>
   cases B with
   | nil => rw [dl_nil]; simp
   | cons b B =>
    rw [dl]
    split
    ·have := ih _ (by simp at hn ⊢; omega) A (b :: B) rfl
     simp at this ⊢; omega
    ·split
     ·have := ih _ (by simp at hn ⊢; omega) (a :: A) B rfl
      simp at this ⊢; omega
     ·have := ih _ (by simp at hn ⊢; omega) A B rfl
      simp; omega
theorem DelL.len {A B G C : List CallR} (h : DelL A B G C) : G.length ≤ A.length ∧ C.length ≤ B.length := by
 obtain ⟨la, lb, p1, _, p2, _, e⟩ := h
 have := dl_len _ la lb rfl
 rw [e, p1.length_eq, p2.length_eq] at this
 exact this
set_option maxHeartbeats 2000000 in
theorem RDelta_ok {s : St} {x y : AV} {A0 B0 : List CallR} (hx : Sl callE s x A0) (hy : Sl callE s y B0) (cx : A0 ≠ [] → CutS x) (cy : B0 ≠ [] → CutS y) (hA0 : (A0.length + 1 + (A0.length + 1) / 4 + 600) * 56 ≤ pow48) (hB0 : (B0.length + 1 + (B0.length + 1) / 4 + 600) * 56 ≤ pow48) :
  CallsA P F.spoorref14_Delta [x, y] s fun v s' => ((∃ g c G C, v = .tuple [g, c] ∧ Sl callE s' g G ∧ Sl callE s' c C ∧ DelL A0 B0 G C) ∧ Frw [] s s') ∧ Fr s' := by
 refine CallsA.of fun hfr => vc.spoorref14_Delta_ok ((sorted_ok _ rfl hx cx hA0).mono ?_)
 rintro v1 s2 ⟨⟨⟨A, pA, sA, hA⟩, f2⟩, hfr2⟩
 refine ⟨v1, rfl, (sorted_ok _ rfl (hy.ext f2) cy hB0).mono ?_⟩
 rintro v2 s5 ⟨⟨⟨B, pB, sB, hB⟩, f5⟩, hfr5⟩
 refine ⟨v2, rfl, ?_⟩
 have hA5 := hA.ext f5
 have lA := pA.length_eq
 have lB := pB.length_eq
 have f05 := f2.trans f5
 have hA9 : A.length < 4611686018427387904 := by rw [lA]; unfold pow48 at hA0; omega
 have hB9 : B.length < 4611686018427387904 := by rw [lB]; unfold pow48 at hB0; omega
 refine ⟨fun x9 x10 n11 n12 s m => ∃ (i k : Nat) (G C : List CallR), n11 = i ∧ n12 = k ∧ i ≤ A.length ∧ k ≤ B.length ∧ m = A.length - i + (B.length - k) ∧ (So callE s x9 G ∧ So callE s x10 C ∧ (∀ c, c ∈ blkOf x9 → s5.h.get c = none) ∧ (∀ c, c ∈ blkOf x10 → s5.h.get c = none) ∧ Apart x9 x10) ∧ Frw [] s5 s ∧ Fr s ∧ dl A B = (G ++ (dl (A.drop i) (B.drop k)).1, C ++ (dl (A.drop i) (B.drop k)).2) ∧ G.length ≤ i ∧ C.length ≤ k,
  ⟨_, 0, 0, [], [], rfl, rfl, by omega, by omega, rfl, ⟨.nil _ _, .nil _ _, by simp [blkOf], by simp [blkOf], by intro c hc; simp [blkOf] at hc⟩, .refl _ _, hfr5, by simp, by simp, by simp⟩, ?_⟩
 rintro x9 x10 _ _ s13 m14 ⟨i, k, G, C, rfl, rfl, hi, hk, hm, ⟨hg, hc, gb, cb, hap⟩, f13, hfr13, hdl, hGl, hCl⟩
 have hA13 := hA5.ext f13
 have hB13 := hB.ext f13
 refine ⟨fun s _ => s13 = s ∧ (i < A.length ∨ k < B.length), ⟨fun c s _ => s13 = s ∧ (c = true ↔ (i < A.length ∨ k < B.length)), ?_, ?_⟩, ?_⟩
 ·refine hA13.slen (bsel_of (fun c => ⟨0, rfl, ?_⟩) fun c => hB13.slen ⟨0, rfl, ?_⟩)
  ·have := of_decide_eq_true c
   exact ⟨fun _ => .inl (by omega), fun _ => rfl⟩
  ·have := of_decide_eq_false c
   rw [decide_eq_true_iff]
   omega
 ·rintro c _ _ ⟨rfl, hcc⟩
  refine bsel_of (fun c1 => ⟨0, rfl, hcc.1 c1⟩) fun c1 => ?_
  have hno : ¬ (i < A.length ∨ k < B.length) := fun h => by rw [hcc.2 h] at c1; simp at c1
  have e1 : A.drop i = [] := List.drop_eq_nil_of_le (by omega)
  have e2 : B.drop k = [] := List.drop_eq_nil_of_le (by omega)
  rw [e1, e2, dl_nil, List.append_nil, List.append_nil] at hdl
  exact ⟨⟨x9, x10, G, C, rfl, hg.sl, hc.sl, A, B, pA, sA, pB, sB, hdl⟩, f05.trans f13⟩
 rintro s25 _ ⟨hs25, hany⟩
 subst hs25
 refine ⟨fun n1 n2 s _ => n1 = i ∧ n2 = k ∧ Frw [] s13 s ∧ Fr s ∧ ∀ a b, A[i]? = some a → B[k]? = some b → a ≠ b, ⟨fun c s _ => Frw [] s13 s ∧ Fr s ∧ (c = true ↔ ∃ a, A[i]? = some a ∧ B[k]? = some a), ?_, ?_⟩, ?_⟩
 ·intro s29 hBu
  have hA29 := hA13.ext hBu.fwd
  have hB29 := hB13.ext hBu.fwd
  refine hA29.slen (bsel_of (fun c => hB29.slen (bsel_of (fun c2 => ?_) fun c2 => ⟨0, hBu.fwd, hBu.fr, ?_⟩)) fun c => ⟨0, hBu.fwd, hBu.fr, ?_⟩)
  ·have c : i < A.length := by have := of_decide_eq_true c; omega
   have c2 : k < B.length := by have := of_decide_eq_true c2; omega
   refine hA29.ixs rfl rfl c fun b o hR => ⟨_, _, _, _, _, hR.all rfl, hB29.ixs rfl rfl c2 fun b o hR => ⟨_, _, _, _, _, hR.all rfl, 0, hBu.fwd, hBu.fr, ?_⟩⟩
   rw [if_pos rfl, callEq_iff, List.getElem?_eq_getElem c, List.getElem?_eq_getElem c2]
   constructor
   ·intro h; exact ⟨_, rfl, by rw [h]⟩
   ·rintro ⟨a, h1, h2⟩
    simp only [Option.some.injEq] at h1 h2
    rw [h1, h2]
  ·have := of_decide_eq_false c2
   refine ⟨fun h => by simp at h, ?_⟩
   rintro ⟨a, h1, h2⟩
   have := (List.getElem?_eq_some_iff.1 h2).1
   omega
  ·have := of_decide_eq_false c
   refine ⟨fun h => by simp at h, ?_⟩
   rintro ⟨a, h1, h2⟩
   have := (List.getElem?_eq_some_iff.1 h1).1
   omega
 ·rintro c s50 _ ⟨f50, hfr50, hcc⟩
  refine bsel_of (fun c1 => ?_) fun c1 => ⟨0, rfl, rfl, f50, hfr50, fun a b h1 h2 e => ?_⟩
  ·obtain ⟨a, h1, h2⟩ := hcc.1 c1
   have hiA := (List.getElem?_eq_some_iff.1 h1).1
   have hkB := (List.getElem?_eq_some_iff.1 h2).1
   refine ⟨A.length - (i + 1) + (B.length - (k + 1)), by omega, i + 1, k + 1, G, C, succ_i (by omega), succ_i (by omega), by omega, by omega, rfl, ⟨hg.ext f50, hc.ext f50, gb, cb, hap⟩, f13.trans f50, hfr50, ?_, by omega, by omega⟩
   rw [hdl, drop_some h1, drop_some h2, dl_both]
  ·rw [hcc.2 ⟨a, h1, by rw [e]; exact h2⟩] at c1
   simp at c1
 rintro _ _ s56 _ ⟨rfl, rfl, f56, hfr56, hne⟩
 refine ⟨fun c s _ => Frw [] s13 s ∧ Fr s ∧ (c = true ↔ ∃ a b, A[i]? = some a ∧ B[k]? = some b ∧ cmpCall a b < 0), ?_, ?_⟩
 ·intro s59 hBu
  have f59 := f56.trans hBu.fwd
  have hA59 := hA13.ext f59
  have hB59 := hB13.ext f59
  refine hA59.slen (bsel_of (fun c => hB59.slen (bsel_of (fun c2 => ?_) fun c2 => ⟨0, f59, hBu.fr, ?_⟩)) fun c => ⟨0, f59, hBu.fr, ?_⟩)
  ·have c : i < A.length := by have := of_decide_eq_true c; omega
   have c2 : k < B.length := by have := of_decide_eq_true c2; omega
   refine hA59.ixs rfl rfl c fun b o hR => ⟨_, _, _, _, _, hR.all rfl, hB59.ixs rfl rfl c2 fun b o hR => ⟨_, _, _, _, _, hR.all rfl, (RLess_ok A[i] B[k] s59).mono ?_⟩⟩
   rintro _ _ ⟨rfl, rfl⟩
   refine ⟨_, rfl, 0, f59, hBu.fr, ?_⟩
   rw [decide_eq_true_iff]
   refine ⟨fun h => ⟨_, _, List.getElem?_eq_getElem c, List.getElem?_eq_getElem c2, h⟩, ?_⟩
   rintro ⟨a, b, h1, h2, h3⟩
   rw [List.getElem?_eq_getElem c] at h1
   rw [List.getElem?_eq_getElem c2] at h2
   simp only [Option.some.injEq] at h1 h2
   rw [h1, h2]; exact h3
  ·have := of_decide_eq_false c2
   refine ⟨fun h => by simp at h, ?_⟩
   rintro ⟨a, b, h1, h2, h3⟩
   have := (List.getElem?_eq_some_iff.1 h2).1
   omega
  ·have := of_decide_eq_false c
   refine ⟨fun h => by simp at h, ?_⟩
   rintro ⟨a, b, h1, h2, h3⟩
   have := (List.getElem?_eq_some_iff.1 h1).1
   omega
 rintro c s83 _ ⟨f83, hfr83, hcc⟩
 refine ⟨fun d s _ => s83 = s ∧ (d = true → ∃ a, A[i]? = some a ∧ dl (A.drop i) (B.drop k) = (a :: (dl (A.drop (i + 1)) (B.drop k)).1, (dl (A.drop (i + 1)) (B.drop k)).2)) ∧ (d = false → ∃ b, B[k]? = some b ∧ dl (A.drop i) (B.drop k) = ((dl (A.drop i) (B.drop (k + 1))).1, b :: (dl (A.drop i) (B.drop (k + 1))).2)), ?_, ?_⟩
 ·refine (hB13.ext f83).slen (bsel_of (fun c1 => ⟨0, rfl, fun _ => ?_, fun h => by simp at h⟩) fun c1 => ⟨0, rfl, fun h => ?_, fun h => ?_⟩)
  ·have c1 : k = B.length := by simp at c1; omega
   have hiA : i < A.length := by omega
   refine ⟨A[i], List.getElem?_eq_getElem hiA, ?_⟩
   rw [show B.drop k = [] from List.drop_eq_nil_of_le (by omega), drop_some (List.getElem?_eq_getElem hiA), dl_gone0]
  ·obtain ⟨a, b, h1, h2, h3⟩ := hcc.1 h
   refine ⟨a, h1, ?_⟩
   rw [drop_some h1, drop_some h2, dl_gone h3]
  ·have c1 : k ≠ B.length := by simp at c1; omega
   have hkB : k < B.length := by omega
   refine ⟨B[k], List.getElem?_eq_getElem hkB, ?_⟩
   rw [drop_some (List.getElem?_eq_getElem hkB)]
   cases e : A[i]? with
   | none =>
    have : A.drop i = [] := List.drop_eq_nil_of_le (List.getElem?_eq_none_iff.1 e)
    rw [this, dl_come0]
   | some a =>
    rw [drop_some e]
    refine dl_come ?_
    have n1 : ¬ cmpCall a B[k] < 0 := fun hlt => by
     rw [hcc.2 ⟨a, _, e, List.getElem?_eq_getElem hkB, hlt⟩] at h
     simp at h
    have n2 : ¬ cmpCall a B[k] = 0 := fun h0 => hne a B[k] e (List.getElem?_eq_getElem hkB) ((cmpCall_zero _ _).1 h0)
    omega
 rintro d s90 _ ⟨hs90, hd1, hd2⟩
 subst hs90
 have f583 := f13.trans f83
 have hg83 := hg.ext f83
 have hc83 := hc.ext f83
 refine bsel_of (fun c1 => ?_) fun c1 => ?_
 ·obtain ⟨a, h1, h2⟩ := hd1 c1
  obtain ⟨hiA, e⟩ := List.getElem?_eq_some_iff.1 h1
  refine (hA13.ext f83).ixs rfl rfl hiA fun b o hR => ⟨_, _, _, _, _, hR.all rfl, ?_⟩
  rw [e]
  intro m99 s100 hN
  obtain ⟨x', s', q1, q2, q3, q4, q5⟩ := app_ok (a := a) hg83 hN (hlen3 hA0 (by omega))
  refine ⟨x', s', q1, A.length - (i + 1) + (B.length - k), by omega, i + 1, k, G ++ [a], C, succ_i (by omega), rfl, by omega, by omega, rfl, ⟨q2, hc83.beside q4 (fun c hc' hx => hap c hc' hx), fun c hc' => f583.none (q3 c hc') (by simp), cb, fun c hc' hx => ?_⟩, f583.step q4 gb, q5, ?_, by simp; omega, by omega⟩
  ·exact hc83.there c hx (q3 c hc')
  ·rw [hdl, h2]; simp
 ·obtain ⟨b', h1, h2⟩ := hd2 c1
  obtain ⟨hkB, e⟩ := List.getElem?_eq_some_iff.1 h1
  refine (hB13.ext f83).ixs rfl rfl hkB fun b o hR => ⟨_, _, _, _, _, hR.all rfl, ?_⟩
  rw [e]
  intro m99 s100 hN
  obtain ⟨x', s', q1, q2, q3, q4, q5⟩ := app_ok (a := b') hc83 hN (hlen3 hB0 (by omega))
  refine ⟨x', s', q1, A.length - i + (B.length - (k + 1)), by omega, i, k + 1, G, C ++ [b'], rfl, succ_i (by omega), by omega, by omega, rfl, ⟨hg83.beside q4 (fun c hc' hx => hap c hx hc'), q2, gb, fun c hc' => f583.none (q3 c hc') (by simp), fun c hc' hx => ?_⟩, f583.step q4 cb, q5, ?_, by omega, by simp; omega⟩
  ·exact hg83.there c hc' (q3 c hx)
  ·rw [hdl, h2]; simp
theorem callF_flat (a : CallR) (x : AV) (h : x ∈ callE.f a) : flatV x = true := by
 simp only [callE, callF, List.mem_cons, List.not_mem_nil, or_false] at h
 rcases h with rfl | rfl | rfl | rfl | rfl <;> rfl
theorem Delta_okD {s : St} {x y : AV} {A B : List CallR} (hx : Sl callE s x A) (hy : Sl callE s y B) (hcl : ∀ b, b ∈ blkOf x ++ blkOf y → ∀ o, s.h.get b = some o → ClO o) (hA : (A.length + 1 + (A.length + 1) / 4 + 600) * 56 ≤ pow48) (hB : (B.length + 1 + (B.length + 1) / 4 + 600) * 56 ≤ pow48) :
  CallsD P F.calls_Delta [x, y] s fun v s' => ∃ g c G C, v = .tuple [g, c] ∧ SoN callE s' g G ∧ SoN callE s' c C ∧ (∀ d, d ∈ blkOf g ∨ d ∈ blkOf c → s.h.get d = none) ∧ Apart g c ∧ DelL A B G C ∧ Frw [] s s' ∧ Fr s' := by
 refine CallsD.fr fun hf => ?_
 obtain ⟨G0, C0, hD0⟩ := DelL.exist A B
 refine CallsD.canon (s0 := twoS callE s G0 C0) (v0 := twoV s G0.length C0.length) (hR := hpO s.h (blkOf x ++ blkOf y)) (fun b o hb => ?_) (Delta_okF (hx.alone fun c hc => List.mem_append.2 (.inl hc)) (hy.alone fun c hc => List.mem_append.2 (.inr hc)) hA hB) (fun v1 s1 hq => ?_) (fun hf => twoS_gro hf) fun hf => ⟨_, _, G0, C0, rfl, twoS_so.1, twoS_so.2, fun d hd => ?_, fun d hd hd' => ?_, hD0, twoS_frw hf, twoS_fr hf⟩
 ·obtain ⟨h1, h2⟩ := hpO_some hb
  exact ⟨h2, hcl b h1 o h2⟩
 ·obtain ⟨g, c, G, C, rfl, h1, h2, h3, h4, h5, _, _, h6, _⟩ := hq
  obtain ⟨rfl, rfl⟩ := hD0.unique h5
  exact iso_two callF_flat hf h1 h2 h6 h3 h4
 ·rcases hd with hd | hd
  ·rw [lV_blk hd]; exact hf _ (Nat.le_refl _)
  ·rw [lV_blk hd]; exact hf _ (by omega)
 ·have h1 := lV_blk hd
  have h2 := lV_blk hd'
  omega
end
end Go.Eng.S

namespace Go.Eng.S
open Go Go.Eng Go.Proofs
set_option linter.constructorNameAsVariable false
set_option maxRecDepth 4000
noncomputable section
attribute [local irreducible] bsel
structure Outs (s0 s : St) (L : List (AV × List CallR)) : Prop where
 so : ∀ p, p ∈ L → So callE s p.1 p.2
 ap : L.Pairwise fun p q => Apart p.1 q.1
 old : ∀ p, p ∈ L → ∀ c, c ∈ blkOf p.1 → s0.h.get c = none
theorem Outs.fwd {s0 s s' : St} {L : List (AV × List CallR)} {M : List Nat} (h : Outs s0 s L) (hf : Frw M s s') (hM : ∀ c, c ∈ M → s0.h.get c ≠ none) : Outs s0 s' L :=
 ⟨fun p hp => (h.so p hp).beside hf fun c hc hb => hM c hc (h.old p hp c hb), h.ap, h.old⟩
theorem Outs.ext {s0 s s' : St} {L : List (AV × List CallR)} (h : Outs s0 s L) (hf : Frw [] s s') : Outs s0 s' L := h.fwd hf (by simp)
theorem Outs.add {s0 s s' : St} {L : List (AV × List CallR)} {g c : AV} {G C : List CallR} (h : Outs s0 s L) (h0 : ∀ d, s.h.get d = none → s0.h.get d = none) (hf : Frw [] s s') (hg : So callE s' g G) (hc : So callE s' c C) (hn : ∀ d, d ∈ blkOf g ∨ d ∈ blkOf c → s.h.get d = none) (hap : Apart g c) : Outs s0 s' (L ++ [(g, G), (c, C)]) := by
 refine ⟨fun p hp => ?_, List.pairwise_append.2 ⟨h.ap, by simpa using hap, fun p hp q hq d hd hd' => ?_⟩, fun p hp d hd => ?_⟩
 ·rcases List.mem_append.1 hp with hp | hp
  ·exact (h.so p hp).ext hf
  ·simp only [List.mem_cons, List.not_mem_nil, or_false] at hp
   rcases hp with rfl | rfl
   ·exact hg
   ·exact hc
 ·have h1 := (h.so p hp).there d hd
  simp only [List.mem_cons, List.not_mem_nil, or_false] at hq
  rcases hq with rfl | rfl
  ·exact h1 (hn d (.inl hd'))
  ·exact h1 (hn d (.inr hd'))
 ·rcases List.mem_append.1 hp with hp | hp
  ·exact h.old p hp d hd
  ·simp only [List.mem_cons, List.not_mem_nil, or_false] at hp
   rcases hp with rfl | rfl
   ·exact h0 d (hn d (.inl hd))
   ·exact h0 d (hn d (.inr hd))
theorem Outs.own {s0 s s1 : St} {L : List (AV × List CallR)} {m k N : Nat} (h : Outs s0 s L) (hN : NewO s (cellsO (L.map (·.1))) m s1) (hk : k = L.length) (hL : ∀ p, p ∈ L → p.2.length + 80 ≤ N) (hb : (N + 1 + (N + 1) / 4 + 600) * 56 ≤ pow48) (hs : L.length ≤ 100000) (h80 : 80 ≤ N) :
  CallsA P F.spoorlaw14_ownCalls [.slice m 0 k (.exact k)] s1 fun v _ => v = .bool true := by
 subst hk
 have hget : ∀ {j : Nat} {x : AV}, (L.map (·.1))[j]? = some x → ∃ p, L[j]? = some p ∧ p.1 = x := fun {j x} hx => by
  rw [List.getElem?_map] at hx
  obtain ⟨p, h1, h2⟩ := Option.map_eq_some_iff.1 hx
  exact ⟨p, h1, h2⟩
 have hso : ∀ {j : Nat} {p : AV × List CallR}, L[j]? = some p → So callE s1 p.1 p.2 := fun hp => (h.so _ (List.mem_of_getElem? hp)).ext hN.fwd
 refine ownCalls_ok (L := L.map (·.1)) (ns := fun j => ((L[j]?).map (·.2.length)).getD 0) (N := N) (.inr ⟨m, 0, _, _, rfl, by rw [avE_flat, List.length_map]; exact (Nat.mul_one _).symm, by rw [avE_flat]; exact hN.own.rd⟩) (fun j x hx => ?_) (fun i j x y hx hy hij c hc hd => ?_) (fun i x hx c hc hd => ?_) (fun j => ?_) hb (by rw [List.length_map]; exact hs)
 ·obtain ⟨p, h1, rfl⟩ := hget hx
  simp only [h1, Option.map_some, Option.getD_some]
  exact (hso h1).mkP _
 ·obtain ⟨p, h1, rfl⟩ := hget hx
  obtain ⟨q, h2, rfl⟩ := hget hy
  obtain ⟨i1, e1⟩ := List.getElem?_eq_some_iff.1 h1
  obtain ⟨j1, e2⟩ := List.getElem?_eq_some_iff.1 h2
  have hp := List.pairwise_iff_getElem.1 h.ap
  rcases Nat.lt_or_ge i j with hlt | hge
  ·have := hp i j i1 j1 hlt
   rw [e1, e2] at this
   exact this c hc hd
  ·have := hp j i j1 i1 (by omega)
   rw [e1, e2] at this
   exact this c hd hc
 ·obtain ⟨p, h1, rfl⟩ := hget hx
  have := (h.so _ (List.mem_of_getElem? h1)).there c hc
  have e : c = m := by simpa [blkOf] using hd
  rw [e] at this
  exact this hN.gone
 ·cases e : L[j]? with
  | none => simpa using h80
  | some p =>
   have := hL p (List.mem_of_getElem? e)
   simpa using this
theorem cutL {n : Nat} {b : Nat} : sliceV 5 (.slice b 0 (n + 4) (.exact (n + 4))) none (some (.int .i64 (n : Int))) none = some (.slice b 0 n (.exact (n + 4))) := by
 have e1 : sliceV 5 (.slice b 0 (n + 4) (.exact (n + 4))) none (some (.int .i64 (n : Int))) none = sliceEx 5 b 0 (n + 4) 0 n (n + 4) := by
  simp [sliceV, optInt, sliceSl]
 have b1 : Nat.ble 0 n = true := by rw [Nat.ble_eq]; omega
 have b2 : Nat.ble n (n + 4) = true := by rw [Nat.ble_eq]; omega
 have b3 : Nat.ble (n + 4) (n + 4) = true := by rw [Nat.ble_eq]; omega
 rw [e1]
 simp only [sliceEx, b1, b2, b3, Bool.and_self, if_true]
 rfl
theorem cutS {s : St} {b n : Nat} {M A : List CallR} (h : Own s b (M.flatMap callE.f)) (hn : n ≤ M.length) (hA : M.take n = A) : Sl callE s (.slice b 0 n (.exact (n + 4))) A := by
 subst hA
 have hl : ((M.take n).flatMap callE.f).length = n * callE.z := by rw [callE.flat_len, List.length_take, Nat.min_eq_left hn]
 obtain ⟨c, h1, h2⟩ := h
 rw [callE.flat_len] at h1 h2
 have hm : n * callE.z ≤ M.length * callE.z := Nat.mul_le_mul_right _ hn
 refine .inr ⟨b, 0, n, _, rfl, hl, c, _, _, h1, by rw [hl]; omega, ?_⟩
 rw [hl, callE.flat_take hn]
 have := getAll_part h2 0 (n * callE.z) (by omega)
 simpa using this
theorem own_cl {s : St} {b : Nat} {M : List CallR} (h : Own s b (M.flatMap callE.f)) : ∀ o, s.h.get b = some o → ClO o := by
 obtain ⟨c, h1, h2⟩ := h
 intro o ho
 rw [h1] at ho
 simp only [Option.some.injEq] at ho
 subst ho
 intro i a hi ha
 obtain ⟨_, hg⟩ := PT.getAll_spec _ c 0 _ h2
 have := hg i hi
 rw [Nat.zero_add, ha] at this
 obtain ⟨q, _, hq⟩ := List.mem_flatMap.1 (List.mem_of_getElem? this.symm)
 have := callF_flat q a hq
 cases a <;> simp [flatV] at this <;> rfl
theorem delta_lent {s : St} {bx b2 n m : Nat} {MA MB A B : List CallR} (ox : Own s bx (MA.flatMap callE.f)) (oy : Own s b2 (MB.flatMap callE.f)) (hn : n ≤ MA.length) (hm : m ≤ MB.length) (eA : MA.take n = A) (eB : MB.take m = B)
  (hA : (A.length + 1 + (A.length + 1) / 4 + 600) * 56 ≤ pow48) (hB : (B.length + 1 + (B.length + 1) / 4 + 600) * 56 ≤ pow48) :
  CallsD P F.calls_Delta [.slice bx 0 n (.exact (n + 4)), .slice b2 0 m (.exact (m + 4))] s fun v s' => ∃ g c G C, v = .tuple [g, c] ∧ So callE s' g G ∧ So callE s' c C ∧ (∀ d, d ∈ blkOf g ∨ d ∈ blkOf c → s.h.get d = none) ∧ Apart g c ∧ DelL A B G C ∧ Frw [] s s' ∧ Fr s' := by
 refine (Delta_okD (cutS ox hn eA) (cutS oy hm eB) (fun b hb => ?_) hA hB).mono ?_
 ·simp only [blkOf, List.cons_append, List.nil_append, List.mem_cons, List.not_mem_nil, or_false] at hb
  rcases hb with rfl | rfl
  ·exact own_cl ox
  ·exact own_cl oy
 ·rintro v s' ⟨g, c, G, C, e, h1, h2, h3⟩
  exact ⟨g, c, G, C, e, h1.1, h2.1, h3⟩
theorem take_lent (l : List CallR) : (lentL l).take l.length = l := by simp [lentL]
theorem same2 {s : St} {a b c d : AV} {G C : List CallR} {K : Bool → St → Nat → Prop} (ha : Sl callE s a G) (hb : Sl callE s b G) (hc : Sl callE s c C) (hd : Sl callE s d C) (hG : G.length < 4611686018427387904) (hC : C.length < 4611686018427387904) (hK : ∀ s', Frw [] s s' → Fr s' → K true s' 0) :
  CallsA P F.spoorlaw14_sameCalls [a, b] s fun x46 s47 => ∃ (c48 : Bool), (x46 = AV.bool c48) ∧ bsel c48 (CallsA P F.spoorlaw14_sameCalls [c, d] s47 fun x49 s50 => ∃ (c51 : Bool), (x49 = AV.bool c51) ∧ ∃ (m52 : Nat), K c51 s50 m52) (∃ (m53 : Nat), K false s47 m53) := by
 refine (sameCalls_ok ha hb hG).mono ?_
 rintro _ s47 ⟨⟨rfl, f47⟩, hfr47⟩
 refine ⟨true, rfl, bsel_of (fun _ => (sameCalls_ok (hc.ext f47) (hd.ext f47) hC).mono ?_) fun c => by simp at c⟩
 rintro _ s50 ⟨⟨rfl, f50⟩, hfr50⟩
 exact ⟨true, rfl, 0, hK _ (f47.trans f50) hfr50⟩
def xorC (c : CallR) : CallR := { c with took := IntKind.wrap .u64 (((BitVec.toNat ((BitVec.ofInt 64 c.took) ^^^ (BitVec.ofInt 64 1))) : Nat) : Int) }
set_option maxHeartbeats 4000000 in
theorem CallsDelta_ok {s : St} {x y : AV} {A B : List CallR} (hx : Sl callE s x A) (hy : Sl callE s y B) (cx : A ≠ [] → CutS x) (cy : B ≠ [] → CutS y) (hA : (A.length + 100 + (A.length + 100) / 4 + 600) * 56 ≤ pow48) (hB : (B.length + 100 + (B.length + 100) / 4 + 600) * 56 ≤ pow48) :
  CallsA P F.spoorlaw14_CallsDelta [x, y] s fun v _ => v = .bool true := by
 have hA1 : (A.length + 1 + (A.length + 1) / 4 + 600) * 56 ≤ pow48 := Nat.le_trans (Nat.mul_le_mul_right 56 (by omega)) hA
 have hB1 : (B.length + 1 + (B.length + 1) / 4 + 600) * 56 ≤ pow48 := Nat.le_trans (Nat.mul_le_mul_right 56 (by omega)) hB
 have hA4 : (A.length + 4) * 56 ≤ pow48 := Nat.le_trans (Nat.mul_le_mul_right 56 (by omega)) hA
 have hB4 : (B.length + 4) * 56 ≤ pow48 := Nat.le_trans (Nat.mul_le_mul_right 56 (by omega)) hB
 have hA9 : A.length < 1000000000000000 := by unfold pow48 at hA4; omega
 have hB9 : B.length < 1000000000000000 := by unfold pow48 at hB4; omega
 have few : ∀ {G : List CallR} {A : List CallR}, G.length ≤ A.length → A.length < 1000000000000000 → G.length < 4611686018427387904 := fun h1 h2 => by omega
 refine vc.spoorlaw14_CallsDelta_ok ((shown_ok s).mono ?_)
 rintro _ s2 ⟨rfl, rfl⟩
 refine ⟨true, rfl, (lentCalls_ok hx hA4).mono ?_⟩
 rintro _ s5 ⟨⟨bx, rfl, ox, gx, f5⟩, hfr5⟩
 refine ⟨_, rfl, (lentCalls_ok (hy.ext f5) hB4).mono ?_⟩
 rintro _ s8 ⟨⟨b2, rfl, oy, gy, f8⟩, hfr8⟩
 refine ⟨_, rfl, ?_⟩
 intro s10 hB10
 have hne : bx ≠ b2 := fun e => ox.there (by rw [e]; exact gy)
 have f10 : Frw [] s2 s10 := (f5.trans f8).trans hB10.fwd
 have ox := (ox.ext f8).ext hB10.fwd
 have oy := oy.ext hB10.fwd
 have bx0 := ox.there
 have lA : A.length ≤ (lentL A).length := by rw [lentL_len]; omega
 have lB : B.length ≤ (lentL B).length := by rw [lentL_len]; omega
 have O0 : Outs s10 s10 [] := ⟨by simp, .nil, by simp⟩
 refine hx.slen (tkV cutL (hy.slen (tkV cutL ((delta_lent ox oy lA lB (take_lent A) (take_lent B) hA1 hB1).mono ?_))))
 rintro _ s16 ⟨z1, z2, G, C, rfl, g1, g2, gn, ga, gd, f16, hfr16⟩
 have O1 := O0.add (fun _ h => h) f16 g1 g2 gn ga
 refine ⟨z1, z2, rfl, ?_⟩
 intro s19 hB19
 have f19 := f16.trans hB19.fwd
 have O1 := O1.ext hB19.fwd
 refine hx.slen (tkV cutL (hy.slen (tkV cutL ((delta_lent (ox.ext f19) (oy.ext f19) lA lB (take_lent A) (take_lent B) hA1 hB1).mono ?_))))
 rintro _ s25 ⟨z3, z4, G3, C3, rfl, g3, g4, gn3, ga3, gd3, f25, hfr25⟩
 have O2 := O1.add (fun _ h => f19.none h (by simp)) f25 g3 g4 gn3 ga3
 obtain ⟨rfl, rfl⟩ := gd.unique gd3
 refine ⟨z3, z4, rfl, ?_⟩
 intro s28 hB28
 have f28 := (f19.trans f25).trans hB28.fwd
 have O2 := O2.ext hB28.fwd
 refine hy.slen (tkV cutL (hx.slen (tkV cutL ((delta_lent (oy.ext f28) (ox.ext f28) lB lA (take_lent B) (take_lent A) hB1 hA1).mono ?_))))
 rintro _ s34 ⟨z5, z6, G5, C5, rfl, g5, g6, gn5, ga5, gd5, f34, hfr34⟩
 have O3 := O2.add (fun _ h => f28.none h (by simp)) f34 g5 g6 gn5 ga5
 refine ⟨z5, z6, rfl, ?_⟩
 have f34' := f28.trans f34
 refine (RDelta_ok (hx.ext (f10.trans f34')) (hy.ext (f10.trans f34')) cx cy hA1 hB1).mono ?_
 rintro _ s38 ⟨⟨⟨w1, w2, G1, C1, rfl, r1, r2, rd⟩, f38⟩, hfr38⟩
 obtain ⟨rfl, rfl⟩ := gd.unique rd
 have O3 := O3.ext f38
 refine ⟨w1, w2, rfl, ?_⟩
 have f38' := f34'.trans f38
 refine (RDelta_ok (hy.ext (f10.trans f38')) (hx.ext (f10.trans f38')) cy cx hB1 hA1).mono ?_
 rintro _ s42 ⟨⟨⟨w3, w4, G2, C2, rfl, r3, r4, rd2⟩, f42⟩, hfr42⟩
 obtain ⟨rfl, rfl⟩ := gd5.unique rd2
 have O3 := O3.ext f42
 refine ⟨w3, w4, rfl, ?_⟩
 have f42' := f38'.trans f42
 have r1 := r1.ext f42
 have r2 := r2.ext f42
 have lG := gd.len
 have lG5 := gd5.len
 have fG := few lG.1 hA9
 have fC := few lG.2 hB9
 have fG5 := few lG5.1 hB9
 have fC5 := few lG5.2 hA9
 have at' : ∀ {s0 s : St} {L : List (AV × List CallR)} {p : AV × List CallR}, Outs s0 s L → p ∈ L → Sl callE s p.1 p.2 := fun h hp => (h.so _ hp).sl
 refine ⟨fun c s _ => c = true ∧ Frw [] s42 s ∧ Fr s, same2 (at' (p := (z1, G)) O3 (by simp)) r1 (at' (p := (z2, C)) O3 (by simp)) r2 fG fC (fun s' h h' => ⟨rfl, h, h'⟩), ?_⟩
 rintro c54 s55 _ ⟨rfl, f55, hfr55⟩
 have O3 := O3.ext f55
 have r1 := r1.ext f55
 have r2 := r2.ext f55
 have r3 := r3.ext f55
 have r4 := r4.ext f55
 refine ⟨fun c s _ => c = true ∧ Frw [] s55 s ∧ Fr s, same2 (at' (p := (z3, G)) O3 (by simp)) r1 (at' (p := (z4, C)) O3 (by simp)) r2 fG fC (fun s' h h' => ⟨rfl, h, h'⟩), ?_⟩
 rintro c66 s67 _ ⟨rfl, f67, hfr67⟩
 have O3 := O3.ext f67
 have r1 := r1.ext f67
 have r2 := r2.ext f67
 have r3 := r3.ext f67
 have r4 := r4.ext f67
 refine ⟨fun c s _ => c = true ∧ Frw [] s67 s ∧ Fr s, same2 (at' (p := (z5, G5)) O3 (by simp)) r3 (at' (p := (z6, C5)) O3 (by simp)) r4 fG5 fC5 (fun s' h h' => ⟨rfl, h, h'⟩), ?_⟩
 rintro c78 s79 _ ⟨rfl, f79, hfr79⟩
 intro s81 hB81
 have f81 := f79.trans hB81.fwd
 have O3 := O3.ext f81
 have r1 := r1.ext f81
 have r2 := r2.ext f81
 have f81' := ((f42'.trans f55).trans f67).trans f81
 refine hx.slen (tkV cutL (hy.slen (tkV cutL ((delta_lent (ox.ext f81') (oy.ext f81') lA lB (take_lent A) (take_lent B) hA1 hB1).mono ?_))))
 rintro _ s87 ⟨z7, z8, G7, C7, rfl, g7, g8, gn7, ga7, gd7, f87, hfr87⟩
 have O4 := O3.add (fun _ h => f81'.none h (by simp)) f87 g7 g8 gn7 ga7
 obtain ⟨rfl, rfl⟩ := gd.unique gd7
 refine ⟨z7, z8, rfl, ?_⟩
 refine ⟨fun c s _ => c = true ∧ Frw [] s87 s ∧ Fr s, same2 (at' (p := (z7, G)) O4 (by simp)) (r1.ext f87) (at' (p := (z8, C)) O4 (by simp)) (r2.ext f87) fG fC (fun s' h h' => ⟨rfl, h, h'⟩), ?_⟩
 rintro c99 s100 _ ⟨rfl, f100, hfr100⟩
 have f100' := (f81'.trans f87).trans f100
 have O4 := O4.ext f100
 refine (callsStay_ok (ox.ext f100') rfl (hx.ext (f10.trans f100')) hA9).mono ?_
 rintro _ s103 ⟨⟨rfl, f103⟩, hfr103⟩
 refine ⟨true, rfl, (callsStay_ok ((oy.ext f100').ext f103) rfl ((hy.ext (f10.trans f100')).ext f103) hB9).mono ?_⟩
 rintro _ s106 ⟨⟨rfl, f106⟩, hfr106⟩
 refine ⟨true, rfl, fun s _ => s106 = s, ⟨fun c s _ => c = false ∧ s106 = s, ?_, ?_⟩, ?_⟩
 ·exact bsel_of (fun c => by simp at c) fun _ => bsel_of (fun c => by simp at c) fun _ => bsel_of (fun c => by simp at c) fun _ => bsel_of (fun c => by simp at c) fun _ => bsel_of (fun c => by simp at c) fun _ => bsel_of (fun c => by simp at c) fun _ => ⟨0, rfl, rfl⟩
 ·rintro _ _ _ ⟨rfl, rfl⟩
  exact bsel_of (fun c => by simp at c) fun _ => ⟨0, rfl⟩
 rintro _ _ rfl
 have f106' := (f100'.trans f103).trans f106
 have O4 := O4.ext (f103.trans f106)
 have ox := ox.ext f106'
 have oy := oy.ext f106'
 have hxy : ∀ {z : AV} {Z : List CallR} {s' : St}, Sl callE s2 z Z → Frw [bx] s106 s' → Sl callE s' z Z := fun hz hf => (hz.ext (f10.trans f106')).beside hf fun c hc => .inr fun hcz => by
  have hc : c = bx := by simpa using hc
  rw [hc] at hcz
  exact sl_there hz _ hcz gx
 refine ⟨fun n s m => ∃ (i : Nat) (M : List CallR), n = i ∧ i ≤ A.length ∧ m = A.length - i ∧ M.length = A.length + 4 ∧ (∀ j, M[j]? = if j < i then (A[j]?).map xorC else (lentL A)[j]?) ∧ Own s bx (M.flatMap callE.f) ∧ Frw [bx] s106 s ∧ Fr s,
  ⟨_, 0, lentL A, rfl, by omega, rfl, lentL_len A, fun j => by rw [if_neg (by omega)], ox, .refl _ _, hfr106⟩, ?_⟩
 rintro _ s126 m127 ⟨i, M, rfl, hi, hm, hM, hMj, oM, f126, hfr126⟩
 refine hx.slen (bsel_of (fun c => ?_) fun c => ?_)
 ·have c : i < A.length := by have := of_decide_eq_true c; omega
  have hiM : i < M.length := by omega
  have hMi : M[i] = A[i] := by
   have := hMj i
   rw [if_neg (by omega), lentL_old c, List.getElem?_eq_getElem hiM] at this
   simpa using this
  have hsl : Sl callE s126 (.slice bx 0 (A.length + 4) (.exact (A.length + 4))) M := .inr ⟨bx, 0, _, _, rfl, by rw [callE.flat_len, hM], oM.rd⟩
  refine hsl.ixs rfl rfl hiM fun b o hR => ⟨_, hR.ld1 4 rfl, ?_⟩
  refine ⟨by omega, by omega, ?_⟩
  rw [mulS_eq, Int.toNat_natCast, Nat.zero_add]
  have hlen : (M.flatMap callE.f).length = (A.length + 4) * 5 := by rw [callE.flat_len, hM]; rfl
  obtain ⟨s4, w1, w2, w3, w4, w5, w6⟩ := oM.wrN (i * 5 + 4) [.int .u64 (xorC M[i]).took] rfl (by rw [hlen]; simp; omega)
  refine ⟨s4, w1, A.length - (i + 1), by omega, i + 1, M.set i (xorC M[i]), succ_i (by omega), by omega, rfl, by simp [hM], fun j => ?_, ?_, f126.trans w3, hfr126.wr oM.there w4 w6⟩
  ·by_cases e : j = i
   ·subst e
    rw [List.getElem?_set_self hiM, if_pos (by omega), List.getElem?_eq_getElem c, hMi]; rfl
   ·rw [List.getElem?_set_ne (Ne.symm e), hMj j]
    by_cases h : j < i
    ·rw [if_pos h, if_pos (by omega)]
    ·rw [if_neg h, if_neg (by omega)]
  ·have := callE.flat_set (l := M) (k := i) hiM (j := 4) (vs := [.int .u64 (xorC M[i]).took]) (a := xorC M[i]) (by simp [callE]) rfl
   rw [← this]
   exact w2
 have c : i = A.length := by have := of_decide_eq_false c; omega
 subst c
 have tM : M.take A.length = A.map xorC := List.ext_getElem? fun j => by
  by_cases h : j < A.length
  ·rw [List.getElem?_take_of_lt h, hMj j, if_pos h, List.getElem?_map]
  ·rw [List.getElem?_eq_none (by rw [List.length_take]; omega), List.getElem?_eq_none (by rw [List.length_map]; omega)]
 have lA2 : (A.map xorC).length = A.length := List.length_map _
 have hlM : A.length ≤ M.length := by omega
 intro m136 s137 h137
 have oM := oM.ext h137.fwd
 obtain ⟨x140, s141, q1, q2, q3, q4, q5⟩ := appendAll0 (E := callE) (D := D) (t := T.sl_api_Call) h137.own (cutS oM hlM tM) ty.sl_api_Call rfl ty.api_Call rfl rfl rfl (fun a _ => rfl) (by rw [lA2]; exact hlen2 hA1) (by rw [lA2]; exact Nat.le_trans (by omega) hA1) h137.fr
 refine hx.slen (tkV cutL ⟨x140, s141, q1, ?_⟩)
 have cut140 : A.map xorC ≠ [] → CutS x140 := fun hne => by
  rcases q3 with q3 | q3
  ·exact absurd q3 hne
  ·exact q3.1.cut hne
 intro s142 hB142
 have f142 : Frw [bx] s106 s142 := ((f126.trans (h137.fwd.mono (by simp))).trans (q4.mono (by simp))).trans (hB142.fwd.mono (by simp))
 have oM := (oM.ext q4).ext hB142.fwd
 have O4 := O4.fwd f142 (fun c hc => by
  have hc : c = bx := by simpa using hc
  rw [hc]; exact bx0)
 have oy : Own s142 b2 ((lentL B).flatMap callE.f) := oy.fwd f142 (by simpa using Ne.symm hne)
 refine hx.slen (tkV cutL (hy.slen (tkV cutL ((delta_lent oM oy hlM lB tM (take_lent B) (by rw [lA2]; exact hA1) hB1).mono ?_))))
 rintro _ s148 ⟨z9, z10, G9, C9, rfl, g9, g10, gn9, ga9, gd9, f148, hfr148⟩
 have O5 := O4.add (fun d hd => by
  have hdb : d ≠ bx := fun e => by rw [e] at hd; exact oM.there hd
  exact f106'.none (f142.none hd (by simpa using hdb)) (by simp)) f148 g9 g10 gn9 ga9
 refine ⟨z9, z10, rfl, ?_⟩
 refine (RDelta_ok (q2.ext (hB142.fwd.trans f148)) (hxy hy (f142.trans (f148.mono (by simp)))) cut140 cy (by rw [lA2]; exact hA1) hB1).mono ?_
 rintro _ s152 ⟨⟨⟨w5, w6, G6, C6, rfl, r5, r6, rd6⟩, f152⟩, hfr152⟩
 obtain ⟨rfl, rfl⟩ := gd9.unique rd6
 have O5 := O5.ext f152
 have lG9 := gd9.len
 rw [lA2] at lG9
 refine ⟨w5, w6, rfl, ?_⟩
 refine ⟨fun c s _ => c = true ∧ Frw [] s152 s ∧ Fr s, same2 (at' (p := (z9, G9)) O5 (by simp)) r5 (at' (p := (z10, C9)) O5 (by simp)) r6 (few lG9.1 hA9) (few lG9.2 hB9) (fun s' h h' => ⟨rfl, h, h'⟩), ?_⟩
 rintro c164 s165 _ ⟨rfl, f165, hfr165⟩
 have O5 := O5.ext f165
 refine (at' (p := (z1, G)) O5 (by simp)).one ((at' (p := (z2, C)) O5 (by simp)).one ((at' (p := (z3, G)) O5 (by simp)).one ((at' (p := (z4, C)) O5 (by simp)).one ((at' (p := (z5, G5)) O5 (by simp)).one ((at' (p := (z6, C5)) O5 (by simp)).one ((at' (p := (z7, G)) O5 (by simp)).one ((at' (p := (z8, C)) O5 (by simp)).one ((at' (p := (z9, G9)) O5 (by simp)).one ((at' (p := (z10, C9)) O5 (by simp)).one ?_)))))))))
 intro m167 s168 h168
 refine (O5.own (N := max A.length B.length + 80) h168 rfl (fun p hp => ?_) ?_ (by simp) (by omega)).mono ?_
 ·simp only [List.nil_append, List.cons_append, List.mem_cons, List.not_mem_nil, or_false] at hp
  rcases hp with rfl | rfl | rfl | rfl | rfl | rfl | rfl | rfl | rfl | rfl <;> simp only <;> omega
 ·rcases Nat.le_total A.length B.length with h | h
  ·rw [Nat.max_eq_right h]; exact Nat.le_trans (Nat.mul_le_mul_right 56 (by omega)) hB
  ·rw [Nat.max_eq_left h]; exact Nat.le_trans (Nat.mul_le_mul_right 56 (by omega)) hA
 ·rintro _ s170 rfl
  exact ⟨true, rfl, bsel_of (fun _ => rfl) fun c => by simp at c⟩
end
end Go.Eng.S

namespace Go.Eng.S
open Go Go.Eng Go.Proofs
set_option linter.constructorNameAsVariable false
noncomputable section
theorem calls_readC {H : Type} {enc : TypeId × Value → H} {w : World} {base : Nat} {held : Bool} {fuel : Nat} {v : Value} {x : DataW H × List MemPlace} (h : DataW.trod enc P w base (fun _ => true) held fuel T.sl_api_Call [v] = some x) :
  ∃ (a : AV) (l : List CallR), absV w.heap.size v = some a ∧ Sl callE (stW w) a l ∧ (l ≠ [] → CutS a) ∧ l.length ≤ slcLen x.1 := by
 obtain ⟨a, l, h1, h2, _, h4⟩ := calls_read h
 exact ⟨a, l, h1, h2, fun hl => (absV_arg h1 h2.len).cut h2.len (List.length_pos_iff.2 hl), h4⟩
theorem CallsDelta_walk {H : Type} {enc : TypeId × Value → H} {w : World} {base : Nat} {held : Bool} {f0 f1 : Nat} {v0 v1 : Value} {x0 x1 : DataW H × List MemPlace} (h0 : DataW.trod enc P w base (fun _ => true) held f0 T.sl_api_Call [v0] = some x0) (h1 : DataW.trod enc P w base (fun _ => true) held f1 T.sl_api_Call [v1] = some x1)
  (hs0 : slcLen x0.1 * 56 ≤ 140737488351232) (hs1 : slcLen x1.1 * 56 ≤ 140737488351232) :
  Calls P F.spoorlaw14_CallsDelta #[v0, v1] w fun e w' => e = .returned (.bool true) ∧ Kept w w' := by
 obtain ⟨a, A, a1, a2, a3, a4⟩ := calls_readC h0
 obtain ⟨b, B, b1, b2, b3, b4⟩ := calls_readC h1
 exact CallsA.top (CallsDelta_ok a2 b2 a3 b3 (by unfold pow48; omega) (by unfold pow48; omega)) (.cons (absV_ok a1) (.cons (absV_ok b1) .nil))
end
end Go.Eng.S

