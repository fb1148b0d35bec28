/-
  Calls; lists that are handed on one by one.
  The order of calls, in plain text.
  The order of calls; their sort.
  What 'Delta' says.
  'Delta'.
  A call's tally.
  The sum of calls' tallies.
  What was put together from single calls is taken apart; sums hang on no order: plain laws.
  Tallies that are one; which of so many; calls that are put in another order.
  'CallsTurned': the walk.
  'CallsTurned': calls as a row hands them in; the walk.
-/
import Derived.Test.YthjagnpghdcbcaaGreatDoorSVatoSVj
import Derived.Test.YthjagnpghdcbcaaGreatDoorW15to31
import Derived.Test.YthjagnpghdcbcaaGreatDoorSYstoSPi
import Derived.Test.YthjagnpghdcbcaaGreatDoorSPe
import Derived.Test.YthjagnpghdcbcaaGreatDoorW13to14
namespace Go.Eng.S
open Go Go.Eng Go.Proofs
set_option linter.constructorNameAsVariable false
set_option maxRecDepth 4000
noncomputable section
attribute [local irreducible] bsel callK itK
structure CallR where
 hour : Int
 edge : SS
 failed : Bool
 took : Int
deriving DecidableEq
instance : Inhabited CallR := ⟨⟨0, (ByteArray.empty, ByteArray.empty), false, 0⟩⟩
def callF (c : CallR) : List AV := [.int .i64 c.hour, .str c.edge.1, .str c.edge.2, .bool c.failed, .int .u64 c.took]
def callE : Enc CallR := ⟨callF, 5, by decide, fun _ => rfl⟩
end
end Go.Eng.S

namespace Go.Eng.S
open Go Go.Eng Go.Proofs
noncomputable section
def cmpI (a b : Int) : Int := if a < b then -1 else if a > b then 1 else 0
def or4 (x y z w : Int) : Int := if x ≠ 0 then x else if y ≠ 0 then y else if z ≠ 0 then z else w
def cmpCall (a b : CallR) : Int :=
 if a = b then 0 else if a.failed ≠ b.failed ∧ a.hour = b.hour ∧ a.edge = b.edge then (if b.failed = true then -1 else 1)
 else or4 (cmpI a.hour b.hour) (cmpS a.edge.1 b.edge.1) (cmpS a.edge.2 b.edge.2) (cmpI a.took b.took)
theorem cmpI_zero (a b : Int) : cmpI a b = 0 ↔ a = b := by unfold cmpI; split <;> (try split) <;> omega
theorem cmpS_zero (a b : ByteArray) : cmpS a b = 0 ↔ a = b := by
 unfold cmpS
 split
 ·rename_i h
  refine ⟨fun h => by omega, ?_⟩
  rintro rfl
  rw [sLt_irrefl] at h; simp at h
 ·split <;> simp_all
theorem or4_zero {x y z w : Int} : or4 x y z w = 0 ↔ x = 0 ∧ y = 0 ∧ z = 0 ∧ w = 0 := by
 unfold or4
 split
 ·omega
 ·split
  ·omega
  ·split <;> omega
theorem cmpCall_zero (a b : CallR) : cmpCall a b = 0 ↔ a = b := by
 constructor
 ·intro h
  unfold cmpCall at h
  by_cases e : a = b
  ·exact e
  rw [if_neg e] at h
  by_cases c : a.failed ≠ b.failed ∧ a.hour = b.hour ∧ a.edge = b.edge
  ·rw [if_pos c] at h
   split at h <;> omega
  ·rw [if_neg c, or4_zero, cmpI_zero, cmpS_zero, cmpS_zero, cmpI_zero] at h
   obtain ⟨h1, h2, h3, h4⟩ := h
   have he : a.edge = b.edge := Prod.ext h2 h3
   have hf : a.failed = b.failed := Classical.byContradiction fun hn => c ⟨hn, h1, he⟩
   cases a; cases b
   simp_all
 ·rintro rfl
  unfold cmpCall
  rw [if_pos rfl]
end
end Go.Eng.S

namespace Go.Eng.S
open Go Go.Eng Go.Proofs
set_option linter.constructorNameAsVariable false
noncomputable section
attribute [local irreducible] bsel
end
end Go.Eng.S

namespace Go.Eng.S
open Go Go.Eng Go.Proofs
set_option linter.constructorNameAsVariable false
set_option maxRecDepth 4000
noncomputable section
attribute [local irreducible] bsel
def VarS (x : AV) : Prop := slZero x = true ∨ ∃ b o n k t, x = .slice b o n (.var k t)
theorem tailV {s : St} {x : AV} {l : List CallR} (h : Sl callE s x l) (hv : VarS x) (hl : 0 < l.length) : ∃ y, sliceV 5 x (some (.int .i64 1)) none none = some y ∧ Sl callE s y (l.drop 1) ∧ VarS y ∧ ∀ c, c ∈ blkOf y → c ∈ blkOf x := by
 have hlen := h.len
 rcases hv with hz | ⟨b, o, n, k, t, rfl⟩
 ·rw [slZero_len hz] at hlen
  simp only [Option.some.injEq] at hlen
  omega
 ·have hn : n = l.length := by simpa [slLen] using hlen
  rcases h with ⟨q1, _⟩ | ⟨b', o', n', cap', q1, q2, d, N, tl, g1, g2, g3⟩
  ·simp [slZero] at q1
  simp only [AV.slice.injEq] at q1
  obtain ⟨rfl, rfl, rfl, rfl⟩ := q1
  have e1 : sliceV 5 (.slice b o n (.var k t)) (some (.int .i64 1)) none none = sliceVar 5 b o n k t 1 n := by
   simp [sliceV, optInt, sliceSl]
  rw [e1]
  unfold sliceVar
  rw [if_pos (by simp [Nat.ble_eq]; omega)]
  have hz : (l.flatMap callE.f).length = l.length * 5 := callE.flat_len l
  cases hb : Nat.blt 1 n with
  | true =>
   simp only
   refine ⟨_, rfl, .inr ⟨b, o + 1 * 5, n - 1, .var k (t + 1), rfl, by rw [callE.flat_len, List.length_drop, hn], d, N, tl, g1, ?_, ?_⟩, .inr ⟨_, _, _, _, _, rfl⟩, by simp [blkOf]⟩
   ·rw [callE.flat_len, List.length_drop]
    rw [hz] at g2
    show o + 1 * 5 + (l.length - 1) * 5 ≤ N
    omega
   ·have := getAll_part g3 (1 * 5) ((l.length - 1) * 5) (by rw [hz]; omega)
    rw [List.take_of_length_le (by rw [List.length_drop, hz]; omega)] at this
    have e2 : ((l.drop 1).flatMap callE.f).length = (l.length - 1) * 5 := by rw [callE.flat_len, List.length_drop]; rfl
    rw [e2, callE.flat_drop (k := 1) (by omega)]
    exact this
  | false =>
   have h0 : n ≤ 1 := by
    have : ¬ (Nat.blt 1 n = true) := by rw [hb]; simp
    rw [Nat.blt_eq] at this; omega
   simp only
   refine ⟨_, rfl, ?_, .inl rfl, by simp [blkOf]⟩
   rw [List.drop_eq_nil_of_le (by omega)]
   exact .inl ⟨rfl, rfl⟩
def dl : List CallR → List CallR → List CallR × List CallR
 | [], B => ([], B)
 | a :: A, [] => (a :: A, [])
 | a :: A, b :: B =>
  if cmpCall a b < 0 then (a :: (dl A (b :: B)).1, (dl A (b :: B)).2)
  else if 0 < cmpCall a b then ((dl (a :: A) B).1, b :: (dl (a :: A) B).2)
  else dl A B
termination_by A B => A.length + B.length
theorem dl_both {a : CallR} {A B : List CallR} : dl (a :: A) (a :: B) = dl A B := by
 have := (cmpCall_zero a a).2 rfl
 rw [dl, if_neg (by omega), if_neg (by omega)]
structure DelI (a b A B G C : List CallR) : Prop where
 fn : dl a b = (G ++ (dl A B).1, C ++ (dl A B).2)
 perm : ∃ K, a.Perm (K ++ G ++ A) ∧ b.Perm (K ++ C ++ B)
 same : a = b → G = [] ∧ C = [] ∧ A = B
theorem perm_snoc {a K G A : List CallR} {x : CallR} (h : a.Perm (K ++ G ++ x :: A)) : a.Perm (K ++ (G ++ [x]) ++ A) := by
 refine h.trans (.of_eq ?_)
 simp
theorem perm_both {a K G A : List CallR} {x : CallR} (h : a.Perm (K ++ G ++ x :: A)) : a.Perm (x :: K ++ G ++ A) := by
 refine h.trans ?_
 rw [List.cons_append, List.cons_append]
 exact List.perm_middle
theorem DelI.gone {a b A B G C : List CallR} {x : CallR} (h : DelI a b (x :: A) B G C) (hn : x :: A ≠ B) (hd : dl (x :: A) B = (x :: (dl A B).1, (dl A B).2)) : DelI a b A B (G ++ [x]) C := by
 obtain ⟨h0, ⟨K, h1, h2⟩, h3⟩ := h
 exact ⟨by rw [h0, hd]; simp, ⟨K, perm_snoc h1, h2⟩, fun e => absurd (h3 e).2.2 hn⟩
theorem DelI.come {a b A B G C : List CallR} {x : CallR} (h : DelI a b A (x :: B) G C) (hn : A ≠ x :: B) (hd : dl A (x :: B) = ((dl A B).1, x :: (dl A B).2)) : DelI a b A B G (C ++ [x]) := by
 obtain ⟨h0, ⟨K, h1, h2⟩, h3⟩ := h
 exact ⟨by rw [h0, hd]; simp, ⟨K, h1, perm_snoc h2⟩, fun e => absurd (h3 e).2.2 hn⟩
theorem DelI.both {a b A B G C : List CallR} {x : CallR} (h : DelI a b (x :: A) (x :: B) G C) : DelI a b A B G C := by
 obtain ⟨h0, ⟨K, h1, h2⟩, h3⟩ := h
 exact ⟨by rw [h0, dl_both], ⟨x :: K, perm_both h1, perm_both h2⟩, fun e => by
  obtain ⟨k1, k2, k3⟩ := h3 e
  exact ⟨k1, k2, by simpa using k3⟩⟩
end
end Go.Eng.S

namespace Go.Eng.S
open Go Go.Eng Go.Proofs
set_option linter.constructorNameAsVariable false
set_option maxRecDepth 4000
noncomputable section
attribute [local irreducible] bsel
theorem app_ok {s s1 : St} {x : AV} {G : List CallR} {a : CallR} {m : Nat} (hx : So callE s x G) (hN : NewO s (cellsO (callF a)) m s1) (hlen : (G.length + 1 + (G.length + 1) / 4 + 600) * 56 ≤ pow48) :
  ∃ x' s', appendX D s1 T.sl_api_Call T.sl_api_Call x (.slice m 0 1 (.exact 1)) = some (x', s') ∧ So callE s' x' (G ++ [a]) ∧ (∀ c, c ∈ blkOf x' → s.h.get c = none) ∧ Frw (blkOf x) s s' ∧ Fr s' := by
 obtain ⟨x', s', q1, q2, q3, q4, q5, q6⟩ := So.append' (a := a) (hx.ext hN.fwd) ty.sl_api_Call rfl ty.api_Call rfl rfl rfl rfl hN.own.rd rfl hlen (by unfold pow48 at hlen ⊢; omega) hN.fr
 refine ⟨x', s', q1, q2, fun c hc => ?_, (hN.fwd.mono (by simp)).trans q3, q5⟩
 rw [q4] at hc
 have hc : c = s1.nx := by simpa using hc
 rw [hc]
 exact hN.fwd.none (hN.fr _ (Nat.le_refl _)) (by simp)
def Apart (x y : AV) : Prop := ∀ c, c ∈ blkOf x → c ∉ blkOf y
structure DI (s0 : St) (xa xb : AV) (la lb : List CallR) (x15 x16 x17 x18 : AV) (s : St) (A B G C : List CallR) : Prop where
 a : Sl callE s x15 A
 av : VarS x15
 ab : ∀ c, c ∈ blkOf x15 → s0.h.get c ≠ none
 b : Sl callE s x16 B
 bv : VarS x16
 bb : ∀ c, c ∈ blkOf x16 → s0.h.get c ≠ none
 g : So callE s x17 G
 gb : ∀ c, c ∈ blkOf x17 → s0.h.get c = none
 gn : G = [] → x17 = .nilslice
 c : So callE s x18 C
 cb : ∀ c, c ∈ blkOf x18 → s0.h.get c = none
 cn : C = [] → x18 = .nilslice
 ap : Apart x17 x18
 d : DelI la lb A B G C
 f : Frw [] s0 s
 fr : Fr s
variable {s0 s s1 : St} {xa xb x15 x16 x17 x18 : AV} {la lb A B G C : List CallR} {a b : CallR} {m : Nat}
theorem DI.ext (h : DI s0 xa xb la lb x15 x16 x17 x18 s A B G C) (hf : Frw [] s s1) (hfr : Fr s1) : DI s0 xa xb la lb x15 x16 x17 x18 s1 A B G C :=
 ⟨h.a.ext hf, h.av, h.ab, h.b.ext hf, h.bv, h.bb, h.g.ext hf, h.gb, h.gn, h.c.ext hf, h.cb, h.cn, h.ap, h.d, h.f.trans hf, hfr⟩
theorem DI.gone (h : DI s0 xa xb la lb x15 x16 x17 x18 s (a :: A) B G C) (hn : a :: A ≠ B) (hd : dl (a :: A) B = (a :: (dl A B).1, (dl A B).2)) (hN : NewO s (cellsO (callF a)) m s1) (hlen : (la.length + 1 + (la.length + 1) / 4 + 600) * 56 ≤ pow48) :
  ∃ x' s', appendX D s1 T.sl_api_Call T.sl_api_Call x17 (.slice m 0 1 (.exact 1)) = some (x', s') ∧ ∃ y, sliceV 5 x15 (some (.int .i64 1)) none none = some y ∧ DI s0 xa xb la lb y x16 x' x18 s' A B (G ++ [a]) C := by
 have hG : G.length ≤ la.length := by
  obtain ⟨K, h1, _⟩ := h.d.perm
  have := h1.length_eq
  simp at this; omega
 obtain ⟨x', s', q1, q2, q3, q4, q5⟩ := app_ok h.g hN (Nat.le_trans (Nat.mul_le_mul_right 56 (by omega)) hlen)
 obtain ⟨y, k1, k2, k3, k4⟩ := tailV h.a h.av (by simp)
 refine ⟨x', s', q1, y, k1, ?_, k3, fun c hc => h.ab c (k4 c hc), h.b.beside q4 (fun c hc => .inr fun hx => h.bb c hx (h.gb c hc)), h.bv, h.bb, q2, fun c hc => h.f.none (q3 c hc) (by simp), by simp, h.c.beside q4 (fun c hc hx => h.ap c hc hx), h.cb, h.cn, fun c hc hx => h.c.there c hx (q3 c hc), h.d.gone hn hd, h.f.step q4 h.gb, q5⟩
 exact k2.beside q4 fun c hc => .inr fun hx => h.ab c (k4 c hx) (h.gb c hc)
theorem DI.come (h : DI s0 xa xb la lb x15 x16 x17 x18 s A (b :: B) G C) (hn : A ≠ b :: B) (hd : dl A (b :: B) = ((dl A B).1, b :: (dl A B).2)) (hN : NewO s (cellsO (callF b)) m s1) (hlen : (lb.length + 1 + (lb.length + 1) / 4 + 600) * 56 ≤ pow48) :
  ∃ x' s', appendX D s1 T.sl_api_Call T.sl_api_Call x18 (.slice m 0 1 (.exact 1)) = some (x', s') ∧ ∃ y, sliceV 5 x16 (some (.int .i64 1)) none none = some y ∧ DI s0 xa xb la lb x15 y x17 x' s' A B G (C ++ [b]) := by
 have hG : C.length ≤ lb.length := by
  obtain ⟨K, _, h1⟩ := h.d.perm
  have := h1.length_eq
  simp at this; omega
 obtain ⟨x', s', q1, q2, q3, q4, q5⟩ := app_ok h.c hN (Nat.le_trans (Nat.mul_le_mul_right 56 (by omega)) hlen)
 obtain ⟨y, k1, k2, k3, k4⟩ := tailV h.b h.bv (by simp)
 refine ⟨x', s', q1, y, k1, h.a.beside q4 (fun c hc => .inr fun hx => h.ab c hx (h.cb c hc)), h.av, h.ab, ?_, k3, fun c hc => h.bb c (k4 c hc), h.g.beside q4 (fun c hc hx => h.ap c hx hc), h.gb, h.gn, q2, fun c hc => h.f.none (q3 c hc) (by simp), by simp, fun c hc hx => h.g.there c hc (q3 c hx), h.d.come hn hd, h.f.step q4 h.cb, q5⟩
 exact k2.beside q4 fun c hc => .inr fun hx => h.bb c (k4 c hx) (h.cb c hc)
end
end Go.Eng.S

namespace Go.Eng.S
open Go Go.Eng Go.Proofs
set_option linter.constructorNameAsVariable false
noncomputable section
attribute [local irreducible] bsel barsOf mergeB
set_option maxRecDepth 100000 in
theorem Len64_ok {y : Nat} (hy : y < 18446744073709551616) (s : St) : CallsD P F.math_bits_Len64 [.int .u64 (y : Int)] s fun v s' => ∃ n : Nat, v = .int .i64 (n : Int) ∧ LenP y n ∧ n ≤ 64 ∧ s' = s := by
 refine vc.math_bits_Len64_ok ⟨fun n4 n5 s6 _ => s6 = s ∧ ∃ a k : Nat, n4 = a ∧ n5 = k ∧ a < 4294967296 ∧ k ≤ 32 ∧ ∀ m, LenP a m → LenP y (m + k), ?_, ?_⟩
 ·refine bsel_of (fun c => ?_) fun c => ?_
  ·have c : 2 ^ 32 ≤ y := by simp only [decide_eq_true_eq] at c; omega
   exact ⟨by decide, 0, rfl, y / 2 ^ 32, 32, fdiv_pow y 32, rfl, by omega, by omega, fun m h => h.shift c⟩
  ·have c : y < 4294967296 := by simp only [decide_eq_false_iff_not] at c; omega
   exact ⟨0, rfl, y, 0, rfl, rfl, c, by omega, fun m h => h⟩
 rintro _ _ s6 _ ⟨rfl, a, k, rfl, rfl, ha, hk, hL⟩
 refine ⟨fun n4 n5 s7 _ => s7 = s6 ∧ ∃ a k : Nat, n4 = a ∧ n5 = k ∧ a < 65536 ∧ k ≤ 48 ∧ ∀ m, LenP a m → LenP y (m + k), ?_, ?_⟩
 ·refine bsel_of (fun c => ?_) fun c => ?_
  ·have c : 2 ^ 16 ≤ a := by simp only [decide_eq_true_eq] at c; omega
   refine ⟨by decide, 0, rfl, a / 2 ^ 16, k + 16, fdiv_pow a 16, wr_add (a := k) (b := 16) (by omega), by omega, by omega, fun m h => ?_⟩
   have := hL _ (h.shift c)
   rwa [show m + 16 + k = m + (k + 16) by omega] at this
  ·have c : a < 65536 := by simp only [decide_eq_false_iff_not] at c; omega
   exact ⟨0, rfl, a, k, rfl, rfl, c, by omega, hL⟩
 clear hL ha hk a k
 rintro _ _ s7 _ ⟨rfl, a, k, rfl, rfl, ha, hk, hL⟩
 refine ⟨fun n4 n5 s8 _ => s8 = s7 ∧ ∃ a k : Nat, n4 = a ∧ n5 = k ∧ a < 256 ∧ k ≤ 56 ∧ ∀ m, LenP a m → LenP y (m + k), ?_, ?_⟩
 ·refine bsel_of (fun c => ?_) fun c => ?_
  ·have c : 2 ^ 8 ≤ a := by simp only [decide_eq_true_eq] at c; omega
   refine ⟨by decide, 0, rfl, a / 2 ^ 8, k + 8, fdiv_pow a 8, wr_add (a := k) (b := 8) (by omega), by omega, by omega, fun m h => ?_⟩
   have := hL _ (h.shift c)
   rwa [show m + 8 + k = m + (k + 8) by omega] at this
  ·have c : a < 256 := by simp only [decide_eq_false_iff_not] at c; omega
   exact ⟨0, rfl, a, k, rfl, rfl, c, by omega, hL⟩
 clear hL ha hk a k
 rintro _ _ s8 _ ⟨rfl, a, k, rfl, rfl, ha, hk, hL⟩
 refine byteK_len (by decide +kernel) ha (wrap_u8 (by omega) (by omega)) fun c h1 h2 => ⟨c.toNat + k, ?_, hL _ h1, by omega, rfl⟩
 rw [wr_nat (a := c.toNat) (by omega), wr_add (a := k) (b := c.toNat) (by omega), Nat.add_comm]
def idxN (n : Nat) : Nat := if n < 64 then n else 64 + 32 * (n.log2 - 6) + n / 2 ^ (n.log2 - 5) - 32
theorem log2_of {n k : Nat} (h : n / 2 ^ k = 1) : n.log2 = k := by
 have h0 : 0 < 2 ^ k := Nat.pow_pos (by omega)
 have h1 : 2 ^ k ≤ n := by
  have := (Nat.le_div_iff_mul_le h0 (x := 1) (y := n)).1 (by omega)
  omega
 have h2 : n < 2 ^ (k + 1) := by
  have := (Nat.div_lt_iff_lt_mul h0 (x := n) (y := 2)).1 (by omega)
  rw [Nat.pow_succ]; omega
 exact (Nat.log2_eq_iff (by omega)).2 ⟨h1, h2⟩
theorem idxN_lt {n : Nat} (h : n < 18446744073709551616) : idxN n < 1920 := by
 unfold idxN
 split
 ·omega
 ·rename_i hn
  have h0 : n ≠ 0 := by omega
  have h1 : 2 ^ n.log2 ≤ n := Nat.log2_self_le h0
  have h2 : n < 2 ^ (n.log2 + 1) := Nat.lt_log2_self
  generalize n.log2 = k at h1 h2
  have hk : k < 64 := by
   refine Classical.byContradiction fun hc => ?_
   have : 2 ^ 64 ≤ 2 ^ k := Nat.pow_le_pow_right (by omega) (by omega)
   omega
  have hk6 : 6 ≤ k := by
   refine Classical.byContradiction fun hc => ?_
   have : 2 ^ (k + 1) ≤ 2 ^ 6 := Nat.pow_le_pow_right (by omega) (by omega)
   omega
  have : n / 2 ^ (k - 5) < 64 := by
   rw [Nat.div_lt_iff_lt_mul (Nat.pow_pos (by omega))]
   have e : 2 ^ (k + 1) = 64 * 2 ^ (k - 5) := by
    rw [show (64 : Nat) = 2 ^ 6 from rfl, ← Nat.pow_add]; congr 1; omega
   omega
  omega
theorem and31 : ∀ q : Fin 64, 32 ≤ q.1 → (BitVec.toNat ((BitVec.ofInt 64 ((q.1 : Nat) : Int)) &&& (BitVec.ofInt 64 31))) = q.1 - 32 := by decide +kernel
theorem Index_ok (n : Nat) (hn : n < 18446744073709551616) (s : St) : CallsD P F.sketch_Index [.int .u64 (n : Int)] s fun v s' => v = .int .i64 (idxN n : Int) ∧ s' = s := by
 refine CallsD.pure (fun s => (vc.sketch_Index_ok (bsel_of (fun c => ?_) fun c => ?_)).a) rfl s
 ·have c : n < 64 := by simp only [decide_eq_true_eq] at c; omega
  show AV.int .i64 (IntKind.wrap .i64 (n : Int)) = _
  rw [wrap_i64 (by omega) (by omega), idxN, if_pos c]
 ·have c : 64 ≤ n := by simp only [decide_eq_false_iff_not] at c; omega
  refine (Len64_ok hn s).mono ?_
  rintro _ _ ⟨L, rfl, hL, hL64, rfl⟩
  have h0 : n ≠ 0 := by omega
  have h1 : 2 ^ n.log2 ≤ n := Nat.log2_self_le h0
  have h2 : n < 2 ^ (n.log2 + 1) := Nat.lt_log2_self
  have hLk : L = n.log2 + 1 := by
   have hL0 : L ≠ 0 := by
    rintro rfl
    have := hL.1
    simp at this; omega
   have : n.log2 = L - 1 := (Nat.log2_eq_iff h0).2 ⟨hL.2 (by omega), by rw [show L - 1 + 1 = L by omega]; exact hL.1⟩
   omega
  subst hLk
  generalize hk : n.log2 = k at h1 h2 hL hL64 ⊢
  have hk6 : 6 ≤ k := by
   refine Classical.byContradiction fun hc => ?_
   have : 2 ^ (k + 1) ≤ 2 ^ 6 := Nat.pow_le_pow_right (by omega) (by omega)
   omega
  have e : 2 ^ (k + 1) = 64 * 2 ^ (k - 5) := by
   rw [show (64 : Nat) = 2 ^ 6 from rfl, ← Nat.pow_add]; congr 1; omega
  have e' : 2 ^ k = 32 * 2 ^ (k - 5) := by
   rw [show (32 : Nat) = 2 ^ 5 from rfl, ← Nat.pow_add]; congr 1; omega
  have hp : 0 < 2 ^ (k - 5) := Nat.pow_pos (by omega)
  have q1 : n / 2 ^ (k - 5) < 64 := by rw [Nat.div_lt_iff_lt_mul hp]; omega
  have q2 : 32 ≤ n / 2 ^ (k - 5) := by rw [Nat.le_div_iff_mul_le hp]; omega
  have w1 : IntKind.wrap .i64 (((k + 1 : Nat) : Int) - 1) = (k : Int) := by rw [wrap_i64 (by omega) (by omega)]; omega
  have w2 : IntKind.wrap .i64 ((k : Int) - 5) = ((k - 5 : Nat) : Int) := by rw [wrap_i64 (by omega) (by omega)]; omega
  have w3 : IntKind.wrap .i64 ((k : Int) - 6) = ((k - 6 : Nat) : Int) := by rw [wrap_i64 (by omega) (by omega)]; omega
  refine ⟨_, rfl, ?_, ?_⟩
  ·rw [w1, w2]; omega
  ·rw [w1, w2, w3, Int.toNat_natCast, Nat.min_eq_left (by omega), fdiv_pow n (k - 5)]
   rw [wrap_i64 (a := ((n / 2 ^ (k - 5) : Nat) : Int)) (by omega) (by omega), and31 ⟨_, q1⟩ q2]
   rw [wrap_i64 (a := 32 * ((k - 6 : Nat) : Int)) (by omega) (by omega), wrap_i64 (a := 64 + 32 * ((k - 6 : Nat) : Int)) (by omega) (by omega)]
   show AV.int .i64 _ = AV.int .i64 _
   congr 1
   rw [idxN, if_neg (by omega), hk]
   simp only
   rw [wr_nat (by omega), wrap_i64 (by omega) (by omega)]
   omega
def CallR.Rng (c : CallR) : Prop := (-9223372036854775808 ≤ c.hour ∧ c.hour < 9223372036854775808) ∧ 0 ≤ c.took ∧ c.took ≤ M64
def oneT (c : CallR) : Tal := ⟨(0, 1), (0, if c.failed = true then 1 else 0), (0, c.took), [((idxN c.took.toNat : Int), 1)]⟩
theorem oneT_rng {c : CallR} (h : c.Rng) : (oneT c).Rng where
 a := ⟨⟨by simp [oneT], by simp [oneT, M64]⟩, by simp [oneT], by simp [oneT, M64]⟩
 b := by
  refine ⟨⟨by simp [oneT], by simp [oneT, M64]⟩, ?_⟩
  simp only [oneT]
  split <;> simp [M64]
 c := ⟨⟨by simp [oneT], by simp [oneT, M64]⟩, h.2.1, h.2.2⟩
 l := fun p hp => by
  have := idxN_lt (n := c.took.toNat) (by have := h.2; unfold M64 at this; omega)
  have : p = ((idxN c.took.toNat : Int), 1) := by simpa [oneT] using hp
  subst this
  refine ⟨?_, ?_, ?_, ?_⟩ <;> simp only [M64] <;> omega
end
end Go.Eng.S

namespace Go.Eng.S
open Go Go.Eng Go.Proofs
set_option linter.constructorNameAsVariable false
set_option maxRecDepth 4000
noncomputable section
attribute [local irreducible] bsel barsOf mergeB
structure TC (s : St) (m : Nat) (t : Tal) (z : AV) : Prop where
 own : Own s m (t.C z)
 sl : Sl barE s z t.l
 off : m ∉ blkOf z
theorem TC.fwd {s s' : St} {m : Nat} {t : Tal} {z : AV} {M : List Nat} (h : TC s m t z) (hf : Frw M s s') (hm : m ∉ M) (hz : ∀ c, c ∈ M → c ∉ blkOf z) : TC s' m t z :=
 ⟨h.own.fwd hf hm, h.sl.beside hf fun c hc => .inr (hz c hc), h.off⟩
theorem TC.ext {s s' : St} {m : Nat} {t : Tal} {z : AV} (h : TC s m t z) (hf : Frw [] s s') : TC s' m t z := h.fwd hf (by simp) (by simp)
theorem sl_thereB {s : St} {x : AV} {l : List Bar} (h : Sl barE s x l) : ∀ c, c ∈ blkOf x → s.h.get c ≠ none := by
 rcases h with ⟨h1, _⟩ | ⟨b, o, n, cap, rfl, _, h3⟩
 ·intro c hc
  cases x <;> simp [slZero, blkOf] at h1 hc
 ·intro c hc
  have : c = b := by simpa [blkOf] using hc
  rw [this]; exact h3.there
end
end Go.Eng.S

namespace Go.Eng.S
open Go Go.Eng Go.Proofs
set_option linter.constructorNameAsVariable false
noncomputable section
attribute [local irreducible] barsOf mergeB
structure Bnd (n : Nat) (t : Tal) : Prop where
 a : val2 t.a ≤ n * 18446744073709551615
 b : val2 t.b ≤ n * 18446744073709551615
 c : val2 t.c ≤ n * 18446744073709551615
 l : ∀ i, cnt t.l i ≤ n
theorem Bnd.zero : Bnd 0 .zero := ⟨by simp [Tal.zero, val2], by simp [Tal.zero, val2], by simp [Tal.zero, val2], fun i => by simp [Tal.zero, cnt]⟩
theorem Bnd.mono {m n : Nat} {t : Tal} (h : Bnd m t) (hmn : m ≤ n) : Bnd n t :=
 ⟨by have := h.a; omega, by have := h.b; omega, by have := h.c; omega, fun i => by have := h.l i; omega⟩
theorem cnt_le {l : List Bar} {k : Int} (h0 : 0 ≤ k) (h : ∀ p, p ∈ l → p.2 ≤ k) (i : Nat) : cnt l i ≤ k := by
 induction l with
 | nil => simpa [cnt] using h0
 | cons p q ih =>
  simp only [cnt]
  split
  ·exact h p (List.mem_cons_self ..)
  ·exact ih fun x hx => h x (List.mem_cons_of_mem _ hx)
section
attribute [local semireducible] barsOf mergeB
theorem subR_eq : ∀ {l : List Bar} {r : RowF} {last : Int}, -1 ≤ last → okB last l = true → (∀ i, cnt l i ≤ r i) → ∃ r', subR r l = some r' ∧ ∀ i, r' i = r i - cnt l i
 | [], r, _, _, _, _ => ⟨r, rfl, fun i => by simp [cnt]⟩
 | p :: q, r, last, h0, h, hle => by
  simp only [okB, Bool.and_eq_true, decide_eq_true_eq] at h
  obtain ⟨⟨⟨h1, h2⟩, h3⟩, h4⟩ := h
  have hp := hle p.1.toNat
  simp only [cnt, if_true] at hp
  have hn := cnt_none (has_below (l := q) (last := p.1) (i := p.1.toNat) (by omega) h4 (by omega))
  obtain ⟨r', e1, e2⟩ := subR_eq (l := q) (r := upd r p.1.toNat (r p.1.toNat - p.2)) (last := p.1) (by omega) h4 (fun i => by
   by_cases e : i = p.1.toNat
   ·subst e; rw [hn]; simp [upd]; omega
   ·have := hle i
    simp only [cnt, Ne.symm e, if_false] at this
    simp [upd, e]; exact this)
  refine ⟨r', by simp only [subR]; rw [if_neg (by omega)]; exact e1, fun i => ?_⟩
  rw [e2]
  by_cases e : i = p.1.toNat
  ·subst e; simp [upd, cnt, hn]
  ·simp [upd, cnt, e, Ne.symm e]
end
theorem Bnd.one {c : CallR} (h : c.Rng) : Bnd 1 (oneT c) := by
 have hr := oneT_rng h
 have h1 := h.2
 unfold M64 at h1
 refine ⟨?_, ?_, ?_, fun i => ?_⟩
 ·simp [oneT, val2]
 ·simp only [oneT, val2]; split <;> omega
 ·simp only [oneT, val2]; omega
 ·refine cnt_le (by omega) (fun p hp => ?_) i
  have : p = ((idxN c.took.toNat : Int), 1) := by simpa [oneT] using hp
  rw [this]; simp
end
end Go.Eng.S

namespace Go.Eng.S
open Go Go.Eng Go.Proofs
set_option linter.constructorNameAsVariable false
set_option maxRecDepth 4000
noncomputable section
attribute [local irreducible] bsel barsOf mergeB
theorem sameBars_ok {s : St} {x y : AV} {l : List Bar} (hx : Sl barE s x l) (hy : Sl barE s y l) (hn : l.length < 4611686018427387904) :
  CallsD P F.spoorlaw14_sameBars [x, y] s fun v s' => (v = .bool true ∧ Frw [] s s') ∧ Fr s' := by
 refine CallsD.of fun hfr => vc.spoorlaw14_sameBars_ok ?_
 refine hx.slen (hy.slen (bsel_of (fun c => by simp at c) fun _ => ?_))
 refine ⟨fun n s4 m => ∃ k : Nat, n = k ∧ m = l.length - k ∧ k ≤ l.length ∧ Frw [] s s4 ∧ Fr s4, ⟨_, 0, rfl, rfl, by omega, .refl _ _, hfr⟩, ?_⟩
 rintro _ s4 m7 ⟨k, rfl, hm, hk, f4, hfr4⟩
 refine (hx.ext f4).slen (bsel_of (fun c => ?_) fun _ => ⟨rfl, f4⟩)
 have c : k < l.length := by simpa using c
 intro s9 hB
 have f9 := f4.trans hB.fwd
 refine (hx.ext f9).ixs rfl rfl c fun b o hR => ⟨_, _, hR.all rfl, (hy.ext f9).ixs rfl rfl c fun b o hR => ⟨_, _, hR.all rfl, bsel_of (fun c => by simp at c) fun _ => ⟨l.length - (k + 1), by omega, k + 1, wr_succ (by omega), rfl, by omega, f9, hB.fr⟩⟩⟩
theorem sameTally_ok {s : St} {t : Tal} {x y : AV} (hx : Sl barE s x t.l) (hy : Sl barE s y t.l) (hn : t.l.length < 4611686018427387904) :
  CallsD P F.spoorlaw14_sameTally [t.V x, t.V y] s fun v s' => (v = .bool true ∧ Frw [] s s') ∧ Fr s' := by
 refine CallsD.of fun hfr => vc.spoorlaw14_sameTally_ok ?_
 intro m1 s2 h2 m3 s4 h4
 have f4 := h2.fwd.trans h4.fwd
 have o1 := h2.own.ext h4.fwd
 have o3 := h4.own
 refine ⟨x, o1.ld1 6 rfl, y, o3.ld1 6 rfl, (sameBars_ok (hx.ext f4) (hy.ext f4) hn).mono ?_⟩
 rintro _ s8 ⟨⟨rfl, f8⟩, hfr8⟩
 have p1 := o1.ext f8
 have p3 := o3.ext f8
 refine ⟨true, rfl, bsel_of (fun _ => ?_) fun c => by simp at c⟩
 refine ⟨_, _, p1.ldN 0 2 (by simp), _, _, p3.ldN 0 2 (by simp), bsel_of (fun _ => ?_) fun c => by simp at c⟩
 refine ⟨_, _, p1.ldN 2 2 (by simp), _, _, p3.ldN 2 2 (by simp), bsel_of (fun _ => ?_) fun c => by simp at c⟩
 exact ⟨_, _, p1.ldN 4 2 (by simp), _, _, p3.ldN 4 2 (by simp), by simp, f4.trans f8⟩
end
end Go.Eng.S

namespace Go.Eng.S
open Go Go.Eng Go.Proofs
set_option linter.constructorNameAsVariable false
set_option maxRecDepth 4000
noncomputable section
attribute [local irreducible] bsel barsOf mergeB
end
end Go.Eng.S

namespace Go.Eng.S
open Go Go.Eng Go.Proofs
set_option linter.constructorNameAsVariable false
noncomputable section
end
end Go.Eng.S

