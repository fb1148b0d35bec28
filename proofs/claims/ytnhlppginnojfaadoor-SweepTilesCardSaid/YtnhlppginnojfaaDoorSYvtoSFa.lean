/-
  The library's functions on strings lie in the program.
  Sorting in place: less, insertion, sifting down, a heap.
  Sorting in place: parting.
  Sorting in place: what is nearly sorted.
  Sorting in place: pivots, numbers by chance.
  Sorting in place: patterns are broken; the whole sort.
  Sorting in place: the whole sort.
  Numbers compared; the first that is not nothing.
  What a span may be: the texts.
-/
import Derived.Shelf.Unicode.ValidAny
import Derived.Shelf.Small.Strs
import Derived.Shelf.Strings.Search3
import Derived.Test.YtnhlppginnojfaaDoorProg
import Derived.Test.YtnhlppginnojfaaDoorW15to28
import Derived.Test.YtnhlppginnojfaaDoorSVs1to3
import Derived.Test.YtnhlppginnojfaaDoorSVs4toSVfd
import Derived.Test.YtnhlppginnojfaaDoorSVfetoSVha
import Derived.Test.YtnhlppginnojfaaDoorW8to12
import Derived.Test.YtnhlppginnojfaaDoorSDefs
import Derived.Test.YtnhlppginnojfaaDoorW32to34
set_option linter.unusedVariables false
set_option linter.unusedSimpArgs false
namespace Go.Proofs
open Go.Shelf
def Tryd.validS_ren : Go.Shelf.Ren := ⟨fun | 196 => 74 | 259 => 87 | n => n, fun | 9 => 9 | 4 => 4 | 3 => 3 | 5 => 5 | 12 => 12 | 119 => 152 | 0 => 0 | 46 => 95 | 139 => 155 | 138 => 154 | 53 => 30 | n => n, fun | 3 => 0 | 4 => 1 | n => n⟩
theorem Tryd.validS : Go.Proofs.Lays.n196 Tryd.prog Tryd.validS_ren := {
 mixed := by kernel_rfl
 f196 := Tryd.func74.trans (congrArg some (by kernel_rfl))
 f259 := Tryd.func87.trans (congrArg some (by kernel_rfl))
 t0 := Tryd.underlying0
 a0 := Tryd.isAgg0
 z0 := Tryd.sizeOf0
 v0 := Tryd.zeroValue0
 t3 := Tryd.underlying3
 a3 := Tryd.isAgg3
 z3 := Tryd.sizeOf3
 v3 := Tryd.zeroValue3
 t4 := Tryd.underlying4
 a4 := Tryd.isAgg4
 z4 := Tryd.sizeOf4
 v4 := Tryd.zeroValue4
 t5 := Tryd.underlying5
 a5 := Tryd.isAgg5
 z5 := Tryd.sizeOf5
 v5 := Tryd.zeroValue5
 t9 := Tryd.underlying9
 a9 := Tryd.isAgg9
 z9 := Tryd.sizeOf9
 v9 := Tryd.zeroValue9
 t12 := Tryd.underlying12
 a12 := Tryd.isAgg12
 z12 := Tryd.sizeOf12
 v12 := Tryd.zeroValue12
 t46 := Tryd.underlying95
 a46 := Tryd.isAgg95
 z46 := Tryd.sizeOf95
 v46 := Tryd.zeroValue95
 t53 := Tryd.underlying30
 a53 := Tryd.isAgg30
 z53 := Tryd.sizeOf30
 v53 := Tryd.zeroValue30
 t119 := Tryd.underlying152
 a119 := Tryd.isAgg152
 z119 := Tryd.sizeOf152
 t138 := Tryd.underlying154
 a138 := Tryd.isAgg154
 z138 := Tryd.sizeOf154
 v138 := Tryd.zeroValue154
 t139 := Tryd.underlying155
 a139 := Tryd.isAgg155
 z139 := Tryd.sizeOf155
 v139 := Tryd.zeroValue155
 g3 := by kernel_rfl
 g4 := by kernel_rfl }
def Tryd.cmpS_ren : Go.Shelf.Ren := ⟨fun | 106 => 89 | 213 => 93 | 265 => 95 | n => n, fun | 9 => 9 | 3 => 3 | n => n, fun | n => n⟩
theorem Tryd.cmpS : Go.Proofs.Lays.n106 Tryd.prog Tryd.cmpS_ren := {
 mixed := by kernel_rfl
 f106 := Tryd.func89.trans (congrArg some (by kernel_rfl))
 f213 := Tryd.func93.trans (congrArg some (by kernel_rfl))
 f265 := Tryd.func95.trans (congrArg some (by kernel_rfl))
 t3 := Tryd.underlying3
 a3 := Tryd.isAgg3
 z3 := Tryd.sizeOf3
 v3 := Tryd.zeroValue3
 t9 := Tryd.underlying9
 a9 := Tryd.isAgg9
 z9 := Tryd.sizeOf9
 v9 := Tryd.zeroValue9 }
def Tryd.containsS_ren : Go.Shelf.Ren := ⟨fun | 144 => 88 | 143 => 92 | 219 => 94 | 217 => 96 | 225 => 97 | 224 => 98 | 267 => 99 | 266 => 100 | 314 => 101 | n => n, fun | 9 => 9 | 4 => 4 | 3 => 3 | 5 => 5 | 46 => 95 | 146 => 164 | 51 => 125 | n => n, fun | 1 => 2 | n => n⟩
theorem Tryd.containsS : Go.Proofs.Lays.n144 Tryd.prog Tryd.containsS_ren := {
 mixed := by kernel_rfl
 f143 := Tryd.func92.trans (congrArg some (by kernel_rfl))
 f144 := Tryd.func88.trans (congrArg some (by kernel_rfl))
 f217 := Tryd.func96.trans (congrArg some (by kernel_rfl))
 f219 := Tryd.func94.trans (congrArg some (by kernel_rfl))
 f224 := Tryd.func98.trans (congrArg some (by kernel_rfl))
 f225 := Tryd.func97.trans (congrArg some (by kernel_rfl))
 f266 := Tryd.func100.trans (congrArg some (by kernel_rfl))
 f267 := Tryd.func99.trans (congrArg some (by kernel_rfl))
 f314 := Tryd.func101.trans (congrArg some (by kernel_rfl))
 t3 := Tryd.underlying3
 a3 := Tryd.isAgg3
 z3 := Tryd.sizeOf3
 v3 := Tryd.zeroValue3
 t4 := Tryd.underlying4
 a4 := Tryd.isAgg4
 z4 := Tryd.sizeOf4
 v4 := Tryd.zeroValue4
 t5 := Tryd.underlying5
 a5 := Tryd.isAgg5
 z5 := Tryd.sizeOf5
 v5 := Tryd.zeroValue5
 t9 := Tryd.underlying9
 a9 := Tryd.isAgg9
 z9 := Tryd.sizeOf9
 v9 := Tryd.zeroValue9
 t46 := Tryd.underlying95
 a46 := Tryd.isAgg95
 z46 := Tryd.sizeOf95
 v46 := Tryd.zeroValue95
 t51 := Tryd.underlying125
 a51 := Tryd.isAgg125
 z51 := Tryd.sizeOf125
 v51 := Tryd.zeroValue125
 t146 := Tryd.underlying164
 a146 := Tryd.isAgg164
 z146 := Tryd.sizeOf164
 v146 := Tryd.zeroValue164
 g1 := by kernel_rfl }
end Go.Proofs

namespace Go.Eng.S
open Go Go.Eng Go.Proofs
set_option linter.constructorNameAsVariable false
noncomputable section
attribute [local irreducible] bsel
abbrev mkE (n : Int) : AV := .int .u64 n
def ltE (a b : Int) : Bool := decide (a < b)
theorem ltE_o : LtO ltE := ⟨fun x => by simp [ltE], fun x y h => by simp [ltE] at *; omega, fun x y z h1 h2 => by simp [ltE] at *; omega⟩
theorem mkE_one : ∀ x, ones [mkE x] = true := fun _ => rfl
theorem isNaNI_ok (a : Int) (s : St) : CallsD P F.cmp_isNaN_api_SpanID [mkE a] s fun v s' => v = .bool false ∧ s' = s :=
 CallsD.pure (fun s => (vc.cmp_isNaN_api_SpanID_ok (Q := fun v _ => v = .bool false) (by show AV.bool (a != a) = .bool false; simp)).a) rfl s
theorem LessI_ok (a b : Int) (s : St) : CallsD P F.cmp_Less_api_SpanID [mkE a, mkE b] s fun v s' => v = .bool (ltE a b) ∧ s' = s := by
 refine CallsD.pure (fun s => (vc.cmp_Less_api_SpanID_ok ((isNaNI_ok a s).mono ?_)).a) rfl s
 rintro _ _ ⟨rfl, rfl⟩
 exact ⟨false, rfl, bsel_of (fun c => by simp at c) fun _ => rfl⟩
def SortQ (s0 : St) (x : AV) (l : List Int) (a b : Nat) (v : AV) (s' : St) : Prop := v = .tuple [] ∧ ∃ l', Row mkE s0 x s' l' ∧ RP a b l l' ∧ Rise ltE a b l'
theorem Insertion_ok {s0 s : St} {x : AV} {l : List Int} (h : Row mkE s0 x s l) {a b : Nat} (hab : a ≤ b) (hb : b ≤ l.length) (hsz : l.length < 4611686018427387904) :
  CallsD P F.slices_insertionSortOrdered_api_SpanID [x, .int .i64 (a : Int), .int .i64 (b : Int)] s (SortQ s0 x l a b) := by
 refine vc.slices_insertionSortOrdered_api_SpanID_ok ⟨fun n3 s4 m => ∃ (i : Nat) (l1 : List Int), n3 = i ∧ m = b - i ∧ a + 1 ≤ i ∧ i ≤ max (a + 1) b ∧ Row mkE s0 x s4 l1 ∧ RP a b l l1 ∧ Rise ltE a i l1, ⟨_, a + 1, l, wr_succ (by omega), rfl, Nat.le_refl _, by omega, h, .refl _ _ _, .small (Nat.le_refl _)⟩, ?_⟩
 rintro _ s4 _ ⟨i, l1, rfl, rfl, hi, hi2, hR, hP, hS⟩
 refine bsel_of (fun c => ?_) fun c => ?_
 ·have c : i < b := by simpa using c
  have hl1 := hP.len
  refine ⟨fun n8 s9 m => ∃ (j : Nat) (l2 : List Int), n8 = j ∧ m = j + 1 ∧ a ≤ j ∧ j ≤ i ∧ Row mkE s0 x s9 l2 ∧ RP a b l l2 ∧ ∀ p q, a ≤ p → p < q → q ≤ i → q ≠ j → ltE (at' l2 q) (at' l2 p) = false, ⟨_, i, l1, rfl, rfl, by omega, Nat.le_refl _, hR, hP, fun p q h1 h2 h3 h4 => hS p q h1 h2 (by omega)⟩, ?_⟩
  rintro _ s9 _ ⟨j, l2, rfl, rfl, hj, hj2, hR2, hP2, hS2⟩
  have hl2 := hP2.len
  refine ⟨fun c s25 _ => c = (decide (a < j) && ltE (at' l2 j) (at' l2 (j - 1))) ∧ Row mkE s0 x s25 l2, ?_, ?_⟩
  ·intro s12 hB
   have hR3 := hR2.bump hB
   refine bsel_of (fun c1 => ?_) fun c1 => ?_
   ·have c1 : a < j := by simpa using c1
    refine hR3.rd rfl (by omega) (hR3.rd (k := j - 1) (wr_pred (by omega) (by omega)) (by omega) ((LessI_ok _ _ _).mono ?_))
    rintro _ _ ⟨rfl, rfl⟩
    exact ⟨_, rfl, 0, by simp [c1], hR3⟩
   ·have c1 : ¬ a < j := by simpa using c1
    exact ⟨0, by simp [c1], hR3⟩
  ·rintro c24 s25 _ ⟨rfl, hR3⟩
   refine bsel_of (fun c1 => ?_) fun c1 => ?_
   ·obtain ⟨c1, c2⟩ : a < j ∧ ltE (at' l2 j) (at' l2 (j - 1)) = true := by simpa using c1
    intro s27 hB
    have w1 := wr_pred (a := j) (by omega) (by omega)
    refine (hR3.bump hB).swap mkE_one w1 rfl (by omega) (by omega) fun s39 hR4 => ⟨j - 1 + 1, by omega, j - 1, _, w1, rfl, by omega, by omega, hR4, hP2.trans (.sw (by omega) (by omega) (by omega) (by omega)), ?_⟩
    intro p q h1 h2 h3 h4
    have gg := fun k => at_sw (l := l2) (i := j) (j := j - 1) (k := k) (by omega) (by omega)
    rw [gg, gg, if_neg (show ¬ q = j - 1 by omega)]
    by_cases e1 : q = j
    ·rw [if_pos e1]
     by_cases e2 : p = j - 1
     ·rw [if_pos e2]; exact ltE_o.asym _ _ c2
     ·rw [if_neg e2, if_neg (by omega)]; exact hS2 p (j - 1) h1 (by omega) (by omega) (by omega)
    ·rw [if_neg e1]
     by_cases e2 : p = j - 1
     ·rw [if_pos e2]; exact hS2 j q (by omega) (by omega) h3 e1
     ·rw [if_neg e2]
      by_cases e3 : p = j
      ·rw [if_pos e3]; exact hS2 (j - 1) q (by omega) (by omega) h3 e1
      ·rw [if_neg e3]; exact hS2 p q h1 h2 h3 e1
   ·refine ⟨b - (i + 1), by omega, i + 1, l2, wr_succ (by omega), rfl, by omega, by omega, hR3, hP2, fun p q h1 h2 h3 => ?_⟩
    by_cases e1 : q = j
    ·subst e1
     have c2 : ltE (at' l2 q) (at' l2 (q - 1)) = false := by
      simp only [Bool.and_eq_false_iff, decide_eq_false_iff_not] at c1
      rcases c1 with c1 | c1
      ·omega
      ·exact c1
     by_cases e2 : p = q - 1
     ·rw [e2]; exact c2
     ·exact ltE_o.ntrans _ _ _ (hS2 p (q - 1) h1 (by omega) (by omega) (by omega)) c2
    ·exact hS2 p q h1 h2 (by omega) e1
 ·have c : ¬ i < b := by simpa using c
  refine ⟨rfl, l1, hR, hP, fun p q h1 h2 h3 => hS p q h1 h2 (by omega)⟩
def Hp (f lo hi : Nat) (l : List Int) : Prop := ∀ k c, lo ≤ k → c < hi → (c = 2 * k + 1 ∨ c = 2 * k + 2) → ltE (at' l (f + k)) (at' l (f + c)) = false
theorem Sift_ok {s0 s : St} {x : AV} {l : List Int} (h : Row mkE s0 x s l) {lo hi f : Nat} (hb : f + hi ≤ l.length) (hlo : lo ≤ hi) (hsz : l.length < 2305843009213693952) (hH : Hp f (lo + 1) hi l) :
  CallsD P F.slices_siftDownOrdered_api_SpanID [x, .int .i64 (lo : Int), .int .i64 (hi : Int), .int .i64 (f : Int)] s fun v s' => v = .tuple [] ∧ ∃ l', Row mkE s0 x s' l' ∧ RP (f + lo) (f + hi) l l' ∧ Hp f lo hi l' := by
 refine vc.slices_siftDownOrdered_api_SpanID_ok ⟨fun n3 s4 m => ∃ (r : Nat) (l1 : List Int), n3 = r ∧ m = hi - r ∧ lo ≤ r ∧ r ≤ hi ∧ Row mkE s0 x s4 l1 ∧ RP (f + lo) (f + hi) l l1 ∧ (∀ k c, lo ≤ k → k ≠ r → c < hi → (c = 2 * k + 1 ∨ c = 2 * k + 2) → ltE (at' l1 (f + k)) (at' l1 (f + c)) = false) ∧ (∀ k c, lo ≤ k → (r = 2 * k + 1 ∨ r = 2 * k + 2) → c < hi → (c = 2 * r + 1 ∨ c = 2 * r + 2) → ltE (at' l1 (f + k)) (at' l1 (f + c)) = false), ⟨_, lo, l, rfl, rfl, Nat.le_refl _, hlo, h, .refl _ _ _, fun k c h1 h2 h3 h4 => hH k c (by omega) h3 h4, fun k c h1 h2 => by omega⟩, ?_⟩
 rintro _ s4 _ ⟨r, l1, rfl, rfl, hr, hr2, hR, hP, hS, hG⟩
 have hl1 := hP.len
 rw [wr_dbl (a := r) (by omega), wr_succ (a := 2 * r) (by omega)]
 refine bsel_of (fun c1 => ?_) fun c1 => ?_
 ·have c1 : hi ≤ 2 * r + 1 := by simp only [decide_eq_true_eq, decide_eq_false_iff_not] at c1; omega
  refine ⟨rfl, l1, hR, hP, fun k c h1 h2 h3 => ?_⟩
  by_cases e : k = r
  ·omega
  ·exact hS k c h1 e h2 h3
 ·have c1 : 2 * r + 1 < hi := by simp only [decide_eq_true_eq, decide_eq_false_iff_not] at c1; omega
  refine ⟨fun n s21 _ => ∃ c : Nat, n = c ∧ (c = 2 * r + 1 ∨ c = 2 * r + 2) ∧ c < hi ∧ (∀ d, (d = 2 * r + 1 ∨ d = 2 * r + 2) → d < hi → ltE (at' l1 (f + c)) (at' l1 (f + d)) = false) ∧ Row mkE s0 x s21 l1, ?_, ?_⟩
  ·intro s7 hB
   have hR2 := hR.bump hB
   rw [wr_succ (a := 2 * r + 1) (by omega)]
   refine bsel_of (fun c2 => ?_) fun c2 => ?_
   ·have c2 : 2 * r + 1 + 1 < hi := by simp only [decide_eq_true_eq, decide_eq_false_iff_not] at c2; omega
    rw [wr_add (a := f) (b := 2 * r + 1) (by omega), wr_succ (a := f + (2 * r + 1)) (by omega)]
    refine hR2.rd rfl (by omega) (hR2.rd rfl (by omega) ((LessI_ok _ _ _).mono ?_))
    rintro _ _ ⟨rfl, rfl⟩
    refine ⟨_, rfl, bsel_of (fun c3 => ?_) fun c3 => ?_⟩
    ·refine ⟨0, 2 * r + 1 + 1, rfl, by omega, c2, fun d h1 h2 => ?_, hR2⟩
     rcases h1 with rfl | rfl
     ·exact ltE_o.asym _ _ c3
     ·exact ltE_o.irrefl _
    ·refine ⟨0, 2 * r + 1, rfl, by omega, c1, fun d h1 h2 => ?_, hR2⟩
     rcases h1 with rfl | rfl
     ·exact ltE_o.irrefl _
     ·exact c3
   ·have c2 : ¬ 2 * r + 1 + 1 < hi := by simp only [decide_eq_true_eq, decide_eq_false_iff_not] at c2; omega
    refine ⟨0, 2 * r + 1, rfl, by omega, c1, fun d h1 h2 => ?_, hR2⟩
    rcases h1 with rfl | rfl
    ·exact ltE_o.irrefl _
    ·omega
  ·rintro _ s21 _ ⟨c, rfl, hc, hch, hmax, hR2⟩
   intro s23 hB
   have hR3 := hR2.bump hB
   rw [wr_add (a := f) (b := r) (by omega), wr_add (a := f) (b := c) (by omega)]
   refine hR3.rd rfl (by omega) (hR3.rd rfl (by omega) ((LessI_ok _ _ _).mono ?_))
   rintro _ _ ⟨rfl, rfl⟩
   refine ⟨_, rfl, bsel_of (fun c3 => ?_) fun c3 => ?_⟩
   ·have c3 : ltE (at' l1 (f + r)) (at' l1 (f + c)) = false := by simpa using c3
    refine ⟨rfl, l1, hR3, hP, fun k d h1 h2 h3 => ?_⟩
    by_cases e : k = r
    ·subst e; exact ltE_o.ntrans _ _ _ (hmax d h3 h2) c3
    ·exact hS k d h1 e h2 h3
   ·have c3 : ltE (at' l1 (f + r)) (at' l1 (f + c)) = true := by simpa using c3
    intro s33 hB2
    refine (hR3.bump hB2).swap mkE_one rfl rfl (by omega) (by omega) fun s45 hR4 => ⟨hi - c, by omega, c, _, rfl, rfl, by omega, by omega, hR4, hP.trans (.sw (by omega) (by omega) (by omega) (by omega)), fun k d h1 h2 h3 h4 => ?_, fun k d h1 h2 h3 h4 => ?_⟩
    ·have gg := fun k => at_sw (l := l1) (i := f + r) (j := f + c) (k := k) (by omega) (by omega)
     rw [gg, gg, if_neg (show ¬ f + k = f + c by omega)]
     by_cases e1 : k = r
     ·subst e1
      rw [if_pos rfl]
      by_cases e2 : d = c
      ·rw [e2, if_pos rfl]; exact ltE_o.asym _ _ c3
      ·rw [if_neg (by omega), if_neg (by omega)]; exact hmax d h4 h3
     ·rw [if_neg (by omega)]
      by_cases e2 : d = r
      ·subst e2
       rw [if_neg (by omega), if_pos rfl]
       exact hG k c h1 h4 hch hc
      ·rw [if_neg (by omega), if_neg (by omega)]; exact hS k d h1 e1 h3 h4
    ·have gg := fun k => at_sw (l := l1) (i := f + r) (j := f + c) (k := k) (by omega) (by omega)
     have e : k = r := by omega
     subst e
     rw [gg, gg, if_neg (by omega), if_pos rfl, if_neg (by omega), if_neg (by omega)]
     exact hS c d (by omega) (by omega) h3 h4
theorem Hp.top {f hi : Nat} {l : List Int} (h : Hp f 0 hi l) : ∀ k, k < hi → ltE (at' l f) (at' l (f + k)) = false := by
 intro k
 induction k using Nat.strongRecOn with
 | _ k ih =>
  intro hk
  by_cases e : k = 0
  ·subst e; exact ltE_o.irrefl _
  ·have h1 := ih ((k - 1) / 2) (by omega) (by omega)
   have h2 := h ((k - 1) / 2) k (by omega) hk (by omega)
   exact ltE_o.ntrans _ _ _ (by
    have : ltE (at' l (f + (k - 1) / 2)) (at' l (f + k)) = false := h2
    exact this) h1
theorem Heap_ok {s0 s : St} {x : AV} {l : List Int} (h : Row mkE s0 x s l) {a b : Nat} (hab : a ≤ b) (hb : b ≤ l.length) (hsz : l.length < 2305843009213693952) :
  CallsD P F.slices_heapSortOrdered_api_SpanID [x, .int .i64 (a : Int), .int .i64 (b : Int)] s (SortQ s0 x l a b) := by
 obtain ⟨hi, rfl⟩ : ∃ hi, b = a + hi := ⟨b - a, by omega⟩
 refine vc.slices_heapSortOrdered_api_SpanID_ok ⟨by decide, ?_⟩
 rw [wr_sub (a := a + hi) (b := a) (by omega) (by omega), Nat.add_sub_cancel_left]
 refine ⟨fun n3 s4 m => ∃ (j : Nat) (l1 : List Int), n3 = (j : Int) - 1 ∧ m = j + 1 ∧ j ≤ hi + 1 ∧ Row mkE s0 x s4 l1 ∧ RP a (a + hi) l l1 ∧ Hp a j hi l1, ⟨_, (hi - 1) / 2 + 1, l, ?_, rfl, by omega, h, .refl _ _ _, fun k c h1 h2 h3 => by omega⟩, ?_⟩
 ·by_cases e : hi = 0
  ·subst e; decide
  ·rw [wr_pred (a := hi) (by omega) (by omega)]
   have := wr_half (a := hi - 1) (b := 2) (by omega) (by omega)
   rw [show ((2 : Nat) : Int) = 2 from rfl] at this
   rw [this]; omega
 rintro _ s4 _ ⟨j, l1, rfl, rfl, hj, hR, hP, hH⟩
 have hl1 := hP.len
 refine bsel_of (fun c => ?_) fun c => ?_
 ·have c : 1 ≤ j := by simp at c; omega
  obtain ⟨i, rfl⟩ : ∃ i, j = i + 1 := ⟨j - 1, by omega⟩
  rw [show ((i + 1 : Nat) : Int) - 1 = (i : Int) by omega]
  refine (Sift_ok hR (lo := i) (hi := hi) (f := a) (by omega) (by omega) (by omega) hH).mono ?_
  rintro _ s7 ⟨rfl, l2, hR2, hP2, hH2⟩
  exact ⟨rfl, i + 1, by omega, i, l2, by rw [wrap_i64 (by omega) (by omega)], rfl, by omega, hR2, hP.trans (hP2.mono (by omega) (Nat.le_refl _)), hH2⟩
 ·have c : j = 0 := by simp at c; omega
  subst c
  refine ⟨fun n11 s12 m => ∃ (j : Nat) (l2 : List Int), n11 = (j : Int) - 1 ∧ m = j + 1 ∧ j ≤ hi ∧ Row mkE s0 x s12 l2 ∧ RP a (a + hi) l l2 ∧ Hp a 0 j l2 ∧ Rise ltE (a + j) (a + hi) l2 ∧ (∀ p q, p < j → j ≤ q → q < hi → ltE (at' l2 (a + q)) (at' l2 (a + p)) = false), ⟨_, hi, l1, by rw [wrap_i64 (by omega) (by omega)], rfl, Nat.le_refl _, hR, hP, hH, .small (by omega), fun p q h1 h2 h3 => by omega⟩, ?_⟩
  rintro _ s12 _ ⟨j, l2, rfl, rfl, hj, hR2, hP2, hH2, hS2, hA2⟩
  have hl2 := hP2.len
  refine bsel_of (fun c => ?_) fun c => ?_
  ·have c : 1 ≤ j := by simp at c; omega
   obtain ⟨i, rfl⟩ : ∃ i, j = i + 1 := ⟨j - 1, by omega⟩
   rw [show ((i + 1 : Nat) : Int) - 1 = (i : Int) by omega]
   intro s14 hB
   refine (hR2.bump hB).swap mkE_one (wr_add (by omega)) rfl (by omega) (by omega) fun s26 hR3 => ?_
   have gg := fun k => at_sw (l := l2) (i := a) (j := a + i) (k := k) (by omega) (by omega)
   have hold : ∀ k, k < i + 1 → ∃ k', k' < i + 1 ∧ at' (sw l2 a (a + i)) (a + k) = at' l2 (a + k') := fun k hk => by
    rw [gg]
    split
    ·exact ⟨0, by omega, by simp⟩
    ·split
     ·exact ⟨i, by omega, rfl⟩
     ·exact ⟨k, hk, rfl⟩
   refine (Sift_ok hR3 (lo := 0) (hi := i) (f := a) (by simp; omega) (by omega) (by simp; omega) fun k c h1 h2 h3 => ?_).mono ?_
   ·rw [gg, gg, if_neg (by omega), if_neg (by omega), if_neg (by omega), if_neg (by omega)]
    exact hH2 k c (by omega) (by omega) h3
   ·rintro _ s28 ⟨rfl, l4, hR4, hP4, hH4⟩
    rw [Nat.add_zero] at hP4
    have htop : at' l4 (a + i) = at' l2 a := by rw [hP4.out _ (.inr (Nat.le_refl _)), gg, if_pos rfl]
    have hkeep : ∀ q, i + 1 ≤ q → at' l4 (a + q) = at' l2 (a + q) := fun q hq => by rw [hP4.out _ (.inr (by omega)), gg, if_neg (by omega), if_neg (by omega)]
    refine ⟨rfl, i + 1, by omega, i, l4, by rw [wrap_i64 (by omega) (by omega)], rfl, by omega, hR4, hP2.trans ((RP.sw (by omega) (by omega) (by omega) (by omega)).trans (hP4.mono (Nat.le_refl _) (by omega))), hH4, fun p q h1 h2 h3 => ?_, fun p q h1 h2 h3 => ?_⟩
    ·obtain ⟨q', rfl⟩ : ∃ q', q = a + q' := ⟨q - a, by omega⟩
     obtain ⟨p', rfl⟩ : ∃ p', p = a + p' := ⟨p - a, by omega⟩
     rw [hkeep q' (by omega)]
     by_cases e : p' = i
     ·rw [e, htop]; exact hA2 0 q' (by omega) (by omega) (by omega)
     ·rw [hkeep p' (by omega)]; exact hS2 _ _ (by omega) h2 h3
    ·by_cases e : q = i
     ·subst e
      rw [htop]
      refine hP4.all (p := fun y => ltE (at' l2 a) y = false) (by simp; omega) (fun k g1 g2 => ?_) (a + p) (by omega) (by omega)
      obtain ⟨k', rfl⟩ : ∃ k', k = a + k' := ⟨k - a, by omega⟩
      obtain ⟨k2, e1, e2⟩ := hold k' (by omega)
      rw [e2]
      exact hH2.top k2 e1
     ·rw [hkeep q (by omega)]
      refine hP4.all (p := fun y => ltE (at' l2 (a + q)) y = false) (by simp; omega) (fun k g1 g2 => ?_) (a + p) (by omega) (by omega)
      obtain ⟨k', rfl⟩ : ∃ k', k = a + k' := ⟨k - a, by omega⟩
      obtain ⟨k2, e1, e2⟩ := hold k' (by omega)
      rw [e2]
      exact hA2 k2 q e1 (by omega) h3
  ·have c : j = 0 := by simp at c; omega
   subst c
   exact ⟨rfl, l2, hR2, hP2, by simpa using hS2⟩
theorem Reverse_ok {s0 s : St} {x : AV} {l : List Int} (h : Row mkE s0 x s l) {a b : Nat} (hab : a ≤ b) (hb : b ≤ l.length) (hsz : l.length < 2305843009213693952) :
  CallsD P F.slices_reverseRangeOrdered_api_SpanID [x, .int .i64 (a : Int), .int .i64 (b : Int)] s fun v s' => v = .tuple [] ∧ ∃ l', Row mkE s0 x s' l' ∧ RP a b l l' := by
 refine vc.slices_reverseRangeOrdered_api_SpanID_ok ⟨fun n3 n4 s5 m => ∃ (i j : Nat) (l1 : List Int), n3 = i ∧ n4 = (j : Int) - 1 ∧ m = j ∧ a ≤ i ∧ j ≤ b ∧ Row mkE s0 x s5 l1 ∧ RP a b l l1, ⟨_, a, b, l, rfl, by rw [wrap_i64 (by omega) (by omega)], rfl, Nat.le_refl _, Nat.le_refl _, h, .refl _ _ _⟩, ?_⟩
 rintro _ _ s5 m ⟨i, j, l1, rfl, rfl, hm, hi, hj, hR, hP⟩
 have hl1 := hP.len
 refine bsel_of (fun c => ?_) fun c => ⟨rfl, l1, hR, hP⟩
 have c : i + 1 < j := by simp at c; omega
 obtain ⟨j, rfl⟩ : ∃ j', j = j' + 1 := ⟨j - 1, by omega⟩
 rw [show ((j + 1 : Nat) : Int) - 1 = (j : Int) by omega]
 intro s7 hB
 refine (hR.bump hB).swap mkE_one rfl rfl (by omega) (by omega) fun s19 hR3 => ?_
 exact ⟨j, by omega, i + 1, j, _, wr_succ (by omega), by rw [wrap_i64 (by omega) (by omega)], rfl, by omega, by omega, hR3, hP.trans (.sw (by omega) (by omega) (by omega) (by omega))⟩
end
end Go.Eng.S

namespace Go.Eng.S
open Go Go.Eng Go.Proofs
set_option linter.constructorNameAsVariable false
noncomputable section
attribute [local irreducible] bsel
structure Pt (g : Int → Int → Bool) (s0 : St) (x : AV) (l : List Int) (a b i j : Nat) (s : St) (l1 : List Int) : Prop where
 row : Row mkE s0 x s l1
 rp : RP a b l l1
 ha : a + 1 ≤ i
 hij : i ≤ j + 1
 hb : j + 1 ≤ b
 lo : ∀ k, a + 1 ≤ k → k < i → g (at' l1 a) (at' l1 k) = true
 hi : ∀ k, j < k → k < b → g (at' l1 a) (at' l1 k) = false
variable {g : Int → Int → Bool} {s0 s s' : St} {x : AV} {l l1 : List Int} {a b i j : Nat}
theorem Pt.at (h : Pt g s0 x l a b i j s l1) (hR : Row mkE s0 x s' l1) : Pt g s0 x l a b i j s' l1 := ⟨hR, h.rp, h.ha, h.hij, h.hb, h.lo, h.hi⟩
theorem Pt.up (h : Pt g s0 x l a b i j s l1) (hR : Row mkE s0 x s' l1) (hij : i ≤ j) (hg : g (at' l1 a) (at' l1 i) = true) : Pt g s0 x l a b (i + 1) j s' l1 :=
 ⟨hR, h.rp, by have := h.ha; omega, by omega, h.hb, fun k h1 h2 => by
  by_cases e : k = i
  ·rw [e]; exact hg
  ·exact h.lo k h1 (by omega), h.hi⟩
theorem Pt.down (h : Pt g s0 x l a b i j s l1) (hR : Row mkE s0 x s' l1) (hij : i ≤ j) (hg : g (at' l1 a) (at' l1 j) = false) : Pt g s0 x l a b i (j - 1) s' l1 :=
 ⟨hR, h.rp, h.ha, by have := h.ha; omega, by have := h.hb; omega, h.lo, fun k h1 h2 => by
  by_cases e : k = j
  ·rw [e]; exact hg
  ·exact h.hi k (by have := h.ha; omega) h2⟩
theorem Pt.step (h : Pt g s0 x l a b i j s l1) (hbl : b ≤ l.length) (hij : i ≤ j) (h1 : g (at' l1 a) (at' l1 i) = false) (h2 : g (at' l1 a) (at' l1 j) = true) (hR : Row mkE s0 x s' (sw l1 i j)) : Pt g s0 x l a b (i + 1) (j - 1) s' (sw l1 i j) := by
 have hne : i ≠ j := by rintro rfl; rw [h1] at h2; simp at h2
 have hl := h.rp.len
 have ha := h.ha
 have hb := h.hb
 have gg := fun k => at_sw (l := l1) (i := i) (j := j) (k := k) (by omega) (by omega)
 refine ⟨hR, h.rp.trans (.sw (by omega) (by omega) (by omega) (by omega)), by omega, by omega, by omega, fun k g1 g2 => ?_, fun k g1 g2 => ?_⟩
 ·rw [gg, gg, if_neg (show ¬ a = j by omega), if_neg (show ¬ a = i by omega), if_neg (show ¬ k = j by omega)]
  by_cases e : k = i
  ·rw [if_pos e]; exact h2
  ·rw [if_neg e]; exact h.lo k g1 (by omega)
 ·rw [gg, gg, if_neg (show ¬ a = j by omega), if_neg (show ¬ a = i by omega)]
  by_cases e : k = j
  ·rw [if_pos e]; exact h1
  ·rw [if_neg e, if_neg (by omega)]; exact h.hi k (by omega) g2
def PartQ (s0 : St) (x : AV) (l : List Int) (a b : Nat) (v : AV) (s' : St) : Prop :=
 ∃ (mid : Nat) (c : Bool) (l' : List Int), v = .tuple [.int .i64 (mid : Int), .bool c] ∧ a ≤ mid ∧ mid < b ∧ Row mkE s0 x s' l' ∧ RP a b l l' ∧ (∀ k, a ≤ k → k < mid → ltE (at' l' k) (at' l' mid) = true) ∧ (∀ k, mid < k → k < b → ltE (at' l' k) (at' l' mid) = false)
abbrev gP (p y : Int) : Bool := ltE y p
abbrev gE (p y : Int) : Bool := !ltE p y
theorem Pt.fin (h : Pt gP s0 x l a b i j s l1) (hbl : b ≤ l.length) (hij : j < i) (c : Bool) (hR : Row mkE s0 x s' (sw l1 j a)) : PartQ s0 x l a b (.tuple [.int .i64 (j : Int), .bool c]) s' := by
 have hl := h.rp.len
 have ha := h.ha
 have hb := h.hb
 have hi := h.hij
 have gg := fun k => at_sw (l := l1) (i := j) (j := a) (k := k) (by omega) (by omega)
 refine ⟨j, c, _, rfl, by omega, by omega, hR, h.rp.trans (.sw (by omega) (by omega) (by omega) (by omega)), fun k g1 g2 => ?_, fun k g1 g2 => ?_⟩
 ·rw [gg, gg, if_neg (show ¬ j = a by omega), if_pos rfl]
  by_cases e : k = a
  ·rw [if_pos e]; exact h.lo j (by omega) (by omega)
  ·rw [if_neg e, if_neg (by omega)]; exact h.lo k (by omega) (by omega)
 ·have hja : at' (sw l1 j a) j = at' l1 a := by
   rw [gg]
   by_cases e : j = a
   ·rw [if_pos e, e]
   ·rw [if_neg e, if_pos rfl]
  rw [hja, gg, if_neg (by omega), if_neg (by omega)]
  exact h.hi k g1 g2
theorem Partition_ok (h : Row mkE s0 x s l) {p : Nat} (hp : a ≤ p ∧ p < b) (hb : b ≤ l.length) (hsz : l.length < 2305843009213693952) :
  CallsD P F.slices_partitionOrdered_api_SpanID [x, .int .i64 (a : Int), .int .i64 (b : Int), .int .i64 (p : Int)] s (PartQ s0 x l a b) := by
 refine vc.slices_partitionOrdered_api_SpanID_ok fun s1 hB => (h.bump hB).swap mkE_one rfl rfl (by omega) (by omega) fun s13 hR0 => ?_
 have hP0 : RP a b l (sw l a p) := .sw (by omega) (by omega) (by omega) (by omega)
 generalize sw l a p = l0 at hR0 hP0
 rw [wr_succ (a := a) (by omega), wr_pred (a := b) (by omega) (by omega)]
 refine ⟨fun n16 s17 m => ∃ i : Nat, n16 = i ∧ m = b - i ∧ Pt gP s0 x l a b i (b - 1) s17 l0, ⟨_, a + 1, rfl, rfl, hR0, hP0, Nat.le_refl _, by omega, by omega, fun k h1 h2 => by omega, fun k h1 h2 => by omega⟩, ?_⟩
 rintro _ s17 _ ⟨i, rfl, rfl, hT⟩
 have hl0 := hP0.len
 have hi1 := hT.ha
 have hi2 := hT.hij
 refine ⟨fun c s33 _ => c = (decide (i ≤ b - 1) && ltE (at' l0 i) (at' l0 a)) ∧ Row mkE s0 x s33 l0, ?_, ?_⟩
 ·intro s20 hB
  have hR3 := hT.row.bump hB
  refine bsel_of (fun c1 => ?_) fun c1 => ?_
  ·have c1 : i ≤ b - 1 := by simp only [decide_eq_true_eq] at c1; omega
   refine hR3.rd rfl (by omega) (hR3.rd rfl (by omega) ((LessI_ok _ _ _).mono ?_))
   rintro _ _ ⟨rfl, rfl⟩
   exact ⟨_, rfl, 0, by simp [c1], hR3⟩
  ·have c1 : ¬ i ≤ b - 1 := by simp only [decide_eq_false_iff_not] at c1; omega
   exact ⟨0, by simp [c1], hR3⟩
 rintro c32 s33 _ ⟨rfl, hR3⟩
 refine bsel_of (fun c1 => ?_) fun c1 => ?_
 ·simp only [Bool.and_eq_true, decide_eq_true_eq] at c1
  exact ⟨b - (i + 1), by omega, i + 1, wr_succ (by omega), rfl, hT.up hR3 c1.1 c1.2⟩
 have hex : i ≤ b - 1 → ltE (at' l0 i) (at' l0 a) = false := fun c2 => by simpa [c2] using c1
 clear c1
 refine ⟨fun n38 s39 m => ∃ j : Nat, n38 = j ∧ m = j ∧ Pt gP s0 x l a b i j s39 l0, ⟨_, b - 1, rfl, rfl, hT.at hR3⟩, ?_⟩
 rintro _ s39 m ⟨j, rfl, hm, hT2⟩
 have hj1 := hT2.hb
 have hj2 := hT2.hij
 refine ⟨fun c s55 _ => c = (decide (i ≤ j) && !ltE (at' l0 j) (at' l0 a)) ∧ Row mkE s0 x s55 l0, ?_, ?_⟩
 ·intro s42 hB
  have hR4 := hT2.row.bump hB
  refine bsel_of (fun c1 => ?_) fun c1 => ?_
  ·have c1 : i ≤ j := by simp only [decide_eq_true_eq] at c1; omega
   refine hR4.rd rfl (by omega) (hR4.rd rfl (by omega) ((LessI_ok _ _ _).mono ?_))
   rintro _ _ ⟨rfl, rfl⟩
   exact ⟨_, rfl, 0, by simp [c1], hR4⟩
  ·have c1 : ¬ i ≤ j := by simp only [decide_eq_false_iff_not] at c1; omega
   exact ⟨0, by simp [c1], hR4⟩
 rintro c54 s55 _ ⟨rfl, hR4⟩
 refine bsel_of (fun c1 => ?_) fun c1 => ?_
 ·simp only [Bool.and_eq_true, decide_eq_true_eq, Bool.not_eq_true'] at c1
  exact ⟨j - 1, by omega, j - 1, wr_pred (by omega) (by omega), rfl, hT2.down hR4 c1.1 c1.2⟩
 have hex2 : i ≤ j → ltE (at' l0 j) (at' l0 a) = true := fun c2 => by simpa [c2] using c1
 clear c1
 refine bsel_of (fun c1 => ?_) fun c1 => ?_
 ·have c1 : j < i := by simp only [decide_eq_true_eq] at c1; omega
  intro s58 hB
  exact (hR4.bump hB).swap mkE_one rfl rfl (by omega) (by omega) fun s70 hR5 => hT2.fin hb c1 true hR5
 have c1 : i ≤ j := by simp only [decide_eq_false_iff_not] at c1; omega
 intro s71 hB
 refine (hR4.bump hB).swap mkE_one rfl rfl (by omega) (by omega) fun s83 hR5 => ?_
 have hT3 := hT2.step hb c1 (hex (by omega)) (hex2 c1) hR5
 generalize sw l0 i j = l5 at hR5 hT3
 rw [wr_succ (a := i) (by omega), wr_pred (a := j) (by omega) (by omega)]
 have hj4 := hT3.ha
 generalize i + 1 = i3 at hT3 hj4
 have hj5 := hT3.hb
 generalize j - 1 = j3 at hT3 hj5
 refine ⟨fun n86 n87 s88 m => ∃ (i j : Nat) (l1 : List Int), n86 = i ∧ n87 = j ∧ m = j + 1 - i ∧ Pt gP s0 x l a b i j s88 l1, ⟨_, i3, j3, l5, rfl, rfl, rfl, hT3⟩, ?_⟩
 clear hex hex2 c1 hT hT2 hT3 hR0 hR3 hR4 hR5 hP0 hl0 hi1 hi2 hj1 hj2 hj4 hj5 hm m
 rintro _ _ s88 m89 ⟨i, j, l1, rfl, rfl, hm89, hT⟩
 have hl1 := hT.rp.len
 refine ⟨fun n92 s93 m => ∃ i1 : Nat, n92 = i1 ∧ m = j + 1 - i1 ∧ i ≤ i1 ∧ Pt gP s0 x l a b i1 j s93 l1, ⟨_, i, rfl, rfl, Nat.le_refl _, hT⟩, ?_⟩
 rintro _ s93 m94 ⟨i1, rfl, hm94, hii, hT1⟩
 have hi1 := hT1.ha
 have hi2 := hT1.hij
 have hi3 := hT1.hb
 refine ⟨fun c s33 _ => c = (decide (i1 ≤ j) && ltE (at' l1 i1) (at' l1 a)) ∧ Row mkE s0 x s33 l1, ?_, ?_⟩
 ·intro s20 hB
  have hR3 := hT1.row.bump hB
  refine bsel_of (fun c1 => ?_) fun c1 => ?_
  ·have c1 : i1 ≤ j := by simp only [decide_eq_true_eq] at c1; omega
   refine hR3.rd rfl (by omega) (hR3.rd rfl (by omega) ((LessI_ok _ _ _).mono ?_))
   rintro _ _ ⟨rfl, rfl⟩
   exact ⟨_, rfl, 0, by simp [c1], hR3⟩
  ·have c1 : ¬ i1 ≤ j := by simp only [decide_eq_false_iff_not] at c1; omega
   exact ⟨0, by simp [c1], hR3⟩
 rintro c108 s109 _ ⟨rfl, hR3⟩
 refine bsel_of (fun c1 => ?_) fun c1 => ?_
 ·simp only [Bool.and_eq_true, decide_eq_true_eq] at c1
  exact ⟨j + 1 - (i1 + 1), by omega, i1 + 1, wr_succ (by omega), rfl, by omega, hT1.up hR3 c1.1 c1.2⟩
 have hex : i1 ≤ j → ltE (at' l1 i1) (at' l1 a) = false := fun c2 => by simpa [c2] using c1
 clear c1
 refine ⟨fun n38 s39 m => ∃ j1 : Nat, n38 = j1 ∧ m = j1 ∧ j1 ≤ j ∧ Pt gP s0 x l a b i1 j1 s39 l1, ⟨_, j, rfl, rfl, Nat.le_refl _, hT1.at hR3⟩, ?_⟩
 rintro _ s115 m116 ⟨j1, rfl, hm116, hjj, hT2⟩
 have hj1 := hT2.hb
 have hj2 := hT2.hij
 refine ⟨fun c s55 _ => c = (decide (i1 ≤ j1) && !ltE (at' l1 j1) (at' l1 a)) ∧ Row mkE s0 x s55 l1, ?_, ?_⟩
 ·intro s42 hB
  have hR4 := hT2.row.bump hB
  refine bsel_of (fun c1 => ?_) fun c1 => ?_
  ·have c1 : i1 ≤ j1 := by simp only [decide_eq_true_eq] at c1; omega
   refine hR4.rd rfl (by omega) (hR4.rd rfl (by omega) ((LessI_ok _ _ _).mono ?_))
   rintro _ _ ⟨rfl, rfl⟩
   exact ⟨_, rfl, 0, by simp [c1], hR4⟩
  ·have c1 : ¬ i1 ≤ j1 := by simp only [decide_eq_false_iff_not] at c1; omega
   exact ⟨0, by simp [c1], hR4⟩
 rintro c130 s131 _ ⟨rfl, hR4⟩
 refine bsel_of (fun c1 => ?_) fun c1 => ?_
 ·simp only [Bool.and_eq_true, decide_eq_true_eq, Bool.not_eq_true'] at c1
  exact ⟨j1 - 1, by omega, j1 - 1, wr_pred (by omega) (by omega), rfl, by omega, hT2.down hR4 c1.1 c1.2⟩
 have hex2 : i1 ≤ j1 → ltE (at' l1 j1) (at' l1 a) = true := fun c2 => by simpa [c2] using c1
 clear c1
 refine bsel_of (fun c1 => ?_) fun c1 => ?_
 ·have c1 : j1 < i1 := by simp only [decide_eq_true_eq] at c1; omega
  intro s58 hB
  exact (hR4.bump hB).swap mkE_one rfl rfl (by omega) (by omega) fun s70 hR5 => hT2.fin hb c1 false hR5
 have c1 : i1 ≤ j1 := by simp only [decide_eq_false_iff_not] at c1; omega
 intro s147 hB
 refine (hR4.bump hB).swap mkE_one rfl rfl (by omega) (by omega) fun s159 hR5 => ?_
 exact ⟨j1 - 1 + 1 - (i1 + 1), by omega, i1 + 1, j1 - 1, _, wr_succ (by omega), wr_pred (by omega) (by omega), rfl, hT2.step hb c1 (hex (by omega)) (hex2 c1) hR5⟩
def PartEQ (s0 : St) (x : AV) (l : List Int) (a b : Nat) (pv : Int) (v : AV) (s' : St) : Prop :=
 ∃ (mid : Nat) (l' : List Int), v = .int .i64 (mid : Int) ∧ a < mid ∧ mid ≤ b ∧ Row mkE s0 x s' l' ∧ RP a b l l' ∧ (∀ k, a ≤ k → k < mid → ltE pv (at' l' k) = false) ∧ (∀ k, mid ≤ k → k < b → ltE pv (at' l' k) = true)
theorem PartitionEqual_ok (h : Row mkE s0 x s l) {p : Nat} (hp : a ≤ p ∧ p < b) (hb : b ≤ l.length) (hsz : l.length < 2305843009213693952) :
  CallsD P F.slices_partitionEqualOrdered_api_SpanID [x, .int .i64 (a : Int), .int .i64 (b : Int), .int .i64 (p : Int)] s (PartEQ s0 x l a b (at' l p)) := by
 refine vc.slices_partitionEqualOrdered_api_SpanID_ok fun s1 hB => (h.bump hB).swap mkE_one rfl rfl (by omega) (by omega) fun s13 hR0 => ?_
 have hP0 : RP a b l (sw l a p) := .sw (by omega) (by omega) (by omega) (by omega)
 have hpv : at' (sw l a p) a = at' l p := by
  rw [at_sw (by omega) (by omega)]
  by_cases e : a = p
  ·rw [if_pos e, e]
  ·rw [if_neg e, if_pos rfl]
 generalize sw l a p = l0 at hR0 hP0 hpv
 rw [wr_succ (a := a) (by omega), wr_pred (a := b) (by omega) (by omega)]
 refine ⟨fun n86 n87 s88 m => ∃ (i j : Nat) (l1 : List Int), n86 = i ∧ n87 = j ∧ m = j + 1 - i ∧ at' l1 a = at' l p ∧ Pt gE s0 x l a b i j s88 l1, ⟨_, a + 1, b - 1, l0, rfl, rfl, rfl, hpv, hR0, hP0, Nat.le_refl _, by omega, by omega, fun k h1 h2 => by omega, fun k h1 h2 => by omega⟩, ?_⟩
 clear hpv
 rintro _ _ s88 m89 ⟨i, j, l1, rfl, rfl, hm89, hpv, hT⟩
 have hl1 := hT.rp.len
 refine ⟨fun n92 s93 m => ∃ i1 : Nat, n92 = i1 ∧ m = j + 1 - i1 ∧ i ≤ i1 ∧ Pt gE s0 x l a b i1 j s93 l1, ⟨_, i, rfl, rfl, Nat.le_refl _, hT⟩, ?_⟩
 rintro _ s93 m94 ⟨i1, rfl, hm94, hii, hT1⟩
 have hi1 := hT1.ha
 have hi2 := hT1.hij
 have hi3 := hT1.hb
 refine ⟨fun c s33 _ => c = (decide (i1 ≤ j) && !ltE (at' l1 a) (at' l1 i1)) ∧ Row mkE s0 x s33 l1, ?_, ?_⟩
 ·intro s20 hB
  have hR3 := hT1.row.bump hB
  refine bsel_of (fun c1 => ?_) fun c1 => ?_
  ·have c1 : i1 ≤ j := by simp only [decide_eq_true_eq] at c1; omega
   refine hR3.rd rfl (by omega) (hR3.rd rfl (by omega) ((LessI_ok _ _ _).mono ?_))
   rintro _ _ ⟨rfl, rfl⟩
   exact ⟨_, rfl, 0, by simp [c1], hR3⟩
  ·have c1 : ¬ i1 ≤ j := by simp only [decide_eq_false_iff_not] at c1; omega
   exact ⟨0, by simp [c1], hR3⟩
 rintro c108 s109 _ ⟨rfl, hR3⟩
 refine bsel_of (fun c1 => ?_) fun c1 => ?_
 ·simp only [Bool.and_eq_true, decide_eq_true_eq] at c1
  exact ⟨j + 1 - (i1 + 1), by omega, i1 + 1, wr_succ (by omega), rfl, by omega, hT1.up hR3 c1.1 c1.2⟩
 have hex : i1 ≤ j → gE (at' l1 a) (at' l1 i1) = false := fun c2 => by simpa [c2] using c1
 clear c1
 refine ⟨fun n38 s39 m => ∃ j1 : Nat, n38 = j1 ∧ m = j1 ∧ j1 ≤ j ∧ Pt gE s0 x l a b i1 j1 s39 l1, ⟨_, j, rfl, rfl, Nat.le_refl _, hT1.at hR3⟩, ?_⟩
 rintro _ s115 m116 ⟨j1, rfl, hm116, hjj, hT2⟩
 have hj1 := hT2.hb
 have hj2 := hT2.hij
 refine ⟨fun c s55 _ => c = (decide (i1 ≤ j1) && ltE (at' l1 a) (at' l1 j1)) ∧ Row mkE s0 x s55 l1, ?_, ?_⟩
 ·intro s42 hB
  have hR4 := hT2.row.bump hB
  refine bsel_of (fun c1 => ?_) fun c1 => ?_
  ·have c1 : i1 ≤ j1 := by simp only [decide_eq_true_eq] at c1; omega
   refine hR4.rd rfl (by omega) (hR4.rd rfl (by omega) ((LessI_ok _ _ _).mono ?_))
   rintro _ _ ⟨rfl, rfl⟩
   exact ⟨_, rfl, 0, by simp [c1], hR4⟩
  ·have c1 : ¬ i1 ≤ j1 := by simp only [decide_eq_false_iff_not] at c1; omega
   exact ⟨0, by simp [c1], hR4⟩
 rintro c130 s131 _ ⟨rfl, hR4⟩
 refine bsel_of (fun c1 => ?_) fun c1 => ?_
 ·simp only [Bool.and_eq_true, decide_eq_true_eq] at c1
  exact ⟨j1 - 1, by omega, j1 - 1, wr_pred (by omega) (by omega), rfl, by omega, hT2.down hR4 c1.1 (by simp [gE, c1.2])⟩
 have hex2 : i1 ≤ j1 → gE (at' l1 a) (at' l1 j1) = true := fun c2 => by simpa [c2] using c1
 clear c1
 refine bsel_of (fun c1 => ?_) fun c1 => ?_
 ·have c1 : j1 < i1 := by simp only [decide_eq_true_eq] at c1; omega
  refine ⟨i1, l1, rfl, by omega, by omega, hR4, hT2.rp, fun k g1 g2 => ?_, fun k g1 g2 => ?_⟩
  ·rw [← hpv]
   by_cases e : k = a
   ·rw [e]; exact ltE_o.irrefl _
   ·have := hT2.lo k (by omega) g2
    simpa [gE] using this
  ·rw [← hpv]
   have := hT2.hi k (by omega) g2
   simpa [gE] using this
 have c1 : i1 ≤ j1 := by simp only [decide_eq_false_iff_not] at c1; omega
 intro s147 hB
 refine (hR4.bump hB).swap mkE_one rfl rfl (by omega) (by omega) fun s159 hR5 => ?_
 exact ⟨j1 - 1 + 1 - (i1 + 1), by omega, i1 + 1, j1 - 1, _, wr_succ (by omega), wr_pred (by omega) (by omega), rfl, by rw [at_sw (by omega) (by omega), if_neg (by omega), if_neg (by omega)]; exact hpv, hT2.step hb c1 (hex (by omega)) (hex2 c1) hR5⟩
end
end Go.Eng.S

namespace Go.Eng.S
open Go Go.Eng Go.Proofs
set_option linter.constructorNameAsVariable false
noncomputable section
attribute [local irreducible] bsel
def Above (l : List Int) (a b : Nat) : Prop := 0 < a → ∀ k, a ≤ k → k < b → ltE (at' l k) (at' l (a - 1)) = false
theorem Above.rp {l l' : List Int} {a b : Nat} (h : Above l a b) (hP : RP a b l l') (hb : b ≤ l.length) : Above l' a b := fun h0 => by
 rw [hP.out (a - 1) (by omega)]
 exact hP.all (p := fun y => ltE y (at' l (a - 1)) = false) hb (h h0)
set_option maxHeartbeats 1000000 in
theorem Partial_ok {s0 s : St} {x : AV} {l : List Int} (h : Row mkE s0 x s l) {a b : Nat} (hab : a < b) (hb : b ≤ l.length) (hsz : l.length < 2305843009213693952) (hA : Above l a b) :
  CallsD P F.slices_partialInsertionSortOrdered_api_SpanID [x, .int .i64 (a : Int), .int .i64 (b : Int)] s fun v s' => ∃ (c : Bool) (l' : List Int), v = .bool c ∧ Row mkE s0 x s' l' ∧ RP a b l l' ∧ (c = true → Rise ltE a b l') := by
 refine vc.slices_partialInsertionSortOrdered_api_SpanID_ok ⟨fun n3 n4 s5 m => ∃ (i t : Nat) (l1 : List Int), n3 = i ∧ n4 = t ∧ m = 5 - t ∧ a + 1 ≤ i ∧ i ≤ b ∧ Row mkE s0 x s5 l1 ∧ RP a b l l1 ∧ Rise ltE a i l1, ⟨_, a + 1, 0, l, wr_succ (by omega), rfl, rfl, Nat.le_refl _, hab, h, .refl _ _ _, .small (Nat.le_refl _)⟩, ?_⟩
 rintro _ _ s5 m6 ⟨i, t, l1, rfl, rfl, hm6, hi, hi2, hR, hP, hS⟩
 have hl1 := hP.len
 refine bsel_of (fun ct => ?_) fun _ => ⟨false, l1, rfl, hR, hP, fun c => by simp at c⟩
 have ct : t < 5 := by simp only [decide_eq_true_eq] at ct; omega
 refine ⟨fun n9 s10 m => ∃ i1 : Nat, n9 = i1 ∧ m = b - i1 ∧ i ≤ i1 ∧ i1 ≤ b ∧ Row mkE s0 x s10 l1 ∧ Rise ltE a i1 l1, ⟨_, i, rfl, rfl, Nat.le_refl _, hi2, hR, hS⟩, ?_⟩
 rintro _ s10 m11 ⟨i1, rfl, hm11, hi3, hi4, hR1, hS1⟩
 refine ⟨fun c s33 _ => c = (decide (i1 < b) && !ltE (at' l1 i1) (at' l1 (i1 - 1))) ∧ Row mkE s0 x s33 l1, ?_, ?_⟩
 ·intro s20 hB
  have hR3 := hR1.bump hB
  refine bsel_of (fun c1 => ?_) fun c1 => ?_
  ·have c1 : i1 < b := by simp only [decide_eq_true_eq] at c1; omega
   refine hR3.rd rfl (by omega) (hR3.rd (wr_pred (by omega) (by omega)) (by omega) ((LessI_ok _ _ _).mono ?_))
   rintro _ _ ⟨rfl, rfl⟩
   exact ⟨_, rfl, 0, by simp [c1], hR3⟩
  ·have c1 : ¬ i1 < b := by simp only [decide_eq_false_iff_not] at c1; omega
   exact ⟨0, by simp [c1], hR3⟩
 rintro c25 s26 _ ⟨rfl, hR3⟩
 refine bsel_of (fun c1 => ?_) fun c1 => ?_
 ·simp only [Bool.and_eq_true, decide_eq_true_eq, Bool.not_eq_true'] at c1
  exact ⟨b - (i1 + 1), by omega, i1 + 1, wr_succ (by omega), rfl, by omega, by omega, hR3, hS1.snoc ltE_o (by omega) c1.2⟩
 clear c1
 refine bsel_of (fun c2 => ?_) fun c2 => bsel_of (fun _ => ⟨false, l1, rfl, hR3, hP, fun c => by simp at c⟩) fun _ => ?_
 ·have c2 : i1 = b := by simp at c2; omega
  subst c2
  exact ⟨true, l1, rfl, hR3, hP, fun _ => hS1⟩
 have c2 : i1 < b := by simp at c2; omega
 intro s29 hB
 refine (hR3.bump hB).swap mkE_one (wr_pred (by omega) (by omega)) rfl (by omega) (by omega) fun s41 hR4 => ?_
 have gg := fun k => at_sw (l := l1) (i := i1) (j := i1 - 1) (k := k) (by omega) (by omega)
 have hP4 : RP a b l (sw l1 i1 (i1 - 1)) := hP.trans (.sw (by omega) (by omega) (by omega) (by omega))
 have hS4 : Rise ltE a (i1 - 1) (sw l1 i1 (i1 - 1)) := (hS1.less (by omega)).same fun k h1 h2 => by rw [gg, if_neg (by omega), if_neg (by omega)]
 clear gg
 generalize sw l1 i1 (i1 - 1) = l2 at hR4 hP4 hS4
 have hl2 := hP4.len
 refine ⟨fun s _ => ∃ l3, Row mkE s0 x s l3 ∧ RP a b l l3 ∧ Rise ltE a i1 l3, ?_, ?_⟩
 ·refine bsel_of (fun c3 => ?_) fun c3 => ?_
  ·rw [wr_pred (a := i1) (by omega) (by omega)]
   refine ⟨fun n45 s46 m => ∃ (j : Nat) (l3 : List Int), n45 = j ∧ m = j ∧ a ≤ j ∧ j ≤ i1 - 1 ∧ Row mkE s0 x s46 l3 ∧ RP a b l l3 ∧ ∀ p q, a ≤ p → p < q → q ≤ i1 - 1 → q ≠ j → ltE (at' l3 q) (at' l3 p) = false, ⟨_, i1 - 1, l2, rfl, rfl, by omega, Nat.le_refl _, hR4, hP4, fun p q h1 h2 h3 h4 => hS4 p q h1 h2 (by omega)⟩, ?_⟩
   rintro _ s46 m47 ⟨j, l3, rfl, hm47, hj, hj2, hR5, hP5, hS5⟩
   have hl3 := hP5.len
   have done : (a < j → ltE (at' l3 j) (at' l3 (j - 1)) = false) → Rise ltE a i1 l3 := fun hd p q h1 h2 h3 => by
    by_cases e : q = j
    ·subst e
     by_cases e2 : p = q - 1
     ·rw [e2]; exact hd (by omega)
     ·exact ltE_o.ntrans _ _ _ (hS5 p (q - 1) h1 (by omega) (by omega) (by omega)) (hd (by omega))
    ·exact hS5 p q h1 h2 (by omega) e
   refine bsel_of (fun c4 => ?_) fun c4 => ?_
   ·have c4 : 1 ≤ j := by simp only [decide_eq_true_eq] at c4; omega
    intro s48 hB
    have hR6 := hR5.bump hB
    refine hR6.rd rfl (by omega) (hR6.rd (wr_pred (by omega) (by omega)) (by omega) ((LessI_ok _ _ _).mono ?_))
    rintro _ _ ⟨rfl, rfl⟩
    refine ⟨_, rfl, bsel_of (fun c5 => ?_) fun c5 => ?_⟩
    ·have c5 : ltE (at' l3 j) (at' l3 (j - 1)) = false := by simpa using c5
     exact ⟨0, l3, hR6, hP5, done fun _ => c5⟩
    ·have c5 : ltE (at' l3 j) (at' l3 (j - 1)) = true := by simpa using c5
     have haj : a < j := by
      refine Classical.byContradiction fun hn => ?_
      have e : j = a := by omega
      subst e
      have := (hA.rp hP5 hb) (by omega) j (Nat.le_refl _) hab
      rw [this] at c5; simp at c5
     intro s59 hB
     refine (hR6.bump hB).swap mkE_one (wr_pred (by omega) (by omega)) rfl (by omega) (by omega) fun s71 hR7 => ⟨j - 1, by omega, j - 1, _, wr_pred (by omega) (by omega), rfl, by omega, by omega, hR7, hP5.trans (.sw (by omega) (by omega) (by omega) (by omega)), ?_⟩
     intro p q h1 h2 h3 h4
     have gg := fun k => at_sw (l := l3) (i := j) (j := j - 1) (k := k) (by omega) (by omega)
     rw [gg, gg, if_neg (show ¬ q = j - 1 by omega)]
     by_cases e1 : q = j
     ·rw [if_pos e1]
      by_cases e2 : p = j - 1
      ·rw [if_pos e2]; exact ltE_o.asym _ _ c5
      ·rw [if_neg e2, if_neg (by omega)]; exact hS5 p (j - 1) h1 (by omega) (by omega) (by omega)
     ·rw [if_neg e1]
      by_cases e2 : p = j - 1
      ·rw [if_pos e2]; exact hS5 j q (by omega) (by omega) h3 e1
      ·rw [if_neg e2]
       by_cases e3 : p = j
       ·rw [if_pos e3]; exact hS5 (j - 1) q (by omega) (by omega) h3 e1
       ·rw [if_neg e3]; exact hS5 p q h1 h2 h3 e1
   ·have c4 : j = 0 := by simp only [decide_eq_false_iff_not] at c4; omega
    exact ⟨0, l3, hR5, hP5, done fun h => by omega⟩
  ·have c3 : i1 < a + 2 := by
    rw [wr_sub (a := i1) (b := a) (by omega) (by omega)] at c3
    simp only [decide_eq_false_iff_not] at c3; omega
   exact ⟨0, l2, hR4, hP4, .small (by omega)⟩
 rintro s75 _ ⟨l3, hR5, hP5, hS5⟩
 have hl3 := hP5.len
 refine bsel_of (fun c3 => ?_) fun c3 => ⟨5 - (t + 1), by omega, i1, t + 1, l3, rfl, wr_succ (by omega), rfl, by omega, hi4, hR5, hP5, hS5⟩
 rw [wr_succ (a := i1) (by omega)]
 refine ⟨fun n79 s80 m => ∃ (j : Nat) (l4 : List Int), n79 = j ∧ m = b - j ∧ i1 + 1 ≤ j ∧ j ≤ b ∧ Row mkE s0 x s80 l4 ∧ RP a b l l4 ∧ Rise ltE a i1 l4, ⟨_, i1 + 1, l3, rfl, rfl, Nat.le_refl _, by omega, hR5, hP5, hS5⟩, ?_⟩
 rintro _ s80 m81 ⟨j, l4, rfl, hm81, hj, hj2, hR6, hP6, hS6⟩
 have hl4 := hP6.len
 refine bsel_of (fun c4 => ?_) fun c4 => ⟨5 - (t + 1), by omega, i1, t + 1, l4, rfl, wr_succ (by omega), rfl, by omega, hi4, hR6, hP6, hS6⟩
 have c4 : j < b := by simp only [decide_eq_true_eq] at c4; omega
 intro s82 hB
 have hR7 := hR6.bump hB
 refine hR7.rd rfl (by omega) (hR7.rd (wr_pred (by omega) (by omega)) (by omega) ((LessI_ok _ _ _).mono ?_))
 rintro _ _ ⟨rfl, rfl⟩
 refine ⟨_, rfl, bsel_of (fun c5 => ?_) fun c5 => ?_⟩
 ·exact ⟨5 - (t + 1), by omega, i1, t + 1, l4, rfl, wr_succ (by omega), rfl, by omega, hi4, hR7, hP6, hS6⟩
 ·intro s93 hB
  refine (hR7.bump hB).swap mkE_one (wr_pred (by omega) (by omega)) rfl (by omega) (by omega) fun s105 hR8 => ⟨b - (j + 1), by omega, j + 1, _, wr_succ (by omega), rfl, by omega, by omega, hR8, hP6.trans (.sw (by omega) (by omega) (by omega) (by omega)), hS6.same fun k h1 h2 => ?_⟩
  rw [at_sw (by omega) (by omega), if_neg (by omega), if_neg (by omega)]
end
end Go.Eng.S

namespace Go.Eng.S
open Go Go.Eng Go.Proofs
set_option linter.constructorNameAsVariable false
noncomputable section
attribute [local irreducible] bsel
structure RowR (s0 : St) (x : AV) (s : St) (l : List Int) (r : Nat) (v : AV) : Prop where
 row : Row mkE s0 x s l
 own : Own s r [v]
 new : s0.h.get r = none
 off : r ∉ blkOf x
variable {s0 s s' : St} {x : AV} {l : List Int} {r : Nat} {v : AV}
theorem RowR.ext (h : RowR s0 x s l r v) (hf : Frw [] s s') (hfr : Fr s') : RowR s0 x s' l r v := ⟨h.row.ext hf hfr, h.own.ext hf, h.new, h.off⟩
theorem RowR.bump {n : Nat} (h : RowR s0 x s l r v) (hB : Bump s n s') : RowR s0 x s' l r v := h.ext hB.fwd hB.fr
theorem Frw.besides {s0 s s' : St} {M : List Nat} {r : Nat} (h : Frw M s0 s) (h' : Frw [r] s s') (hr : s0.h.get r = none) : Frw M s0 s' :=
 ⟨fun c o hc ho => h'.1 c o (by
  rintro hcr
  have : c = r := by simpa using hcr
  rw [this, hr] at ho; simp at ho) (h.1 c o hc ho), Nat.le_trans h.2.1 h'.2.1, h'.2.2.trans h.2.2⟩
theorem RowR.set (h : RowR s0 x s l r v) (u : AV) (hu : ones [u] = true) {R : St → Prop} (hR : ∀ s', RowR s0 x s' l r u → R s') : ∃ s', wrN s (.ptr r 0) [u] = some s' ∧ R s' := by
 obtain ⟨s', w1, w2, w3, w4, w5, w6⟩ := h.own.wrAll [u] hu rfl
 have hoff : ∀ c, c ∈ [r] → c ∉ blkOf x := fun c hc => by
  have : c = r := by simpa using hc
  rw [this]; exact h.off
 exact ⟨s', w1, hR s' ⟨⟨h.row.so.beside w3 hoff, Frw.besides h.row.frw w3 h.new, h.row.fr.wr h.own.there w4 w6⟩, w2, h.new, h.off⟩⟩
theorem RowR.go {l' : List Int} (h : RowR s0 x s l r v) (h' : Row mkE s x s' l') : RowR s0 x s' l' r v := ⟨h.row.from h', h.own.fwd h'.frw h.off, h.new, h.off⟩
theorem RowR.new' {m : Nat} {u : AV} (h : Row mkE s0 x s l) (hN : NewO s (cellsO [u]) m s') : RowR s0 x s' l m u := by
 have hoff : m ∉ blkOf x := fun hc => absurd hN.gone (h.so.there m hc)
 exact ⟨h.ext hN.fwd hN.fr, hN.own, h.frw.none hN.gone hoff, hoff⟩
theorem Order2_ok {a b : Nat} {n : Int} (h : RowR s0 x s l r (.int .i64 n)) (ha : a < l.length) (hb : b < l.length) :
  CallsD P F.slices_order2Ordered_api_SpanID [x, .int .i64 (a : Int), .int .i64 (b : Int), .ptr r 0] s fun v s' => ∃ (i j : Nat) (n' : Int), v = .tuple [.int .i64 (i : Int), .int .i64 (j : Int)] ∧ (∀ p : Nat → Prop, p a → p b → p i ∧ p j) ∧ RowR s0 x s' l r (.int .i64 n') := by
 refine vc.slices_order2Ordered_api_SpanID_ok fun s1 hB => ?_
 have h1 := h.bump hB
 refine h1.row.rd rfl hb (h1.row.rd rfl ha ((LessI_ok _ _ _).mono ?_))
 rintro _ _ ⟨rfl, rfl⟩
 refine ⟨_, rfl, bsel_of (fun _ => ?_) fun _ => ⟨a, b, n, rfl, fun p pa pb => ⟨pa, pb⟩, h1⟩⟩
 exact ⟨n, h1.own.ld1 0 rfl, h1.set _ rfl fun s2 h2 => ⟨b, a, _, rfl, fun p pa pb => ⟨pb, pa⟩, h2⟩⟩
theorem Median_ok {a b c : Nat} {n : Int} (h : RowR s0 x s l r (.int .i64 n)) (ha : a < l.length) (hb : b < l.length) (hc : c < l.length) :
  CallsD P F.slices_medianOrdered_api_SpanID [x, .int .i64 (a : Int), .int .i64 (b : Int), .int .i64 (c : Int), .ptr r 0] s fun v s' => ∃ (i : Nat) (n' : Int), v = .int .i64 (i : Int) ∧ (∀ p : Nat → Prop, p a → p b → p c → p i) ∧ RowR s0 x s' l r (.int .i64 n') := by
 refine vc.slices_medianOrdered_api_SpanID_ok ((Order2_ok h ha hb).mono ?_)
 rintro _ s1 ⟨i1, j1, n1, rfl, hp1, h1⟩
 obtain ⟨g1, g2⟩ := hp1 (fun k => k < l.length) ha hb
 refine ⟨_, _, rfl, (Order2_ok h1 g2 hc).mono ?_⟩
 rintro _ s2 ⟨i2, j2, n2, rfl, hp2, h2⟩
 obtain ⟨g3, g4⟩ := hp2 (fun k => k < l.length) g2 hc
 refine ⟨_, _, rfl, (Order2_ok h2 g1 g3).mono ?_⟩
 rintro _ s3 ⟨i3, j3, n3, rfl, hp3, h3⟩
 exact ⟨_, _, rfl, j3, n3, rfl, fun p pa pb pc => (hp3 p (hp1 p pa pb).1 (hp2 p (hp1 p pa pb).2 pc).1).2, h3⟩
theorem MedianAdjacent_ok {a : Nat} {n : Int} (h : RowR s0 x s l r (.int .i64 n)) (h0 : 0 < a) (ha : a + 1 < l.length) (hsz : l.length < 2305843009213693952) :
  CallsD P F.slices_medianAdjacentOrdered_api_SpanID [x, .int .i64 (a : Int), .ptr r 0] s fun v s' => ∃ (i : Nat) (n' : Int), v = .int .i64 (i : Int) ∧ (∀ p : Nat → Prop, p (a - 1) → p a → p (a + 1) → p i) ∧ RowR s0 x s' l r (.int .i64 n') := by
 refine vc.slices_medianAdjacentOrdered_api_SpanID_ok ?_
 unfold vc.slices_medianAdjacentOrdered_api_SpanID
 rw [wr_succ (a := a) (by omega), wr_pred (a := a) (by omega) (by omega)]
 refine (Median_ok h (a := a - 1) (b := a) (c := a + 1) (by omega) (by omega) ha).mono ?_
 rintro _ s1 ⟨i1, n1, rfl, hp1, h1⟩
 exact ⟨_, rfl, i1, n1, rfl, hp1, h1⟩
theorem ChoosePivot_ok (h : Row mkE s0 x s l) {a b : Nat} (hab : a + 12 < b) (hb : b ≤ l.length) (hsz : l.length < 2305843009213693952) :
  CallsD P F.slices_choosePivotOrdered_api_SpanID [x, .int .i64 (a : Int), .int .i64 (b : Int)] s fun v s' => ∃ (i : Nat) (n : Int), v = .tuple [.int .i64 (i : Int), .int .i64 n] ∧ a ≤ i ∧ i < b ∧ Row mkE s0 x s' l := by
 refine vc.slices_choosePivotOrdered_api_SpanID_ok fun m1 s2 hN => ⟨by decide, by decide, by decide, ?_⟩
 have hR : RowR s0 x s2 l m1 (.int .i64 0) := RowR.new' h hN
 have w0 := wr_sub (a := b) (b := a) (by omega) (by omega)
 have w1 := wr_half (a := b - a) (b := 4) (by omega) (by omega)
 rw [show ((4 : Nat) : Int) = 4 from rfl] at w1
 rw [w0, w1]
 have wq : ∀ k : Nat, k ≤ 3 → IntKind.wrap .i64 ((a : Int) + IntKind.wrap .i64 ((((b - a) / 4 : Nat) : Int) * (k : Int))) = ((a + (b - a) / 4 * k : Nat) : Int) := fun k hk => by
  have : (b - a) / 4 * k ≤ (b - a) / 4 * 3 := Nat.mul_le_mul_left _ hk
  have e : (((b - a) / 4 : Nat) : Int) * (k : Int) = (((b - a) / 4 * k : Nat) : Int) := by push_cast; rfl
  rw [e, wr_nat (by omega), wr_add (by omega)]
 have wq1 := wq 1 (by omega)
 have wq2 := wq 2 (by omega)
 have wq3 := wq 3 (by omega)
 simp only [show ((1 : Nat) : Int) = 1 from rfl, show ((2 : Nat) : Int) = 2 from rfl, show ((3 : Nat) : Int) = 3 from rfl] at wq1 wq2 wq3
 rw [wq1, wq2, wq3]
 clear wq wq1 wq2 wq3
 refine ⟨fun n26 s27 _ => ∃ (i : Nat) (n : Int), n26 = i ∧ a ≤ i ∧ i < b ∧ RowR s0 x s27 l m1 (.int .i64 n), ?_, ?_⟩
 ·refine bsel_of (fun c1 => ?_) fun c1 => ⟨0, _, 0, rfl, by omega, by omega, hR⟩
  refine ⟨fun n16 n17 n18 s19 _ => ∃ (i j k : Nat) (n : Int), n16 = i ∧ n17 = j ∧ n18 = k ∧ (a ≤ i ∧ i < b) ∧ (a ≤ j ∧ j < b) ∧ (a ≤ k ∧ k < b) ∧ RowR s0 x s19 l m1 (.int .i64 n), ?_, ?_⟩
  ·refine bsel_of (fun c2 => ?_) fun c2 => ⟨0, _, _, _, 0, rfl, rfl, rfl, by omega, by omega, by omega, hR⟩
   have c2 : 50 ≤ b - a := by simp only [decide_eq_true_eq] at c2; omega
   refine (MedianAdjacent_ok hR (a := a + (b - a) / 4 * 1) (by omega) (by omega) hsz).mono ?_
   rintro _ s6 ⟨i, n1, rfl, hp1, h1⟩
   refine ⟨_, rfl, (MedianAdjacent_ok h1 (a := a + (b - a) / 4 * 2) (by omega) (by omega) hsz).mono ?_⟩
   rintro _ s9 ⟨j, n2, rfl, hp2, h2⟩
   refine ⟨_, rfl, (MedianAdjacent_ok h2 (a := a + (b - a) / 4 * 3) (by omega) (by omega) hsz).mono ?_⟩
   rintro _ s12 ⟨k, n3, rfl, hp3, h3⟩
   exact ⟨_, rfl, 0, i, j, k, n3, rfl, rfl, rfl, hp1 (fun i => a ≤ i ∧ i < b) (by omega) (by omega) (by omega), hp2 (fun i => a ≤ i ∧ i < b) (by omega) (by omega) (by omega), hp3 (fun i => a ≤ i ∧ i < b) (by omega) (by omega) (by omega), h3⟩
  ·rintro _ _ _ s19 _ ⟨i, j, k, n, rfl, rfl, rfl, hi, hj, hk, h3⟩
   refine (Median_ok h3 (a := i) (b := j) (c := k) (by omega) (by omega) (by omega)).mono ?_
   rintro _ s22 ⟨p, n4, rfl, hp, h4⟩
   have := hp (fun i => a ≤ i ∧ i < b) hi hj hk
   exact ⟨_, rfl, 0, p, n4, rfl, this.1, this.2, h4⟩
 ·rintro _ s27 _ ⟨i, n, rfl, g1, g2, h5⟩
  exact ⟨n, h5.own.ld1 0 rfl, bsel_of (fun _ => ⟨i, _, rfl, g1, g2, h5.row⟩) fun _ => bsel_of (fun _ => ⟨i, _, rfl, g1, g2, h5.row⟩) fun _ => ⟨i, _, rfl, g1, g2, h5.row⟩⟩
end
end Go.Eng.S

namespace Go.Eng.S
open Go Go.Eng Go.Proofs
set_option linter.constructorNameAsVariable false
noncomputable section
attribute [local irreducible] bsel
variable {s0 s s' : St} {x : AV} {l : List Int} {r : Nat} {v : AV}
set_option maxRecDepth 100000 in
theorem Len64_ok {y : Nat} (hy : y < 18446744073709551616) (s : St) : CallsD P F.math_bits_Len64 [.int .u64 (y : Int)] s fun v s' => ∃ n : Nat, v = .int .i64 (n : Int) ∧ LenP y n ∧ n ≤ 64 ∧ s' = s := by
 refine vc.math_bits_Len64_ok ⟨fun n4 n5 s6 _ => s6 = s ∧ ∃ a k : Nat, n4 = a ∧ n5 = k ∧ a < 4294967296 ∧ k ≤ 32 ∧ ∀ m, LenP a m → LenP y (m + k), ?_, ?_⟩
 ·refine bsel_of (fun c => ?_) fun c => ?_
  ·have c : 2 ^ 32 ≤ y := by simp only [decide_eq_true_eq] at c; omega
   exact ⟨by decide, 0, rfl, y / 2 ^ 32, 32, fdiv_pow y 32, rfl, by omega, by omega, fun m h => h.shift c⟩
  ·have c : y < 4294967296 := by simp only [decide_eq_false_iff_not] at c; omega
   exact ⟨0, rfl, y, 0, rfl, rfl, c, by omega, fun m h => h⟩
 rintro _ _ s6 _ ⟨rfl, a, k, rfl, rfl, ha, hk, hL⟩
 refine ⟨fun n4 n5 s7 _ => s7 = s6 ∧ ∃ a k : Nat, n4 = a ∧ n5 = k ∧ a < 65536 ∧ k ≤ 48 ∧ ∀ m, LenP a m → LenP y (m + k), ?_, ?_⟩
 ·refine bsel_of (fun c => ?_) fun c => ?_
  ·have c : 2 ^ 16 ≤ a := by simp only [decide_eq_true_eq] at c; omega
   refine ⟨by decide, 0, rfl, a / 2 ^ 16, k + 16, fdiv_pow a 16, wr_add (a := k) (b := 16) (by omega), by omega, by omega, fun m h => ?_⟩
   have := hL _ (h.shift c)
   rwa [show m + 16 + k = m + (k + 16) by omega] at this
  ·have c : a < 65536 := by simp only [decide_eq_false_iff_not] at c; omega
   exact ⟨0, rfl, a, k, rfl, rfl, c, by omega, hL⟩
 clear hL ha hk a k
 rintro _ _ s7 _ ⟨rfl, a, k, rfl, rfl, ha, hk, hL⟩
 refine ⟨fun n4 n5 s8 _ => s8 = s7 ∧ ∃ a k : Nat, n4 = a ∧ n5 = k ∧ a < 256 ∧ k ≤ 56 ∧ ∀ m, LenP a m → LenP y (m + k), ?_, ?_⟩
 ·refine bsel_of (fun c => ?_) fun c => ?_
  ·have c : 2 ^ 8 ≤ a := by simp only [decide_eq_true_eq] at c; omega
   refine ⟨by decide, 0, rfl, a / 2 ^ 8, k + 8, fdiv_pow a 8, wr_add (a := k) (b := 8) (by omega), by omega, by omega, fun m h => ?_⟩
   have := hL _ (h.shift c)
   rwa [show m + 8 + k = m + (k + 8) by omega] at this
  ·have c : a < 256 := by simp only [decide_eq_false_iff_not] at c; omega
   exact ⟨0, rfl, a, k, rfl, rfl, c, by omega, hL⟩
 clear hL ha hk a k
 rintro _ _ s8 _ ⟨rfl, a, k, rfl, rfl, ha, hk, hL⟩
 refine byteK_len (by decide +kernel) ha (wrap_u8 (by omega) (by omega)) fun c h1 h2 => ⟨c.toNat + k, ?_, hL _ h1, by omega, rfl⟩
 rw [wr_nat (a := c.toNat) (by omega), wr_add (a := k) (b := c.toNat) (by omega), Nat.add_comm]
theorem Len_ok {y : Nat} (hy : y < 18446744073709551616) (s : St) : CallsD P F.math_bits_Len [.int .u64 (y : Int)] s fun v s' => ∃ n : Nat, v = .int .i64 (n : Int) ∧ LenP y n ∧ n ≤ 64 ∧ s' = s := by
 refine vc.math_bits_Len_ok ((Len64_ok hy s).mono ?_)
 rintro _ _ ⟨n, rfl, h1, h2, rfl⟩
 exact ⟨_, rfl, n, rfl, h1, h2, rfl⟩
theorem PowerOfTwo_ok {y : Nat} (hy0 : 0 < y) (hy : y < 4611686018427387904) (s : St) : CallsD P F.slices_nextPowerOfTwo [.int .i64 (y : Int)] s fun v s' => ∃ M : Nat, v = .int .u64 (M : Int) ∧ 0 < M ∧ M ≤ 2 * y ∧ s' = s := by
 refine vc.slices_nextPowerOfTwo_ok ?_
 unfold vc.slices_nextPowerOfTwo
 rw [wrap_u64 (a := (y : Int)) (by omega) (by omega)]
 refine (Len_ok (by omega) s).mono ?_
 rintro _ _ ⟨n, rfl, h1, h2, rfl⟩
 have hn : 0 < n := by
  refine Nat.pos_of_ne_zero fun e => ?_
  subst e
  have := h1.1
  simp at this; omega
 have h3 := h1.2 hn
 have e : 2 ^ n = 2 * 2 ^ (n - 1) := by
  rw [← Nat.pow_succ']; congr 1; omega
 refine ⟨_, rfl, by omega, 2 ^ n, ?_, Nat.pow_pos (by omega), by omega, rfl⟩
 rw [Int.toNat_natCast, Nat.min_eq_left h2, Int.one_mul, show ((2 : Int) ^ n) = ((2 ^ n : Nat) : Int) by push_cast; rfl, wrap_u64 (by omega) (by omega)]
theorem Next_ok {n : Int} (h : RowR s0 x s l r (.int .u64 n)) : CallsD P F.p_slices_xorshift_Next [.ptr r 0] s fun v s' => ∃ n' : Int, v = .int .u64 n' ∧ RowR s0 x s' l r (.int .u64 n') := by
 refine vc.p_slices_xorshift_Next_ok fun s1 hB => ?_
 have h1 := h.bump hB
 refine ⟨n, h1.own.ld1 0 rfl, n, h1.own.ld1 0 rfl, by decide, h1.set _ rfl fun s2 h2 s3 hB2 => ?_⟩
 have h3 := h2.bump hB2
 refine ⟨_, h3.own.ld1 0 rfl, _, h3.own.ld1 0 rfl, by decide, h3.set _ rfl fun s4 h4 s5 hB3 => ?_⟩
 have h5 := h4.bump hB3
 refine ⟨_, h5.own.ld1 0 rfl, _, h5.own.ld1 0 rfl, by decide, h5.set _ rfl fun s6 h6 => ?_⟩
 exact ⟨_, h6.own.ld1 0 rfl, _, rfl, h6⟩
theorem BreakPatterns_ok (h : Row mkE s0 x s l) {a b : Nat} (hab : a ≤ b) (hb : b ≤ l.length) (hsz : l.length < 2305843009213693952) :
  CallsD P F.slices_breakPatternsOrdered_api_SpanID [x, .int .i64 (a : Int), .int .i64 (b : Int)] s fun v s' => v = .tuple [] ∧ ∃ l', Row mkE s0 x s' l' ∧ RP a b l l' := by
 refine vc.slices_breakPatternsOrdered_api_SpanID_ok ?_
 unfold vc.slices_breakPatternsOrdered_api_SpanID
 have w1 := wr_half (a := b - a) (b := 4) (by omega) (by omega)
 rw [show ((4 : Nat) : Int) = 4 from rfl] at w1
 rw [wr_sub (a := b) (b := a) (by omega) (by omega), w1]
 refine bsel_of (fun c => ?_) fun c => ⟨rfl, l, h, .refl _ _ _⟩
 have c : 8 ≤ b - a := by simp only [decide_eq_true_eq] at c; omega
 intro m1 s2 hN
 refine (RowR.new' h hN).set _ rfl fun s3 h3 => (PowerOfTwo_ok (y := b - a) (by omega) (by omega) s3).mono ?_
 rintro _ _ ⟨M, rfl, hM0, hM, rfl⟩
 have wq : IntKind.wrap .i64 ((a : Int) + IntKind.wrap .i64 ((((b - a) / 4 : Nat) : Int) * 2)) = ((a + (b - a) / 4 * 2 : Nat) : Int) := by
  have e : (((b - a) / 4 : Nat) : Int) * 2 = (((b - a) / 4 * 2 : Nat) : Int) := by push_cast; rfl
  rw [e, wr_nat (by omega), wr_add (by omega)]
 rw [wq]
 rw [wr_pred (a := a + (b - a) / 4 * 2) (by omega) (by omega), wr_succ (a := a + (b - a) / 4 * 2) (by omega)]
 refine ⟨_, rfl, by decide, fun n9 s10 m => ∃ (i : Nat) (l1 : List Int) (n : Int), n9 = i ∧ m = a + (b - a) / 4 * 2 + 2 - i ∧ a ≤ i ∧ RowR s0 x s10 l1 m1 (.int .u64 n) ∧ RP a b l l1, ⟨_, a + (b - a) / 4 * 2 - 1, l, _, rfl, rfl, by omega, h3, .refl _ _ _⟩, ?_⟩
 rintro _ s10 m11 ⟨i, l1, n, rfl, hm11, hi, hR, hP⟩
 have hl1 := hP.len
 refine ⟨by decide, bsel_of (fun c1 => ?_) fun c1 => ⟨rfl, l1, hR.row, hP⟩⟩
 have c1 : i ≤ a + (b - a) / 4 * 2 + 1 := by simp only [decide_eq_true_eq] at c1; omega
 refine (Next_ok hR).mono ?_
 rintro _ s13 ⟨n14, rfl, hR2⟩
 have hw := and_lt n14 (M := M) hM0 (by omega)
 refine ⟨_, rfl, ?_⟩
 generalize (BitVec.ofInt 64 n14 &&& BitVec.ofInt 64 (IntKind.wrap .u64 ((M : Int) - 1))).toNat = w at hw
 rw [wrap_u64 (a := (w : Int)) (by omega) (by omega), wr_nat (a := w) (by omega)]
 refine bsel_of (fun c2 => ?_) fun c2 => ?_
 ·have c2 : b - a ≤ w := by simp only [decide_eq_true_eq] at c2; omega
  intro s15 hB
  rw [wr_sub (a := w) (b := b - a) c2 (by omega), wr_add (a := a) (b := w - (b - a)) (by omega)]
  have hX := hR2.bump hB
  exact (Row.refl hX.row.so hX.row.fr).swap mkE_one rfl rfl (by omega) (by omega) fun s27 hR3 => ⟨a + (b - a) / 4 * 2 + 2 - (i + 1), by omega, i + 1, _, _, wr_succ (by omega), rfl, by omega, hX.go hR3, hP.trans (.sw (by omega) (by omega) (by omega) (by omega))⟩
 ·have c2 : w < b - a := by simp only [decide_eq_false_iff_not] at c2; omega
  intro s15 hB
  rw [wr_add (a := a) (b := w) (by omega)]
  have hX := hR2.bump hB
  exact (Row.refl hX.row.so hX.row.fr).swap mkE_one rfl rfl (by omega) (by omega) fun s27 hR3 => ⟨a + (b - a) / 4 * 2 + 2 - (i + 1), by omega, i + 1, _, _, wr_succ (by omega), rfl, by omega, hX.go hR3, hP.trans (.sw (by omega) (by omega) (by omega) (by omega))⟩
end
end Go.Eng.S

namespace Go.Eng.S
open Go Go.Eng Go.Proofs
set_option linter.constructorNameAsVariable false
noncomputable section
attribute [local irreducible] bsel
variable {s0 s s' : St} {x : AV} {l : List Int}
theorem glue {l4 : List Int} {a b mid : Nat} {pv : Int} (hm : at' l4 mid = pv) (h1 : ∀ k, a ≤ k → k < mid → ltE (at' l4 k) pv = true) (h2 : ∀ k, mid < k → k < b → ltE (at' l4 k) pv = false) (g1 : Rise ltE a mid l4) (g2 : Rise ltE (mid + 1) b l4) : Rise ltE a b l4 := by
 intro i j hi hij hj
 by_cases c1 : j < mid
 ·exact g1 i j hi hij c1
 by_cases c2 : mid < i
 ·exact g2 i j c2 hij hj
 by_cases c3 : i = mid
 ·rw [c3, hm]; exact h2 j (by omega) hj
 have hi2 := ltE_o.asym _ _ (h1 i hi (by omega))
 by_cases c4 : j = mid
 ·rw [c4, hm]; exact hi2
 ·exact ltE_o.ntrans _ _ _ hi2 (h2 j (by omega) hj)
structure Lft (s0 : St) (x : AV) (l : List Int) (a b a' b' : Nat) (s : St) (l1 : List Int) : Prop where
 row : Row mkE s0 x s l1
 rp : RP a b l l1
 ha : a ≤ a'
 hab : a' ≤ b'
 hb : b' ≤ b
 above : Above l1 a' b'
 rest : ∀ l2, RP a' b' l1 l2 → Rise ltE a' b' l2 → Rise ltE a b l2
theorem Lft.go {a b a' b' : Nat} {l1 l2 : List Int} (h : Lft s0 x l a b a' b' s l1) (hbl : b ≤ l.length) (hR : Row mkE s0 x s' l2) (hP : RP a' b' l1 l2) : Lft s0 x l a b a' b' s' l2 :=
 ⟨hR, h.rp.trans (hP.mono h.ha h.hb), h.ha, h.hab, h.hb, h.above.rp hP (by have := h.rp.len; have := h.hb; omega), fun l3 q1 q2 => h.rest l3 (hP.trans q1) q2⟩
theorem Lft.equal {a b a' b' mid : Nat} {l1 l2 : List Int} {pv : Int} (h : Lft s0 x l a b a' b' s l1) (hbl : b ≤ l.length) (h0 : 0 < a') (hpv : ltE (at' l1 (a' - 1)) pv = false) (hm : a' < mid ∧ mid ≤ b') (hR : Row mkE s0 x s' l2) (hP : RP a' b' l1 l2)
  (h1 : ∀ k, a' ≤ k → k < mid → ltE pv (at' l2 k) = false) (h2 : ∀ k, mid ≤ k → k < b' → ltE pv (at' l2 k) = true) : Lft s0 x l a b mid b' s' l2 := by
 have hl := h.rp.len
 have hl2 := hP.len
 have hb := h.hb
 have ha := h.ha
 have hA2 := h.above.rp hP (by omega)
 have hpv2 : ltE (at' l2 (a' - 1)) pv = false := by rw [hP.out _ (.inl (by omega))]; exact hpv
 refine ⟨hR, h.rp.trans (hP.mono h.ha h.hb), by omega, by omega, h.hb, fun _ k g1 g2 => ?_, fun l3 q1 q2 => h.rest l3 (hP.trans (q1.mono (by omega) (Nat.le_refl _))) fun i j g1 g2 g3 => ?_⟩
 ·exact ltE_o.ntrans _ _ _ (h1 (mid - 1) (by omega) (by omega)) (ltE_o.asym _ _ (h2 k g1 g2))
 ·by_cases c1 : mid ≤ i
  ·exact q2 i j c1 g2 g3
  ·rw [q1.out i (.inl (by omega))]
   have e1 := h1 i g1 (by omega)
   by_cases c2 : mid ≤ j
   ·have := q1.all (p := fun y => ltE pv y = true) (by omega) h2 j c2 g3
    exact ltE_o.ntrans _ _ _ e1 (ltE_o.asym _ _ this)
   ·rw [q1.out j (.inl (by omega))]
    exact ltE_o.ntrans _ _ _ e1 (ltE_o.ntrans _ _ _ hpv2 (hA2 h0 j (by omega) g3))
theorem Lft.left {a b a' b' mid : Nat} {l2 l3 : List Int} (h : Lft s0 x l a b a' b' s l2) (hbl : b ≤ l.length) (hm : a' ≤ mid ∧ mid < b') (h1 : ∀ k, a' ≤ k → k < mid → ltE (at' l2 k) (at' l2 mid) = true) (h2 : ∀ k, mid < k → k < b' → ltE (at' l2 k) (at' l2 mid) = false)
  (hR : Row mkE s0 x s' l3) (hP : RP a' mid l2 l3) (hS : Rise ltE a' mid l3) : Lft s0 x l a b (mid + 1) b' s' l3 := by
 have hl := h.rp.len
 have hl3 := hP.len
 have hb := h.hb
 have ha := h.ha
 refine ⟨hR, h.rp.trans (hP.mono h.ha (by omega)), by omega, by omega, h.hb, fun _ k g1 g2 => ?_, fun l4 q1 q2 => h.rest l4 ((hP.mono (Nat.le_refl _) (by omega)).trans (q1.mono (by omega) (Nat.le_refl _))) ?_⟩
 ·rw [hP.out k (.inr (by omega)), Nat.add_sub_cancel, hP.out mid (.inr (Nat.le_refl _))]; exact h2 k (by omega) g2
 ·refine glue (mid := mid) (pv := at' l2 mid) (by rw [q1.out mid (.inl (by omega)), hP.out mid (.inr (Nat.le_refl _))]) (fun k g1 g2 => ?_) (fun k g1 g2 => ?_) (hS.of_out q1 (.inl (by omega))) q2
  ·rw [q1.out k (.inl (by omega))]
   exact hP.all (p := fun y => ltE y (at' l2 mid) = true) (by omega) h1 k g1 g2
  ·exact q1.all (p := fun y => ltE y (at' l2 mid) = false) (by omega) (fun k g1 g2 => by rw [hP.out k (.inr (by omega))]; exact h2 k (by omega) g2) k (by omega) g2
theorem Lft.right {a b a' b' mid : Nat} {l2 l3 : List Int} (h : Lft s0 x l a b a' b' s l2) (hbl : b ≤ l.length) (hm : a' ≤ mid ∧ mid < b') (h1 : ∀ k, a' ≤ k → k < mid → ltE (at' l2 k) (at' l2 mid) = true) (h2 : ∀ k, mid < k → k < b' → ltE (at' l2 k) (at' l2 mid) = false)
  (hR : Row mkE s0 x s' l3) (hP : RP (mid + 1) b' l2 l3) (hS : Rise ltE (mid + 1) b' l3) : Lft s0 x l a b a' mid s' l3 := by
 have hl := h.rp.len
 have hl3 := hP.len
 have hb := h.hb
 have ha := h.ha
 refine ⟨hR, h.rp.trans (hP.mono (by omega) h.hb), h.ha, hm.1, by omega, fun h0 k g1 g2 => ?_, fun l4 q1 q2 => h.rest l4 ((hP.mono (by omega) (Nat.le_refl _)).trans (q1.mono (Nat.le_refl _) (by omega))) ?_⟩
 ·rw [hP.out k (.inl (by omega)), hP.out _ (.inl (by omega))]; exact h.above h0 k g1 (by omega)
 ·refine glue (mid := mid) (pv := at' l2 mid) (by rw [q1.out mid (.inr (by omega)), hP.out mid (.inl (by omega))]) (fun k g1 g2 => ?_) (fun k g1 g2 => ?_) q2 (hS.of_out q1 (.inr (by omega)))
  ·exact q1.all (p := fun y => ltE y (at' l2 mid) = true) (by omega) (fun k g1 g2 => by rw [hP.out k (.inl (by omega))]; exact h1 k g1 g2) k g1 g2
  ·rw [q1.out k (.inr (by omega))]
   exact hP.all (p := fun y => ltE y (at' l2 mid) = false) (by omega) (fun k g1 g2 => h2 k (by omega) g2) k (by omega) g2
set_option maxHeartbeats 1000000 in
theorem Pdq_ok : ∀ (N : Nat) {s0 s : St} {x : AV} {l : List Int} (_ : Row mkE s0 x s l) {a b : Nat} (_ : a ≤ b) (_ : b ≤ l.length) (_ : l.length < 2305843009213693952) (_ : Above l a b) (_ : b - a ≤ N) (lim : Int),
  CallsD P F.slices_pdqsortOrdered_api_SpanID [x, .int .i64 (a : Int), .int .i64 (b : Int), .int .i64 lim] s (SortQ s0 x l a b) := by
 intro N
 induction N using Nat.strongRecOn with
 | _ N ih =>
  intro s0 s x l h a b hab hb hsz hA hN lim
  refine vc.slices_pdqsortOrdered_api_SpanID_ok ⟨fun n3 n4 _ _ _ s8 m => ∃ (a' b' : Nat) (l1 : List Int), n3 = a' ∧ n4 = b' ∧ m = b' - a' ∧ Lft s0 x l a b a' b' s8 l1, ⟨_, a, b, l, rfl, rfl, rfl, h, .refl _ _ _, Nat.le_refl _, hab, Nat.le_refl _, hA, fun l2 _ h2 => h2⟩, ?_⟩
  rintro _ _ n5 c6 c7 s8 m9 ⟨a', b', l1, rfl, rfl, hm9, hL⟩
  have hl1 := hL.rp.len
  have ha1 := hL.ha
  have hab1 := hL.hab
  have hb1 := hL.hb
  have fin : ∀ {s' : St} {l2 : List Int}, Row mkE s0 x s' l2 → RP a' b' l1 l2 → Rise ltE a' b' l2 → SortQ s0 x l a b (.tuple []) s' := fun hR hP hS => ⟨rfl, _, hR, hL.rp.trans (hP.mono ha1 hb1), hL.rest _ hP hS⟩
  rw [wr_sub (a := b') (b := a') (by omega) (by omega)]
  refine bsel_of (fun _ => ?_) fun c1 => bsel_of (fun _ => ?_) fun _ => ?_
  ·refine (Insertion_ok hL.row hab1 (by omega) (by omega)).mono ?_
   rintro _ s11 ⟨rfl, l2, q1, q2, q3⟩
   exact ⟨rfl, fin q1 q2 q3⟩
  ·refine (Heap_ok hL.row hab1 (by omega) (by omega)).mono ?_
   rintro _ s11 ⟨rfl, l2, q1, q2, q3⟩
   exact ⟨rfl, fin q1 q2 q3⟩
  have c1 : a' + 12 < b' := by simp only [decide_eq_false_iff_not] at c1; omega
  refine ⟨fun _ s20 _ => ∃ l2, Lft s0 x l a b a' b' s20 l2, ?_, ?_⟩
  ·refine bsel_of (fun _ => ?_) fun _ => ⟨0, l1, hL⟩
   refine (BreakPatterns_ok hL.row hab1 (by omega) (by omega)).mono ?_
   rintro _ s16 ⟨rfl, l2, q1, q2⟩
   exact ⟨rfl, 0, l2, hL.go hb q1 q2⟩
  clear fin hL hl1
  rintro n19 s20 _ ⟨l2, hL⟩
  have hl2 := hL.rp.len
  refine (ChoosePivot_ok hL.row c1 (by omega) (by omega)).mono ?_
  rintro _ s23 ⟨p, hint, rfl, hp1, hp2, hR⟩
  have hL := hL.go hb hR (.refl _ _ _)
  refine ⟨_, _, rfl, fun n31 _ s33 _ => ∃ (p : Nat) (l3 : List Int), n31 = p ∧ a' ≤ p ∧ p < b' ∧ Lft s0 x l a b a' b' s33 l3, ?_, ?_⟩
  ·refine bsel_of (fun _ => ?_) fun _ => ⟨0, p, l2, rfl, hp1, hp2, hL⟩
   refine (Reverse_ok hL.row hab1 (by omega) (by omega)).mono ?_
   rintro _ s28 ⟨rfl, l3, q1, q2⟩
   exact ⟨rfl, 0, b' - 1 - (p - a'), l3, by rw [wr_pred (a := b') (by omega) (by omega), wr_sub (a := p) (b := a') (by omega) (by omega), wr_sub (by omega) (by omega)], by omega, by omega, hL.go hb q1 q2⟩
  clear hp1 hp2
  rintro _ n32 s33 _ ⟨p, l3, rfl, hp1, hp2, hL⟩
  have hl3 := hL.rp.len
  refine ⟨fun s43 _ => ∃ l4, Lft s0 x l a b a' b' s43 l4, ?_, ?_⟩
  ·refine bsel_of (fun _ => bsel_of (fun _ => bsel_of (fun _ => ?_) fun _ => ⟨0, l3, hL⟩) fun _ => ⟨0, l3, hL⟩) fun _ => ⟨0, l3, hL⟩
   refine (Partial_ok hL.row (by omega) (by omega) (by omega) hL.above).mono ?_
   rintro _ s37 ⟨c, l4, rfl, q1, q2, q3⟩
   refine ⟨c, rfl, bsel_of (fun cc => ?_) fun _ => ⟨0, l4, hL.go hb q1 q2⟩⟩
   exact ⟨rfl, l4, q1, hL.rp.trans (q2.mono ha1 hb1), hL.rest _ q2 (q3 cc)⟩
  rintro s43 _ ⟨l4, hL⟩
  intro s45 hB
  have hl4 := hL.rp.len
  have hL := hL.go hb (hL.row.bump hB) (.refl _ _ _)
  have hleft : ∀ {s : St} {l2 : List Int} {mid : Nat} (lim : Int), Lft s0 x l a b a' b' s l2 → a' ≤ mid → mid < b' → (∀ k, a' ≤ k → k < mid → ltE (at' l2 k) (at' l2 mid) = true) → (∀ k, mid < k → k < b' → ltE (at' l2 k) (at' l2 mid) = false) →
    CallsD P F.slices_pdqsortOrdered_api_SpanID [x, .int .i64 (a' : Int), .int .i64 (mid : Int), .int .i64 lim] s fun v s' => v = .tuple [] ∧ ∃ l3, Lft s0 x l a b (mid + 1) b' s' l3 := by
   intro s l2 mid lim hL h1 h2 h3 h4
   have hl := hL.rp.len
   refine (ih (mid - a') (by omega) hL.row (a := a') (b := mid) h1 (by omega) (by omega) (fun h0 k g1 g2 => hL.above h0 k g1 (by omega)) (Nat.le_refl _) lim).mono ?_
   rintro _ s' ⟨rfl, l3, q1, q2, q3⟩
   exact ⟨rfl, l3, hL.left hb ⟨h1, h2⟩ h3 h4 q1 q2 q3⟩
  have hright : ∀ {s : St} {l2 : List Int} {mid : Nat} (lim : Int), Lft s0 x l a b a' b' s l2 → a' ≤ mid → mid < b' → (∀ k, a' ≤ k → k < mid → ltE (at' l2 k) (at' l2 mid) = true) → (∀ k, mid < k → k < b' → ltE (at' l2 k) (at' l2 mid) = false) →
    CallsD P F.slices_pdqsortOrdered_api_SpanID [x, .int .i64 (IntKind.wrap .i64 ((mid : Int) + 1)), .int .i64 (b' : Int), .int .i64 lim] s fun v s' => v = .tuple [] ∧ ∃ l3, Lft s0 x l a b a' mid s' l3 := by
   intro s l2 mid lim hL h1 h2 h3 h4
   have hl := hL.rp.len
   rw [wr_succ (a := mid) (by omega)]
   refine (ih (b' - (mid + 1)) (by omega) hL.row (a := mid + 1) (b := b') (by omega) (by omega) (by omega) (fun h0 k g1 g2 => by rw [Nat.add_sub_cancel]; exact h4 k (by omega) g2) (Nat.le_refl _) lim).mono ?_
   rintro _ s' ⟨rfl, l3, q1, q2, q3⟩
   exact ⟨rfl, l3, hL.right hb ⟨h1, h2⟩ h3 h4 q1 q2 q3⟩
  refine bsel_of (fun c2 => ?_) fun c2 => ?_
  ·have c2 : 0 < a' := by simp only [decide_eq_true_eq] at c2; omega
   refine hL.row.rd (wr_pred (by omega) (by omega)) (by omega) (hL.row.rd rfl (by omega) ((LessI_ok _ _ _).mono ?_))
   rintro _ _ ⟨rfl, rfl⟩
   refine ⟨_, rfl, bsel_of (fun c3 => ?_) fun _ => ?_⟩
   ·have c3 : ltE (at' l4 (a' - 1)) (at' l4 p) = false := by simpa using c3
    refine (PartitionEqual_ok hL.row ⟨hp1, hp2⟩ (by omega) (by omega)).mono ?_
    rintro _ s56 ⟨mid, l5, rfl, q1, q2, q3, q4, q5, q6⟩
    exact ⟨_, rfl, b' - mid, by omega, mid, b', l5, rfl, rfl, rfl, hL.equal hb c2 c3 ⟨q1, q2⟩ q3 q4 q5 q6⟩
   ·refine (Partition_ok hL.row ⟨hp1, hp2⟩ (by omega) (by omega)).mono ?_
    rintro _ s60 ⟨mid, c62, l5, rfl, q1, q2, q3, q4, q5, q6⟩
    have hL5 := hL.go hb q3 q4
    refine ⟨_, _, rfl, by decide, bsel_of (fun _ => ?_) fun _ => ?_⟩
    ·refine (hleft n19 hL5 q1 q2 q5 q6).mono ?_
     rintro _ s64 ⟨rfl, l6, hL6⟩
     exact ⟨rfl, b' - (mid + 1), by omega, mid + 1, b', l6, wr_succ (by omega), rfl, rfl, hL6⟩
    ·refine (hright n19 hL5 q1 q2 q5 q6).mono ?_
     rintro _ s64 ⟨rfl, l6, hL6⟩
     exact ⟨rfl, mid - a', by omega, a', mid, l6, rfl, rfl, rfl, hL6⟩
  ·refine (Partition_ok hL.row ⟨hp1, hp2⟩ (by omega) (by omega)).mono ?_
   rintro _ s60 ⟨mid, c62, l5, rfl, q1, q2, q3, q4, q5, q6⟩
   have hL5 := hL.go hb q3 q4
   refine ⟨_, _, rfl, by decide, bsel_of (fun _ => ?_) fun _ => ?_⟩
   ·refine (hleft n19 hL5 q1 q2 q5 q6).mono ?_
    rintro _ s64 ⟨rfl, l6, hL6⟩
    exact ⟨rfl, b' - (mid + 1), by omega, mid + 1, b', l6, wr_succ (by omega), rfl, rfl, hL6⟩
   ·refine (hright n19 hL5 q1 q2 q5 q6).mono ?_
    rintro _ s64 ⟨rfl, l6, hL6⟩
    exact ⟨rfl, mid - a', by omega, a', mid, l6, rfl, rfl, rfl, hL6⟩
theorem SortI_ok (hx : So (oneE mkE) s x l) (hsz : l.length < 2305843009213693952) (hfr : Fr s) :
  CallsD P F.slices_Sort_sl_api_SpanID_api_SpanID [x] s fun v s' => v = .tuple [] ∧ ∃ l', l'.Perm l ∧ l'.Pairwise (· ≤ ·) ∧ So (oneE mkE) s' x l' ∧ Frw (blkOf x) s s' ∧ Fr s' := by
 refine vc.slices_Sort_sl_api_SpanID_api_SpanID_ok (hx.sl.slen ?_)
 rw [wrap_u64 (a := ((l.length : Nat) : Int)) (by omega) (by omega)]
 refine (Len_ok (by omega) s).mono ?_
 rintro _ _ ⟨n, rfl, _, _, rfl⟩
 refine ⟨_, rfl, (Pdq_ok l.length (Row.refl hx hfr) (a := 0) (b := l.length) (by omega) (Nat.le_refl _) hsz (fun h => by omega) (by omega) _).mono ?_⟩
 rintro _ s6 ⟨rfl, l', q1, q2, q3⟩
 refine ⟨rfl, rfl, l', q2.perm, ?_, q1.so, q1.frw, q1.fr⟩
 rw [List.pairwise_iff_getElem]
 intro i j hi hj hij
 have := q3 i j (Nat.zero_le _) hij (by have := q2.len; omega)
 rw [at_eq hi, at_eq hj]
 simpa [ltE] using this
end
end Go.Eng.S

namespace Go.Eng.S
open Go Go.Eng Go.Proofs
set_option linter.constructorNameAsVariable false
noncomputable section
attribute [local irreducible] bsel
def cmpI (a b : Int) : Int := if a < b then -1 else if a > b then 1 else 0
theorem isNaN64_ok (a : Int) (s : St) : CallsD P F.cmp_isNaN_int64 [.int .i64 a] s fun v s' => v = .bool false ∧ s' = s := by
 refine CallsD.pure (fun s => (vc.cmp_isNaN_int64_ok ?_).a) rfl s
 show AV.bool (a != a) = .bool false
 simp
theorem Compare64_ok (a b : Int) (s : St) : CallsD P F.cmp_Compare_int64 [.int .i64 a, .int .i64 b] s fun v s' => v = .int .i64 (cmpI a b) ∧ s' = s := by
 refine CallsD.pure (fun s => (vc.cmp_Compare_int64_ok ((isNaN64_ok a s).mono ?_)).a) rfl s
 rintro _ _ ⟨rfl, rfl⟩
 refine ⟨false, rfl, (isNaN64_ok b _).mono ?_⟩
 rintro _ _ ⟨rfl, rfl⟩
 refine ⟨false, rfl, bsel_of (fun c => by simp at c) fun _ => bsel_of (fun c => by simp at c) fun _ => bsel_of (fun c => ?_) fun c => bsel_of (fun c' => ?_) fun c' => ?_⟩
 ·have c : a < b := by simpa using c
  unfold cmpI; rw [if_pos c]
 ·have c : ¬ a < b := by simpa using c
  have c' : a > b := by simpa using c'
  unfold cmpI; rw [if_neg c, if_pos c']
 ·have c : ¬ a < b := by simpa using c
  have c' : ¬ a > b := by simpa using c'
  unfold cmpI; rw [if_neg c, if_neg c']
theorem isNaNID_ok (a : Int) (s : St) : CallsD P F.cmp_isNaN_api_SpanID [.int .u64 a] s fun v s' => v = .bool false ∧ s' = s := by
 refine CallsD.pure (fun s => (vc.cmp_isNaN_api_SpanID_ok ?_).a) rfl s
 show AV.bool (a != a) = .bool false
 simp
theorem CompareID_ok (a b : Int) (s : St) : CallsD P F.cmp_Compare_api_SpanID [.int .u64 a, .int .u64 b] s fun v s' => v = .int .i64 (cmpI a b) ∧ s' = s := by
 refine CallsD.pure (fun s => (vc.cmp_Compare_api_SpanID_ok ((isNaNID_ok a s).mono ?_)).a) rfl s
 rintro _ _ ⟨rfl, rfl⟩
 refine ⟨false, rfl, (isNaNID_ok b _).mono ?_⟩
 rintro _ _ ⟨rfl, rfl⟩
 refine ⟨false, rfl, bsel_of (fun c => by simp at c) fun _ => bsel_of (fun c => by simp at c) fun _ => bsel_of (fun c => ?_) fun c => bsel_of (fun c' => ?_) fun c' => ?_⟩
 ·have c : a < b := by simpa using c
  unfold cmpI; rw [if_pos c]
 ·have c : ¬ a < b := by simpa using c
  have c' : a > b := by simpa using c'
  unfold cmpI; rw [if_neg c, if_pos c']
 ·have c : ¬ a < b := by simpa using c
  have c' : ¬ a > b := by simpa using c'
  unfold cmpI; rw [if_neg c, if_neg c']
def fst0 : List Int → Int
 | [] => 0
 | x :: r => if x ≠ 0 then x else fst0 r
theorem OrL_ok {s : St} {b : Nat} {xs : List Int} {n : Nat} (hn : xs.length = n) (h : Own s b (xs.map fun x => .int .i64 x)) (hsz : n < 1000) : CallsD P F.cmp_Or_int [.slice b 0 n (.exact n)] s fun v s' => v = .int .i64 (fst0 xs) ∧ s' = s := by
 subst hn
 refine vc.cmp_Or_int_ok ?_
 show ∃ I : Int → St → Nat → Prop, _
 refine ⟨fun n s5 m => s5 = s ∧ ∃ i : Nat, n = i ∧ m = xs.length - i ∧ i ≤ xs.length ∧ fst0 xs = fst0 (xs.drop i), ⟨_, rfl, 0, rfl, rfl, by omega, rfl⟩, ?_⟩
 rintro _ s5 m ⟨rfl, i, rfl, rfl, hi, he⟩
 refine bsel_of (fun c => ?_) fun c => ?_
 ·have c : i < xs.length := by simpa using c
  refine ⟨by omega, by omega, ?_⟩
  have r : Eng.ld1 s5 (.ptr b i) = some (.int .i64 xs[i]) := h.ld1 i (by simp [c])
  rw [mulS_eq]
  rw [show 0 + (i : Int).toNat * 1 = i by simp]
  rw [List.drop_eq_getElem_cons c] at he
  refine ⟨_, r, bsel_of (fun c1 => ?_) fun c1 => ?_⟩
  ·have c1 : xs[i] ≠ 0 := by simpa using c1
   exact ⟨by rw [he, fst0, if_pos c1], rfl⟩
  ·have c1 : xs[i] = 0 := by simpa using c1
   exact ⟨xs.length - (i + 1), by omega, rfl, i + 1, by rw [wrap_i64 (by omega) (by omega)]; rfl, rfl, by omega, by rw [he, fst0, if_neg (by simpa using c1)]⟩
 ·have c : i = xs.length := by simp at c; omega
  subst c
  rw [List.drop_length] at he
  exact ⟨by rw [he]; rfl, rfl⟩
end
end Go.Eng.S

namespace Go.Eng.S
open Go Go.Eng Go.Proofs
set_option linter.constructorNameAsVariable false
noncomputable section
attribute [local irreducible] bsel
abbrev TabP (s : St) : Prop := Tabs 0 1 s
def vld (t : ByteArray) : Bool := Lib.validD t.data.toList
theorem ValidS_ok {t : ByteArray} {s : St} (hT : TabP s) (hs : t.size ≤ 9223372036854775807) : CallsD P F.unicode_utf8_ValidString [.str t] s fun v s' => v = .bool (vld t) ∧ s' = s := by
 refine CallsD.below hT.2.2 fun φ vals w hr hv => ⟨.bool (vld t), .bool _, ?_⟩
 cases hv with
 | cons h0 h1 =>
  cases h0; cases h1
  exact Any.utf8_ValidString Tryd.validS t w hs (hr.tabs (by decide) (by decide) hT)
def cmpB (a b : ByteArray) : Int := Lib.compareBytes a.data.toList b.data.toList
theorem CompareB_ok {a b : ByteArray} {s : St} : CallsD P F.strings_Compare [.str a, .str b] s fun v s' => v = .int .i64 (cmpB a b) ∧ s' = s := by
 refine CallsD.same fun φ vals w hv => ⟨.int .i64 (cmpB a b), .int _ _, ?_⟩
 cases hv with
 | cons h0 h1 =>
  cases h0
  cases h1 with
  | cons h1 h2 =>
   cases h1; cases h2
   exact Any.strings_Compare Tryd.cmpS a b w
def hasB (t : ByteArray) (c : UInt8) : Bool := decide (0 ≤ Lib.indexByte t.data.toList c)
theorem Contains_ok {a : ByteArray} {c : UInt8} {s : St} : CallsD P F.strings_Contains [.str a, .str ⟨#[c]⟩] s fun v s' => v = .bool (hasB a c) ∧ s' = s := by
 refine CallsD.same fun φ vals w hv => ⟨.bool (hasB a c), .bool _, ?_⟩
 cases hv with
 | cons h0 h1 =>
  cases h0
  cases h1 with
  | cons h1 h2 =>
   cases h1; cases h2
   exact Any.strings_Contains_one Tryd.containsS a c w
def plainP (t : ByteArray) (most : Int) : Bool := !(decide (t = ByteArray.mk #[])) && (!(decide (((t.size : Nat) : Int) > most)) && vld t)
def okB (fr : Int) (b : UInt8) : Bool := !(decide (((b.toNat : Nat) : Int) < fr)) && !(((b.toNat : Nat) : Int) == 127)
def plainB (t : ByteArray) (most fr : Int) : Bool := plainP t most && t.data.toList.all (okB fr)
theorem byte_at {t : ByteArray} {i : Nat} (hi : i < t.size) : t.data.toList[i]? = some (t.data.toList[i]'(by simpa using hi)) := List.getElem?_eq_getElem _
theorem plain_ok {t : ByteArray} {most fr : Int} {s : St} (hT : TabP s) (hm : most ≤ 1000) : CallsD P F.span_plain [.str t, .int .i64 most, .int .u8 fr] s fun v s' => v = .bool (plainB t most fr) ∧ s' = s := by
 refine vc.span_plain_ok ?_
 refine ⟨fun s' _ => s' = s ∧ plainP t most = true, ⟨fun c s' _ => s' = s ∧ c = !plainP t most, ?_, ?_⟩, ?_⟩
 ·rw [sEq_eq]
  refine bsel_of (fun c => ⟨0, rfl, ?_⟩) fun c => bsel_of (fun c1 => ⟨0, rfl, ?_⟩) fun c1 => ?_
  ·simp [plainP, c]
  ·simp [plainP, c1]
  ·refine (ValidS_ok hT ?_).mono ?_
   ·have : ¬ ((t.size : Nat) : Int) > most := by simpa using c1
    omega
   ·rintro _ _ ⟨rfl, rfl⟩
    exact ⟨_, rfl, 0, rfl, by simp only [plainP, c, c1]; simp⟩
 ·rintro c _ _ ⟨rfl, rfl⟩
  refine bsel_of (fun c => ⟨?_, rfl⟩) fun c => ⟨0, rfl, by simpa using c⟩
  have : plainP t most = false := by simpa using c
  simp [plainB, this]
 ·rintro s13 _ ⟨hs13, hp⟩
  subst s13
  have hmo : ¬ ((t.size : Nat) : Int) > most := by
   intro h
   simp [plainP, h] at hp
  refine ⟨fun n s' m => s' = s ∧ ∃ i : Nat, n = i ∧ m = t.size - i ∧ i ≤ t.size ∧ plainB t most fr = (t.data.toList.drop i).all (okB fr), ⟨_, rfl, 0, rfl, rfl, by omega, by simp [plainB, hp]⟩, ?_⟩
  rintro _ s18 _ ⟨hs18, i, rfl, rfl, hi, he⟩
  subst s18
  have hl : t.data.toList.length = t.size := by simp
  refine bsel_of (fun c => ?_) fun c => ?_
  ·have c : i < t.size := by simpa using c
   rw [List.drop_eq_getElem_cons (by omega), List.all_cons] at he
   refine ⟨by omega, _, by rw [Int.toNat_natCast]; exact byte_at c, bsel_of (fun c1 => ⟨?_, rfl⟩) fun c1 => ⟨by omega, _, by rw [Int.toNat_natCast]; exact byte_at c, bsel_of (fun c2 => ⟨?_, rfl⟩) fun c2 => ?_⟩⟩
   ·rw [he]; simp only [okB, c1]; simp
   ·rw [he]; simp only [okB, c2]; simp
   ·exact ⟨t.size - (i + 1), by omega, rfl, i + 1, wrap_i64 (by omega) (by omega), rfl, by omega, by rw [he]; simp only [okB, c1, c2]; simp⟩
  ·have c : i = t.size := by simp at c; omega
   subst c
   rw [List.drop_eq_nil_of_le (by omega)] at he
   exact ⟨by rw [he]; rfl, rfl⟩
def keyT : ByteArray := ByteArray.mk #[97, 98, 99, 100, 101, 102, 103, 104, 105, 106, 107, 108, 109, 110, 111, 112, 113, 114, 115, 116, 117, 118, 119, 120, 121, 122, 48, 49, 50, 51, 52, 53, 54, 55, 56, 57, 46, 95, 45]
def keyedP (t : ByteArray) : Bool :=
 !(decide (t = ByteArray.mk #[])) && (!(decide (((t.size : Nat) : Int) > 40)) && (match t.data.toList[0]? with | some c => !(decide (((c.toNat : Nat) : Int) < 97)) && !(decide (((c.toNat : Nat) : Int) > 122)) | none => true))
def keyedB (t : ByteArray) : Bool := keyedP t && t.data.toList.all (hasB keyT)
theorem extract_one {t : ByteArray} {i : Nat} (hi : i < t.size) : t.extract i (i + 1) = ⟨#[t.data.toList[i]'(by simpa using hi)]⟩ := by
 apply ByteArray.ext
 apply Array.ext'
 simp only [ByteArray.data_extract, Array.toList_extract]
 rw [List.extract_eq_take_drop, show i + 1 - i = 1 by omega, List.drop_eq_getElem_cons (by simpa using hi)]
 rfl
theorem keyed_ok {t : ByteArray} {s : St} : CallsD P F.span_keyed [.str t] s fun v s' => v = .bool (keyedB t) ∧ s' = s := by
 refine vc.span_keyed_ok ?_
 refine ⟨fun s' _ => s' = s ∧ keyedP t = true, ⟨fun c s' _ => s' = s ∧ c = !keyedP t, ?_, ?_⟩, ?_⟩
 ·rw [sEq_eq]
  refine bsel_of (fun c => ⟨0, rfl, ?_⟩) fun c => bsel_of (fun c1 => ⟨0, rfl, ?_⟩) fun c1 => ?_
  ·simp [keyedP, c]
  ·simp [keyedP, c1]
  ·have h0 : 0 < t.size := by
    rcases Nat.eq_zero_or_pos t.size with h | h
    ·have : t = ByteArray.mk #[] := by
      apply ByteArray.ext
      apply Array.eq_empty_of_size_eq_zero
      exact h
     simp [this] at c
    ·exact h
   have hb := byte_at h0
   refine ⟨by omega, _, hb, bsel_of (fun c2 => ⟨0, rfl, ?_⟩) fun c2 => ⟨by omega, _, hb, 0, rfl, ?_⟩⟩
   ·simp only [keyedP, hb, c2]; simp
   ·simp only [keyedP, hb, c, c1, c2]; simp
 ·rintro c _ _ ⟨rfl, rfl⟩
  refine bsel_of (fun c => ⟨?_, rfl⟩) fun c => ⟨0, rfl, by simpa using c⟩
  have : keyedP t = false := by simpa using c
  simp [keyedB, this]
 ·rintro s13 _ ⟨hs13, hp⟩
  subst s13
  have h40 : t.size ≤ 40 := by
   have : ¬ ((t.size : Nat) : Int) > 40 := by
    intro h
    simp [keyedP, h] at hp
   omega
  refine ⟨fun n s' m => s' = s ∧ ∃ i : Nat, n = i ∧ m = t.size - i ∧ i ≤ t.size ∧ keyedB t = (t.data.toList.drop i).all (hasB keyT), ⟨_, rfl, 0, rfl, rfl, by omega, by simp [keyedB, hp]⟩, ?_⟩
  rintro _ s18 _ ⟨hs18, i, rfl, rfl, hi, he⟩
  subst s18
  have hl : t.data.toList.length = t.size := by simp
  refine bsel_of (fun c => ?_) fun c => ?_
  ·have c : i < t.size := by simpa using c
   rw [List.drop_eq_getElem_cons (by omega), List.all_cons] at he
   rw [wrap_i64 (by omega) (by omega)]
   refine ⟨by omega, by omega, by omega, ?_⟩
   rw [Int.toNat_natCast, show ((i : Int) + 1).toNat = i + 1 by omega, extract_one c]
   refine (Contains_ok (a := keyT)).mono ?_
   rintro _ _ ⟨rfl, rfl⟩
   refine ⟨_, rfl, bsel_of (fun c1 => ⟨?_, rfl⟩) fun c1 => ?_⟩
   ·have c1 : hasB keyT (t.data.toList[i]'(by omega)) = false := by simpa using c1
    rw [he, c1]; rfl
   ·have c1 : hasB keyT (t.data.toList[i]'(by omega)) = true := by simpa using c1
    exact ⟨t.size - (i + 1), by omega, rfl, i + 1, rfl, rfl, by omega, by rw [he, c1]; rfl⟩
  ·have c : i = t.size := by simp at c; omega
   subst c
   rw [List.drop_eq_nil_of_le (by omega)] at he
   exact ⟨by rw [he]; rfl, rfl⟩
def valuedB (k : Int) (t : ByteArray) (n : Int) : Bool :=
 if k = 0 then (if n = 0 then (if ((t.size : Nat) : Int) ≤ 200 then vld t else false) else false)
 else if k = 1 then decide (t = ByteArray.mk #[]) else if k = 2 then (if t = ByteArray.mk #[] then (if n = 0 then true else n == 1) else false) else false
theorem valued_ok {k : Int} {t : ByteArray} {n : Int} {s : St} (hT : TabP s) : CallsD P F.span_valued [.agg [.int .i64 k, .str t, .int .i64 n]] s fun v s' => v = .bool (valuedB k t n) ∧ Frw [] s s' := by
 refine vc.span_valued_ok ?_
 intro m1 s2 h2
 have o := h2.own
 have hf := h2.fwd
 refine ⟨_, o.ld1 0 rfl, bsel_of (fun c => ?_) fun c => ?_⟩
 ·have c : k = 0 := by simpa using c
  refine ⟨_, o.ld1 2 rfl, bsel_of (fun c1 => ?_) fun c1 => ⟨?_, hf⟩⟩
  ·have c1 : n = 0 := by simpa using c1
   refine ⟨_, o.ld1 1 rfl, bsel_of (fun c2 => ?_) fun c2 => ⟨?_, hf⟩⟩
   ·have c2 : ((t.size : Nat) : Int) ≤ 200 := by simpa using c2
    refine ⟨_, o.ld1 1 rfl, (ValidS_ok (hT.ext hf) (by omega)).mono ?_⟩
    rintro _ _ ⟨rfl, rfl⟩
    exact ⟨_, rfl, by simp [valuedB, c, c1, c2], hf⟩
   ·have c2 : ¬ ((t.size : Nat) : Int) ≤ 200 := by simpa using c2
    simp only [valuedB, c, c1, c2, if_true, if_false]
  ·have c1 : ¬ n = 0 := by simpa using c1
   simp only [valuedB, c, c1, if_true, if_false]
 ·have c : ¬ k = 0 := by simpa using c
  refine bsel_of (fun c1 => ?_) fun c1 => bsel_of (fun c2 => ?_) fun c2 => ?_
  ·have c1 : k = 1 := by simpa using c1
   exact ⟨_, o.ld1 1 rfl, by rw [sEq_eq]; simp [valuedB, c1], hf⟩
  ·have c1 : ¬ k = 1 := by simpa using c1
   have c2 : k = 2 := by simpa using c2
   refine ⟨_, o.ld1 1 rfl, ?_⟩
   rw [sEq_eq]
   refine bsel_of (fun c3 => ?_) fun c3 => ⟨?_, hf⟩
   ·have c3 : t = ByteArray.mk #[] := by simpa using c3
    refine ⟨_, o.ld1 2 rfl, bsel_of (fun c4 => ⟨?_, hf⟩) fun c4 => ⟨_, o.ld1 2 rfl, ?_, hf⟩⟩
    ·have c4 : n = 0 := by simpa using c4
     simp [valuedB, c2, c3, c4]
    ·have c4 : ¬ n = 0 := by simpa using c4
     simp [valuedB, c2, c3, c4]
   ·have c3 : ¬ t = ByteArray.mk #[] := by simpa using c3
    simp [valuedB, c2, c3]
  ·have c1 : ¬ k = 1 := by simpa using c1
   have c2 : ¬ k = 2 := by simpa using c2
   exact ⟨by simp only [valuedB, c, c1, c2, if_false], hf⟩
def evB (a : Int) (x : ByteArray) (b : Int) (y : ByteArray) : Int := fst0 [cmpI a b, cmpB x y]
theorem events_ok {a b : Int} {x y : ByteArray} {s : St} : CallsD P F.span_events [.agg [.int .i64 a, .str x], .agg [.int .i64 b, .str y]] s fun v s' => v = .int .i64 (evB a x b y) ∧ Frw [] s s' := by
 refine vc.span_events_ok ?_
 intro m1 s2 h2 m3 s4 h4 s5 h5
 have o1 := (h2.own.ext h4.fwd).ext h5.fwd
 have o3 := h4.own.ext h5.fwd
 have hf := (h2.fwd.trans h4.fwd).trans h5.fwd
 refine ⟨_, o1.ld1 0 rfl, _, o3.ld1 0 rfl, (Compare64_ok _ _ _).mono ?_⟩
 rintro _ _ ⟨rfl, rfl⟩
 refine ⟨_, rfl, _, o1.ld1 1 rfl, o1.ld1 1 rfl, _, o3.ld1 1 rfl, o3.ld1 1 rfl, CompareB_ok.mono ?_⟩
 rintro _ _ ⟨rfl, rfl⟩
 refine ⟨_, rfl, ?_⟩
 refine (OrL_ok (n := 2) (xs := [cmpI a b, cmpB x y]) rfl hsetS_own (by simp)).mono ?_
 rintro _ _ ⟨rfl, rfl⟩
 exact ⟨_, rfl, rfl, hf.trans (hsetS_fwd (by rw [h5.get]; exact h4.fr _ (by omega)))⟩
end
end Go.Eng.S

