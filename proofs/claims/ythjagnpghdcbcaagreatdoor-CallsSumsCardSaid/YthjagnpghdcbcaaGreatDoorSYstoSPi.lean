/-
  The library's sort of calls lies in the program.
  Bars: rows and lists; sums that are cut off.
  Lists of bars: what the program does with them: laid, put together.
  Lists of bars: looked at, taken away.
  Numbers of two words; tallies: plain laws.
  Numbers of two words; tallies: what is left.
  What is put together: plain laws.
  Sums do not hang on the order, nor on which two are put together first: plain laws.
-/
import Derived.Shelf.SlSortCmp.NoneTotal
import Derived.Test.YthjagnpghdcbcaaGreatDoorProg
import Derived.Test.YthjagnpghdcbcaaGreatDoorW8to12
import Derived.Test.YthjagnpghdcbcaaGreatDoorSVatoSVj
namespace Go.Proofs
open Go.Shelf
end Go.Proofs

namespace Go.Eng.S
open Go Go.Eng
abbrev Bar := Int × Int
noncomputable def barE : Enc Bar := ⟨fun p => [.int .i64 p.1, .int .u64 p.2], 2, by decide, fun _ => rfl⟩
def okB (last : Int) : List Bar → Bool
 | [] => true
 | p :: r => decide (last < p.1) && decide (p.1 < 1920) && !(p.2 == 0) && okB p.1 r
abbrev RowF := Nat → Int
def upd (r : RowF) (k : Nat) (v : Int) : RowF := fun i => if i = k then v else r i
def fillR (r : RowF) : List Bar → RowF
 | [] => r
 | p :: q => fillR (upd r p.1.toNat p.2) q
def zeroR : RowF := fun _ => 0
def rowN (n : Nat) (r : RowF) : List AV := (List.range n).map fun i => .int .u64 (r i)
def rowC (r : RowF) : List AV := rowN 1920 r
def M64 : Int := 18446744073709551615
def sat (a b : Int) : Int := if a + b ≤ M64 then a + b else M64
def addR (r : RowF) : List Bar → RowF
 | [] => r
 | p :: q => addR (upd r p.1.toNat (sat (r p.1.toNat) p.2)) q
def barsTo (r : RowF) : Nat → List Bar
 | 0 => []
 | n + 1 => barsTo r n ++ (if r n > 0 then [((n : Int), r n)] else [])
def barsOf (r : RowF) : List Bar := barsTo r 1920
def RngP (p : Bar) : Prop := -9223372036854775808 ≤ p.1 ∧ p.1 < 9223372036854775808 ∧ 0 ≤ p.2 ∧ p.2 ≤ M64
def RngB (l : List Bar) : Prop := ∀ p, p ∈ l → RngP p
def RngR (r : RowF) : Prop := ∀ i, 0 ≤ r i ∧ r i ≤ M64
theorem RngB.head {p : Bar} {q : List Bar} (h : RngB (p :: q)) : RngP p := h p (List.mem_cons_self ..)
theorem RngB.tail {p : Bar} {q : List Bar} (h : RngB (p :: q)) : RngB q := fun x hx => h x (List.mem_cons_of_mem _ hx)
theorem rowN_len (n : Nat) (r : RowF) : (rowN n r).length = n := by simp [rowN]
theorem rowN_get (n : Nat) (r : RowF) {i : Nat} (h : i < n) : (rowN n r)[i]? = some (.int .u64 (r i)) := by simp [rowN, h]
theorem rowN_splice (n : Nat) (r : RowF) {k : Nat} (h : k < n) (v : Int) : splice (rowN n r) k [.int .u64 v] = rowN n (upd r k v) := by
 apply List.ext_getElem?
 intro i
 simp only [splice, List.append_assoc]
 by_cases h1 : i < k
 ·rw [List.getElem?_append_left (by simp [rowN_len]; omega), List.getElem?_take_of_lt h1, rowN_get _ _ (by omega), rowN_get _ _ (by omega)]
  simp [upd, show i ≠ k by omega]
 ·rw [List.getElem?_append_right (by simp [rowN_len]; omega)]
  simp only [List.length_take, rowN_len, Nat.min_eq_left (Nat.le_of_lt h)]
  by_cases h2 : i = k
  ·subst h2
   simp [rowN_get _ _ h, upd]
  ·rw [List.getElem?_append_right (by simp; omega)]
   simp only [List.length_singleton, List.getElem?_drop]
   rw [show k + 1 + (i - k - 1) = i by omega]
   by_cases h3 : i < n
   ·rw [rowN_get _ _ h3, rowN_get _ _ h3]; simp [upd, h2]
   ·rw [List.getElem?_eq_none (by rw [rowN_len]; omega), List.getElem?_eq_none (by rw [rowN_len]; omega)]
theorem rowN_zero (n : Nat) : List.replicate n (AV.int .u64 0) = rowN n zeroR := by
 apply List.ext_getElem?
 intro i
 by_cases h3 : i < n
 ·rw [rowN_get _ _ h3]; simp [zeroR, h3]
 ·rw [List.getElem?_eq_none (by simp; omega), List.getElem?_eq_none (by rw [rowN_len]; omega)]
theorem rowC_len (r : RowF) : (rowC r).length = 1920 := rowN_len _ _
theorem rowC_get (r : RowF) {i : Nat} (h : i < 1920) : (rowC r)[i]? = some (.int .u64 (r i)) := rowN_get _ _ h
theorem rowC_splice (r : RowF) {k : Nat} (h : k < 1920) (v : Int) : splice (rowC r) k [.int .u64 v] = rowC (upd r k v) := rowN_splice _ _ h v
theorem rowC_zero : List.replicate 1920 (AV.int .u64 0) = rowC zeroR := rowN_zero _
theorem sat_rng {a b : Int} (ha : 0 ≤ a ∧ a ≤ M64) (hb : 0 ≤ b ∧ b ≤ M64) : 0 ≤ sat a b ∧ sat a b ≤ M64 := by
 unfold sat M64 at *; split <;> omega
theorem sat_zero {a : Int} (ha : 0 ≤ a ∧ a ≤ M64) : sat a 0 = a := by unfold sat M64 at *; split <;> omega
theorem RngR.upd {r : RowF} (h : RngR r) {k : Nat} {v : Int} (hv : 0 ≤ v ∧ v ≤ M64) : RngR (S.upd r k v) := by
 intro i; unfold S.upd; split
 ·exact hv
 ·exact h i
theorem RngR.zero : RngR zeroR := fun _ => by simp [zeroR, M64]
theorem RngR.fill : ∀ {l : List Bar} {r : RowF}, RngR r → RngB l → RngR (fillR r l)
 | [], _, h, _ => h
 | p :: q, r, h, hb => RngR.fill (l := q) (r := S.upd r p.1.toNat p.2) (h.upd hb.head.2.2) hb.tail
theorem RngR.add : ∀ {l : List Bar} {r : RowF}, RngR r → RngB l → RngR (addR r l)
 | [], _, h, _ => h
 | p :: q, r, h, hb => RngR.add (l := q) (r := S.upd r p.1.toNat (sat (r p.1.toNat) p.2)) (h.upd (sat_rng (h _) hb.head.2.2)) hb.tail
def has : List Bar → Nat → Bool
 | [], _ => false
 | p :: q, i => p.1.toNat == i || has q i
def cnt : List Bar → RowF
 | [], _ => 0
 | p :: q, i => if p.1.toNat = i then p.2 else cnt q i
theorem has_below : ∀ {l : List Bar} {last : Int} {i : Nat}, -1 ≤ last → okB last l = true → (i : Int) ≤ last → has l i = false
 | [], _, _, _, _, _ => rfl
 | p :: q, last, i, h0, h, hi => by
  simp only [okB, Bool.and_eq_true, decide_eq_true_eq] at h
  have h1 := has_below (l := q) (last := p.1) (i := i) (by omega) h.2 (by omega)
  have : p.1.toNat ≠ i := by omega
  simp [has, h1, this]
theorem cnt_none : ∀ {l : List Bar} {i : Nat}, has l i = false → cnt l i = 0
 | [], _, _ => rfl
 | p :: q, i, h => by
  simp only [has, Bool.or_eq_false_iff, beq_eq_false_iff_ne] at h
  simp [cnt, h.1, cnt_none h.2]
theorem fillR_eq : ∀ {l : List Bar} {r : RowF} {last : Int}, -1 ≤ last → okB last l = true → ∀ i, fillR r l i = if has l i = true then cnt l i else r i
 | [], _, _, _, _, i => by simp [fillR, has]
 | p :: q, r, last, h0, h, i => by
  simp only [okB, Bool.and_eq_true, decide_eq_true_eq] at h
  obtain ⟨⟨⟨h1, h2⟩, h3⟩, h4⟩ := h
  rw [fillR, fillR_eq (l := q) (last := p.1) (by omega) h4 i]
  by_cases e : p.1.toNat = i
  ·have hn := has_below (l := q) (last := p.1) (i := i) (by omega) h4 (by omega)
   simp [hn, has, e, cnt, upd]
  ·simp [has, e, cnt, upd, Ne.symm e]
theorem fill_zero {l : List Bar} (h : okB (-1) l = true) (i : Nat) : fillR zeroR l i = cnt l i := by
 rw [fillR_eq (by omega) h i]
 split
 ·rfl
 ·rename_i hn
  rw [cnt_none (by simpa using hn)]; rfl
theorem addR_eq : ∀ {l : List Bar} {r : RowF} {last : Int}, -1 ≤ last → okB last l = true → RngR r → RngB l → ∀ i, addR r l i = sat (r i) (cnt l i)
 | [], r, _, _, _, hr, _, i => by simp [addR, cnt, sat_zero (hr i)]
 | p :: q, r, last, h0, h, hr, hb, i => by
  simp only [okB, Bool.and_eq_true, decide_eq_true_eq] at h
  obtain ⟨⟨⟨h1, h2⟩, h3⟩, h4⟩ := h
  have hr' := hr.upd (k := p.1.toNat) (sat_rng (hr p.1.toNat) hb.head.2.2)
  rw [addR, addR_eq (l := q) (last := p.1) (by omega) h4 hr' hb.tail i]
  by_cases e : p.1.toNat = i
  ·have hn := cnt_none (has_below (l := q) (last := p.1) (i := i) (by omega) h4 (by omega))
   subst e
   rw [hn, sat_zero (hr' _)]
   simp [upd, cnt]
  ·simp [cnt, e, upd, Ne.symm e]
theorem cnt_rng : ∀ {l : List Bar}, RngB l → RngR (cnt l)
 | [], _, i => by simp [cnt, M64]
 | p :: q, h, i => by
  simp only [cnt]
  split
  ·exact h.head.2.2
  ·exact cnt_rng h.tail i
theorem barsTo_congr {r r' : RowF} : ∀ {n : Nat}, (∀ i, i < n → r i = r' i) → barsTo r n = barsTo r' n
 | 0, _ => rfl
 | n + 1, h => by
  simp only [barsTo]
  rw [barsTo_congr fun i hi => h i (by omega), h n (by omega)]
def barsFrom (r : RowF) : Nat → Nat → List Bar
 | _, 0 => []
 | k, m + 1 => (if r k > 0 then [((k : Int), r k)] else []) ++ barsFrom r (k + 1) m
theorem barsFrom_snoc (r : RowF) : ∀ (m k : Nat), barsFrom r k (m + 1) = barsFrom r k m ++ (if r (k + m) > 0 then [(((k + m : Nat) : Int), r (k + m))] else [])
 | 0, k => by simp [barsFrom]
 | m + 1, k => by
  rw [barsFrom, barsFrom_snoc r m (k + 1), barsFrom, List.append_assoc]
  rw [show k + 1 + m = k + (m + 1) by omega]
theorem barsTo_from (r : RowF) : ∀ n, barsTo r n = barsFrom r 0 n
 | 0 => rfl
 | n + 1 => by rw [barsTo, barsTo_from r n, barsFrom_snoc, Nat.zero_add]
theorem barsFrom_congr {r r' : RowF} : ∀ {m k : Nat}, (∀ i, k ≤ i → i < k + m → r i = r' i) → barsFrom r k m = barsFrom r' k m
 | 0, _, _ => rfl
 | m + 1, k, h => by
  simp only [barsFrom]
  rw [h k (by omega) (by omega), barsFrom_congr fun i h1 h2 => h i (by omega) (by omega)]
theorem barsFrom_cnt : ∀ (m k : Nat) (l : List Bar), k + m = 1920 → okB ((k : Int) - 1) l = true → RngB l → barsFrom (cnt l) k m = l
 | 0, k, l, hk, h, _ => by
  cases l with
  | nil => rfl
  | cons p q =>
   simp only [okB, Bool.and_eq_true, decide_eq_true_eq] at h
   omega
 | m + 1, k, l, hk, h, hb => by
  simp only [barsFrom]
  cases l with
  | nil =>
   have := barsFrom_cnt m (k + 1) [] (by omega) rfl (by intro p hp; simp at hp)
   rw [this]; simp [cnt]
  | cons p q =>
   have h' := h
   simp only [okB, Bool.and_eq_true, decide_eq_true_eq, Bool.not_eq_true', beq_eq_false_iff_ne] at h
   obtain ⟨⟨⟨h1, h2⟩, h3⟩, h4⟩ := h
   by_cases e : p.1 = k
   ·have hc : cnt (p :: q) k = p.2 := by simp [cnt, e]
    have hpos : p.2 > 0 := by have := hb.head.2.2.1; omega
    have hq := barsFrom_cnt m (k + 1) q (by omega) (by rw [show ((k + 1 : Nat) : Int) - 1 = k by omega, ← e]; exact h4) hb.tail
    rw [hc, if_pos hpos]
    rw [barsFrom_congr (r' := cnt q) (fun i hi _ => by simp only [cnt]; rw [if_neg (by omega)]), hq]
    simp only [List.singleton_append, List.cons.injEq, and_true]
    rw [← e]
   ·have hn : has (p :: q) k = false := by
     have h5 := has_below (l := q) (last := p.1) (i := k) (by omega) h4 (by omega)
     have : p.1.toNat ≠ k := by omega
     simp [has, h5, this]
    rw [cnt_none hn]
    have hok : okB (((k + 1 : Nat) : Int) - 1) (p :: q) = true := by
     simp only [okB, Bool.and_eq_true, decide_eq_true_eq, Bool.not_eq_true', beq_eq_false_iff_ne]
     exact ⟨⟨⟨by omega, h2⟩, h3⟩, h4⟩
    have := barsFrom_cnt m (k + 1) (p :: q) (by omega) hok hb
    rw [this]; simp
theorem barsOf_cnt {l : List Bar} (h : okB (-1) l = true) (hb : RngB l) : barsOf (cnt l) = l := by
 unfold barsOf
 rw [barsTo_from]
 exact barsFrom_cnt 1920 0 l rfl h hb
def mergeB (a b : List Bar) : List Bar := barsOf (addR (fillR zeroR a) b)
theorem mergeB_eq {a b : List Bar} (ha : okB (-1) a = true) (hb : okB (-1) b = true) (ra : RngB a) (rb : RngB b) : mergeB a b = barsOf fun i => sat (cnt a i) (cnt b i) := by
 unfold mergeB barsOf
 refine barsTo_congr fun i _ => ?_
 rw [addR_eq (by omega) hb (RngR.fill .zero ra) rb, fill_zero ha]
theorem okB_snoc : ∀ {l : List Bar} {last : Int} {p : Bar}, okB last l = true → (∀ q, q ∈ l → q.1 < p.1) → last < p.1 → p.1 < 1920 → p.2 ≠ 0 → okB last (l ++ [p]) = true
 | [], last, p, _, _, h1, h2, h3 => by simp [okB, h1, h2, h3]
 | x :: l, last, p, h, hl, h1, h2, h3 => by
  simp only [okB, Bool.and_eq_true, decide_eq_true_eq, List.cons_append] at h ⊢
  exact ⟨h.1, okB_snoc h.2 (fun q hq => hl q (List.mem_cons_of_mem _ hq)) (hl x (List.mem_cons_self ..)) h2 h3⟩
theorem barsTo_below (r : RowF) : ∀ (n : Nat) (p : Bar), p ∈ barsTo r n → p.1 < (n : Int) ∧ 0 ≤ p.1 ∧ p.2 = r p.1.toNat ∧ p.2 > 0
 | 0, p, h => by simp [barsTo] at h
 | n + 1, p, h => by
  simp only [barsTo, List.mem_append] at h
  rcases h with h | h
  ·have := barsTo_below r n p h; omega
  ·split at h
   ·simp at h; subst h; rename_i hp; exact ⟨by simp; omega, by simp, by simp, hp⟩
   ·simp at h
theorem barsTo_ok (r : RowF) : ∀ (n : Nat), n ≤ 1920 → okB (-1) (barsTo r n) = true
 | 0, _ => rfl
 | n + 1, hn => by
  simp only [barsTo]
  split
  ·rename_i hp
   exact okB_snoc (barsTo_ok r n (by omega)) (fun q hq => (barsTo_below r n q hq).1) (by simp; omega) (by simp; omega) (by simp; omega)
  ·simp only [List.append_nil]; exact barsTo_ok r n (by omega)
theorem barsOf_ok (r : RowF) : okB (-1) (barsOf r) = true := barsTo_ok r 1920 (Nat.le_refl _)
theorem barsTo_len (r : RowF) : ∀ n, (barsTo r n).length ≤ n
 | 0 => by simp [barsTo]
 | n + 1 => by
  have := barsTo_len r n
  simp only [barsTo, List.length_append]
  split <;> simp <;> omega
end Go.Eng.S

namespace Go.Eng.S
open Go Go.Eng Go.Proofs
noncomputable section
theorem laid_ok {s : St} {a : AV} {l : List Bar} (ha : Sl barE s a l) (hr : RngB l) : CallsD P F.sketch_laid [a] s fun v s' => (Frw [] s s' ∧ ∃ b, s.h.get b = none ∧ v = (if okB (-1) l = true then .tuple [.ptr b 0, .bool true] else .tuple [.nilptr, .bool false]) ∧ (okB (-1) l = true → Own s' b (rowC (fillR zeroR l)))) ∧ Fr s' := by
 refine CallsD.of fun hfr => vc.sketch_laid_ok ?_
 intro m1 s2 hN
 refine ha.slen ?_
 have hz : zcells D T.sketch_row = rowC zeroR := (by kernel_rfl : zcells D T.sketch_row = List.replicate 1920 (AV.int .u64 0)).trans rowC_zero
 have hg1 : s.h.get m1 = none := hN.gone
 refine ⟨fun n6 n7 s8 m9 => ∃ k : Nat, n7 = k ∧ k ≤ l.length ∧ m9 = l.length - k ∧ okB (-1) l = okB n6 (l.drop k) ∧ ((k : Int) ≤ n6 + 1 ∧ n6 < 1920) ∧ ∃ r, fillR zeroR l = fillR r (l.drop k) ∧ Own s8 m1 (rowC r) ∧ Frw [] s s8 ∧ Fr s8, ⟨_, 0, rfl, by omega, rfl, rfl, by omega, zeroR, rfl, hN.own.val hz, hN.fwd, hN.fr⟩, ?_⟩
 rintro n6 n7 s8 m9 ⟨k, rfl, hk, rfl, hok, hn6, r, hf, hown, hfw, hfr8⟩
 refine bsel_of (fun hb => ?_) fun hb => ?_
 ·have hb : k < l.length := by simpa using hb
  refine (ha.fwd hfw).ixs rfl rfl hb fun b o hR => ?_
  have hrp : RngP l[k] := hr _ (List.getElem_mem hb)
  rw [drop_at hb] at hok hf
  generalize l[k] = p at hR hok hf hrp
  obtain ⟨p1, p2⟩ := p
  refine ⟨p1, p2, hR.all rfl, ?_⟩
  intro m14 s15 hN2
  obtain ⟨s16, w1, w2, w3, w4, w5, w6⟩ := hN2.own.wrAll [.int .i64 p1, .int .u64 p2] rfl rfl
  have hne : m1 ≠ m14 := hN2.ne hown.there
  have hfw16 : Frw [] s8 s16 := hN2.fwd.step w3 (by simpa using hN2.gone)
  have hfr16 : Fr s16 := hN2.fr.wr hN2.own.there w4 w6
  refine ⟨s16, w1, p1, w2.ld1 0 rfl, ?_⟩
  have hg : s16.h.get m1 ≠ none := (hown.fwd hfw16 (by simp)).there
  simp only [okB] at hok
  refine bsel_of (fun c1 => ⟨hfw.trans hfw16, m1, hg1, ?_⟩) fun c1 => ⟨p1, w2.ld1 0 rfl, bsel_of (fun c2 => ⟨hfw.trans hfw16, m1, hg1, ?_⟩) fun c2 => ⟨p2, w2.ld1 1 rfl, bsel_of (fun c3 => ⟨hfw.trans hfw16, m1, hg1, ?_⟩) fun c3 => ?_⟩⟩
  ·have e : okB (-1) l = false := by rw [hok]; simp at c1 ⊢; omega
   simp [e]
  ·have e : okB (-1) l = false := by rw [hok]; simp at c1 c2 ⊢; omega
   simp [e]
  ·have e : okB (-1) l = false := by rw [hok]; simp at c1 c2 c3 ⊢; omega
   simp [e]
  ·simp at c1 c2 c3
   intro s20 hB
   have o14 := w2.fwd hB.fwd (by simp)
   have o1 : Own s20 m1 (rowC r) := (hown.fwd hfw16 (by simp)).fwd hB.fwd (by simp)
   obtain ⟨s24, x1, x2, x3, x4, x5, x6⟩ := o1.wrN p1.toNat [.int .u64 p2] rfl (by rw [rowC_len]; simp; omega)
   rw [rowC_splice _ (by omega)] at x2
   refine ⟨p1, o14.ld1 0 rfl, p2, o14.ld1 1 rfl, p1, o14.ld1 0 rfl, by omega, c2, s24, by rw [Nat.zero_add]; exact x1, (o14.fwd x3 (by simp; omega)).ld1 0 rfl, l.length - (k + 1), by omega, k + 1, ?_, by omega, rfl, ?_, by omega, _, hf, x2, ?_, ?_⟩
   ·rw [wrap_i64 (by omega) (by omega)]; rfl
   ·rw [hok]; simp [c1, c2, c3]
   ·exact (hfw.trans (hfw16.trans hB.fwd)).step x3 (by simpa using hg1)
   ·exact hB.fr.wr o1.there x4 x6
 ·have hb : k = l.length := by simp at hb; omega
  subst hb
  simp [okB] at hok
  refine ⟨hfw, m1, hg1, ?_⟩
  simp [hok, fillR] at hf ⊢
  rw [hf]; exact hown
theorem put_ok {s : St} {b : Nat} {r : RowF} (ho : Own s b (rowC r)) (hr : RngR r) {i v : Int} (h0 : 0 ≤ i) (h1 : i < 1920) (hv : 0 ≤ v ∧ v ≤ M64) :
  CallsD P F.p_sketch_row_put [.ptr b 0, .int .i64 i, .int .u64 v] s fun x s' => (x = .tuple [] ∧ Own s' b (rowC (upd r i.toNat (sat (r i.toNat) v))) ∧ Frw [b] s s') ∧ Fr s' := by
 refine CallsD.of fun hfr => vc.p_sketch_row_put_ok ?_
 have hri := hr i.toNat
 refine ⟨h0, h1, r i.toNat, by rw [Nat.zero_add]; exact ho.ld1 _ (rowC_get _ (by omega)), _, _, add64_of hri.1 hv.1 (.inl rfl), ?_⟩
 unfold M64 at hri hv
 refine bsel_of (fun c => ?_) fun c => ?_
 ·simp at c
  obtain ⟨s8, x1, x2, x3, x4, x5, x6⟩ := ho.wrN i.toNat [.int .u64 18446744073709551615] rfl (by rw [rowC_len]; simp; omega)
  rw [rowC_splice _ (by omega)] at x2
  refine ⟨h0, h1, s8, by rw [Nat.zero_add]; exact x1, rfl, ?_, x3⟩
  rw [show sat (r i.toNat) v = 18446744073709551615 by unfold sat M64; split <;> omega]; exact x2
 ·simp at c
  obtain ⟨s8, x1, x2, x3, x4, x5, x6⟩ := ho.wrN i.toNat [.int .u64 ((r i.toNat + v + 0) % 18446744073709551616)] rfl (by rw [rowC_len]; simp; omega)
  rw [rowC_splice _ (by omega)] at x2
  refine ⟨h0, h1, s8, by rw [Nat.zero_add]; exact x1, rfl, ?_, x3⟩
  rw [show sat (r i.toNat) v = (r i.toNat + v + 0) % 18446744073709551616 by unfold sat M64; split <;> omega]; exact x2
set_option maxRecDepth 20000 in
theorem bars_okS {s : St} {b : Nat} {r : RowF} (ho : Own s b (rowC r)) (hr : RngR r) :
  CallsD P F.p_sketch_row_bars [.ptr b 0] s fun x s' => ((SoN barE s' x (barsOf r) ∧ Gone s x) ∧ Frw [] s s') ∧ Fr s' := by
 refine CallsD.of fun hfr => vc.p_sketch_row_bars_ok ?_
 refine ⟨fun x n s5 m => ∃ k : Nat, n = k ∧ k ≤ 1920 ∧ m = 1920 - k ∧ (So barE s5 x (barsTo r k) ∧ (barsTo r k = [] → x = .nilslice)) ∧ (∀ c, c ∈ blkOf x → s.h.get c = none) ∧ Frw [] s s5 ∧ Fr s5, ⟨1920, 0, rfl, by omega, rfl, ⟨.nil _ _, fun _ => rfl⟩, by simp [blkOf], .refl _ _, hfr⟩, ?_⟩
 intro x n s5 m hI
 obtain ⟨k, hn, hk, hm, ⟨hso, hnil⟩, hbl, hfw, hfr5⟩ := hI
 subst hn
 refine bsel_of (fun c => ?_) fun c => ?_
 ·simp at c
  intro s7 hB
  have ho7 := (ho.ext hfw).ext hB.fwd
  have hso7 : So barE s7 x (barsTo r k) := by
   rcases hso with h | ⟨b1, k1, n1, c1, e1, e2, e3, e4⟩
   ·exact .inl h
   ·exact .inr ⟨b1, k1, n1, c1, e1, e2, by rw [hB.get]; exact e3, e4⟩
  have hrk := hr k
  unfold M64 at hrk
  refine ⟨by omega, c, r k, by simp only [Nat.zero_add, Int.toNat_natCast]; exact ho7.ld1 _ (rowC_get _ (by omega)), bsel_of (fun c2 => ?_) fun c2 => ?_⟩
  ·simp at c2
   intro m11 s12 hN
   have hfw12 : Frw [] s s12 := (hfw.trans hB.fwd).trans hN.fwd
   have hso12 : So barE s12 x (barsTo r k) := by
    rcases hso7 with h | ⟨b1, k1, n1, c1, e1, e2, e3, e4⟩
    ·exact .inl h
    ·exact .inr ⟨b1, k1, n1, c1, e1, e2, hN.fwd.1 _ _ (by simp) e3, e4⟩
   have hlen := barsTo_len r k
   obtain ⟨v, s14, q1, q2, q3, q4, q5, q6⟩ := So.append (a := ((k : Int), r k)) hso12 ty.sl_api_Bar rfl ty.api_Bar rfl rfl rfl rfl hN.own.rd rfl (by simp [barE]; omega) (by simp [barE]; omega) hN.fr
   refine ⟨v, s14, q1, 1920 - (k + 1), by omega, k + 1, ?_, by omega, rfl, ?_, ?_, hfw12.step q3 hbl, q5⟩
   ·rw [wrap_i64 (by omega) (by omega)]; rfl
   ·rw [barsTo, if_pos c2]; exact ⟨q2, fun h => by simp at h⟩
   ·rw [q4]; simp; exact hfr _ hfw12.2.1
  ·simp at c2
   refine ⟨1920 - (k + 1), by omega, k + 1, ?_, by omega, rfl, ?_, hbl, hfw.trans hB.fwd, hB.fr⟩
   ·rw [wrap_i64 (by omega) (by omega)]; rfl
   ·rw [barsTo, if_neg (by omega), List.append_nil]; exact ⟨hso7, hnil⟩
 ·simp at c
  have : k = 1920 := by omega
  subst this
  exact ⟨⟨⟨hso, hnil⟩, hbl⟩, hfw⟩
theorem okB_len : ∀ {l : List Bar} {last : Int}, last < 1920 → okB last l = true → (l.length : Int) ≤ 1919 - last
 | [], _, h, _ => by simp; omega
 | p :: q, last, _, h => by
  simp only [okB, Bool.and_eq_true, decide_eq_true_eq] at h
  have := okB_len (l := q) (last := p.1) h.1.1.2 h.2
  simp; omega
theorem okB_mem : ∀ {l : List Bar} {last : Int}, okB last l = true → ∀ p, p ∈ l → last < p.1 ∧ p.1 < 1920 ∧ p.2 ≠ 0
 | [], _, _, p, hp => by simp at hp
 | x :: q, last, h, p, hp => by
  simp only [okB, Bool.and_eq_true, decide_eq_true_eq, Bool.not_eq_true', beq_eq_false_iff_ne] at h
  rcases List.mem_cons.1 hp with rfl | hp
  ·exact ⟨h.1.1.1, h.1.1.2, h.1.2⟩
  ·have := okB_mem h.2 p hp
   exact ⟨by omega, this.2⟩
theorem Merge_okS {s : St} {a1 a2 : AV} {l1 l2 : List Bar} (h1 : Sl barE s a1 l1) (h2 : Sl barE s a2 l2) (r1 : RngB l1) (r2 : RngB l2) :
  CallsD P F.sketch_Merge [a1, a2] s fun v s' => ((if okB (-1) l1 = true ∧ okB (-1) l2 = true then ∃ x, v = .tuple [x, .int .i64 0] ∧ SoN barE s' x (mergeB l1 l2) ∧ Gone s x else v = .tuple [.nilslice, .int .i64 131]) ∧ Frw [] s s') ∧ Fr s' := by
 refine CallsD.of fun hfr => vc.sketch_Merge_ok ((laid_ok h1 r1).mono ?_)
 rintro _ s2 ⟨⟨f1, b, g1, rfl, o1⟩, hfr2⟩
 refine ⟨if okB (-1) l1 = true then .ptr b 0 else .nilptr, okB (-1) l1, by cases okB (-1) l1 <;> rfl, (laid_ok (h2.ext f1) r2).mono ?_⟩
 rintro _ s6 ⟨⟨f2, b2, g2, rfl, o2⟩, hfr6⟩
 refine ⟨if okB (-1) l2 = true then .ptr b2 0 else .nilptr, okB (-1) l2, by cases okB (-1) l2 <;> rfl, ?_⟩
 have f6 := f1.trans f2
 refine bsel_of (fun c => ⟨by simp at c; simp [c], f6⟩) fun c => bsel_of (fun c' => ⟨by simp at c'; simp [c'], f6⟩) fun c' => ?_
 simp at c c'
 rw [if_pos c]
 refine h2.slen ⟨fun n s13 m => ∃ k : Nat, n = k ∧ k ≤ l2.length ∧ m = l2.length - k ∧ ∃ r, addR (fillR zeroR l1) l2 = addR r (l2.drop k) ∧ RngR r ∧ Own s13 b (rowC r) ∧ Frw [] s s13 ∧ Fr s13, ⟨_, 0, rfl, by omega, rfl, _, rfl, .fill .zero r1, (o1 c).ext f2, f6, hfr6⟩, ?_⟩
 rintro n s13 m ⟨k, rfl, hk, rfl, r, he, hrr, hown, hfw, hfr13⟩
 refine bsel_of (fun hb => ?_) fun hb => ?_
 ·have hb : k < l2.length := by simpa using hb
  refine (h2.ext hfw).ixs rfl rfl hb fun bb o hR => ?_
  have hrp : RngP l2[k] := r2 _ (List.getElem_mem hb)
  have hmem := okB_mem c' l2[k] (List.getElem_mem hb)
  have hlen := okB_len (by omega) c'
  rw [drop_at hb] at he
  generalize l2[k] = p at hR hrp hmem he
  obtain ⟨p1, p2⟩ := p
  refine ⟨p1, p2, hR.all rfl, ?_⟩
  intro m19 s20 hN
  obtain ⟨s21, w1, w2, w3, w4, w5, w6⟩ := hN.own.wrAll [.int .i64 p1, .int .u64 p2] rfl rfl
  have hfw21 : Frw [] s13 s21 := hN.fwd.step w3 (by simpa using hN.gone)
  refine ⟨s21, w1, p1, w2.ld1 0 rfl, p2, w2.ld1 1 rfl, (put_ok (hown.ext hfw21) hrr (by omega) hmem.2.1 hrp.2.2).mono ?_⟩
  rintro _ s25 ⟨⟨rfl, ho, hf⟩, hfr25⟩
  refine ⟨rfl, l2.length - (k + 1), by omega, k + 1, ?_, by omega, rfl, _, he, hrr.upd (sat_rng (hrr _) hrp.2.2), ho, (hfw.trans hfw21).step hf ?_, hfr25⟩
  ·rw [wrap_i64 (by omega) (by omega)]; rfl
  ·simpa using g1
 ·have hb : k = l2.length := by simp at hb; omega
  subst hb
  refine (bars_okS hown hrr).mono ?_
  rintro x s28 ⟨⟨⟨hs, hg⟩, hf⟩, _⟩
  refine ⟨x, rfl, ?_, hfw.trans hf⟩
  rw [if_pos ⟨c, c'⟩]
  refine ⟨x, rfl, ?_, hg.back hfw⟩
  have : mergeB l1 l2 = barsOf r := by unfold mergeB; rw [he, List.drop_length]; rfl
  rw [this]; exact hs
end
end Go.Eng.S

namespace Go.Eng.S
open Go Go.Eng Go.Proofs
noncomputable section
theorem Check_ok {s : St} {a : AV} {l : List Bar} (ha : Sl barE s a l) (hr : RngB l) :
  CallsD P F.sketch_Check [a] s fun v s' => (v = .int .i64 (if okB (-1) l = true then 0 else 131) ∧ Frw [] s s') ∧ Fr s' := by
 refine CallsD.of fun hfr => vc.sketch_Check_ok ((laid_ok ha hr).mono ?_)
 rintro v s' ⟨⟨h1, b, h2, rfl, h3⟩, h4⟩
 by_cases c : okB (-1) l = true
 ·exact ⟨.ptr b 0, true, by simp [c], by simp [c], h1⟩
 ·exact ⟨.nilptr, false, by simp [c], by simp [c], h1⟩
def subR (r : RowF) : List Bar → Option RowF
 | [] => some r
 | p :: q => if r p.1.toNat < p.2 then none else subR (upd r p.1.toNat (r p.1.toNat - p.2)) q
def lessB (a b : List Bar) : Option (List Bar) := (subR (fillR zeroR a) b).map barsOf
theorem Less_okS {s : St} {a1 a2 : AV} {l1 l2 : List Bar} (h1 : Sl barE s a1 l1) (h2 : Sl barE s a2 l2) (r1 : RngB l1) (r2 : RngB l2) :
  CallsD P F.sketch_Less [a1, a2] s fun v s' => ((if okB (-1) l1 = true ∧ okB (-1) l2 = true then (match lessB l1 l2 with | some l => ∃ x, v = .tuple [x, .int .i64 0] ∧ SoN barE s' x l ∧ Gone s x | none => v = .tuple [.nilslice, .int .i64 134]) else v = .tuple [.nilslice, .int .i64 131]) ∧ Frw [] s s') ∧ Fr s' := by
 refine CallsD.of fun hfr => vc.sketch_Less_ok ((laid_ok h1 r1).mono ?_)
 rintro _ s2 ⟨⟨f1, b, g1, rfl, o1⟩, hfr2⟩
 refine ⟨if okB (-1) l1 = true then .ptr b 0 else .nilptr, okB (-1) l1, by cases okB (-1) l1 <;> rfl, (laid_ok (h2.ext f1) r2).mono ?_⟩
 rintro _ s6 ⟨⟨f2, b2, g2, rfl, o2⟩, hfr6⟩
 refine ⟨if okB (-1) l2 = true then .ptr b2 0 else .nilptr, okB (-1) l2, by cases okB (-1) l2 <;> rfl, ?_⟩
 have f6 := f1.trans f2
 refine bsel_of (fun c => ⟨by simp at c; simp [c], f6⟩) fun c => bsel_of (fun c' => ⟨by simp at c'; simp [c'], f6⟩) fun c' => ?_
 simp at c c'
 rw [if_pos c]
 refine h2.slen ⟨fun n s13 m => ∃ k : Nat, n = k ∧ k ≤ l2.length ∧ m = l2.length - k ∧ ∃ r, subR (fillR zeroR l1) l2 = subR r (l2.drop k) ∧ RngR r ∧ Own s13 b (rowC r) ∧ Frw [] s s13 ∧ Fr s13, ⟨_, 0, rfl, by omega, rfl, _, rfl, .fill .zero r1, (o1 c).ext f2, f6, hfr6⟩, ?_⟩
 rintro n s13 m ⟨k, rfl, hk, rfl, r, he, hrr, hown, hfw, hfr13⟩
 refine bsel_of (fun hb => ?_) fun hb => ?_
 ·have hb : k < l2.length := by simpa using hb
  refine (h2.ext hfw).ixs rfl rfl hb fun bb o hR => ?_
  have hrp : RngP l2[k] := r2 _ (List.getElem_mem hb)
  have hmem := okB_mem c' l2[k] (List.getElem_mem hb)
  have hlen := okB_len (by omega) c'
  rw [drop_at hb] at he
  generalize l2[k] = p at hR hrp hmem he
  obtain ⟨p1, p2⟩ := p
  refine ⟨p1, p2, hR.all rfl, ?_⟩
  intro m19 s20 hN
  obtain ⟨s21, w1, w2, w3, w4, w5, w6⟩ := hN.own.wrAll [.int .i64 p1, .int .u64 p2] rfl rfl
  have hfw21 : Frw [] s13 s21 := hN.fwd.step w3 (by simpa using hN.gone)
  refine ⟨s21, w1, ?_⟩
  intro s22 hB
  have o19 := w2.ext hB.fwd
  have ob := (hown.ext hfw21).ext hB.fwd
  have hx := hrr p1.toNat
  have hrp2 := hrp.2.2
  unfold M64 at hx hrp2
  refine ⟨p1, o19.ld1 0 rfl, by omega, hmem.2.1, r p1.toNat, by simp only [Nat.zero_add]; exact ob.ld1 _ (rowC_get _ (by omega)), p2, o19.ld1 1 rfl, bsel_of (fun q => ?_) fun q => ?_⟩
  ·simp at q
   refine ⟨?_, (hfw.trans hfw21).trans hB.fwd⟩
   have : lessB l1 l2 = none := by unfold lessB; rw [he]; simp [subR, q]
   rw [if_pos ⟨c, c'⟩, this]
  ·simp at q
   intro s28 hB2
   have o19 := o19.ext hB2.fwd
   have ob := ob.ext hB2.fwd
   obtain ⟨s36, x1, x2, x3, x4, x5, x6⟩ := ob.wrN p1.toNat [.int .u64 (IntKind.wrap .u64 (r p1.toNat - p2))] rfl (by rw [rowC_len]; simp; omega)
   rw [rowC_splice _ (by omega), wrap_u64 (by omega) (by omega)] at x2
   refine ⟨p1, o19.ld1 0 rfl, by omega, hmem.2.1, r p1.toNat, by simp only [Nat.zero_add]; exact ob.ld1 _ (rowC_get _ (by omega)), p2, o19.ld1 1 rfl, by omega, hmem.2.1, s36, by simp only [Nat.zero_add]; exact x1, l2.length - (k + 1), by omega, k + 1, ?_, by omega, rfl, _, ?_, hrr.upd ?_, x2, ?_, hB2.fr.wr ob.there x4 x6⟩
   ·rw [wrap_i64 (by omega) (by omega)]; rfl
   ·rw [he]; simp only [subR]; rw [if_neg (by omega)]
   ·unfold M64; omega
   ·exact (((hfw.trans hfw21).trans hB.fwd).trans hB2.fwd).step x3 (by simpa using g1)
 ·have hb : k = l2.length := by simp at hb; omega
  subst hb
  refine (bars_okS hown hrr).mono ?_
  rintro x s28 ⟨⟨⟨hs, hg⟩, hf⟩, _⟩
  refine ⟨x, rfl, ?_, hfw.trans hf⟩
  rw [if_pos ⟨c, c'⟩]
  have : lessB l1 l2 = some (barsOf r) := by unfold lessB; rw [he, List.drop_length]; rfl
  rw [this]
  exact ⟨x, rfl, hs, hg.back hfw⟩
end
end Go.Eng.S

namespace Go.Eng.S
open Go Go.Eng Go.Proofs
noncomputable section
abbrev P2 := Int × Int
def val2 (p : P2) : Int := p.1 * 18446744073709551616 + p.2
def of2 (n : Int) : P2 := (n / 18446744073709551616, n % 18446744073709551616)
def Rng2 (p : P2) : Prop := (0 ≤ p.1 ∧ p.1 ≤ M64) ∧ 0 ≤ p.2 ∧ p.2 ≤ M64
def M128 : Int := 340282366920938463463374607431768211455
def plusP (a b : P2) : P2 := of2 (if val2 a + val2 b ≤ M128 then val2 a + val2 b else M128)
def minusP (a b : P2) : P2 := of2 ((val2 a - val2 b) % 340282366920938463463374607431768211456)
def leP (a b : P2) : Bool := decide (val2 a ≤ val2 b)
theorem Rng2.val {p : P2} (h : Rng2 p) : 0 ≤ val2 p ∧ val2 p ≤ M128 := by
 obtain ⟨⟨h1, h2⟩, h3, h4⟩ := h
 unfold M64 at *; unfold val2 M128; omega
theorem Rng2.of {n : Int} (h0 : 0 ≤ n) (h1 : n ≤ M128) : Rng2 (of2 n) := by
 unfold M128 at h1; unfold Rng2 of2 M64; simp only; omega
def p2V (p : P2) : AV := .agg [.int .u64 p.1, .int .u64 p.2]
theorem plus_pure (a b : P2) (ha : Rng2 a) (hb : Rng2 b) (s : St) : CallsD P F.calls_plus [p2V a, p2V b] s fun v s' => v = p2V (plusP a b) ∧ s' = s := by
 refine CallsD.pure (fun s => (vc.calls_plus_ok ?_).a) rfl s
 obtain ⟨a1, a2⟩ := a
 obtain ⟨b1, b2⟩ := b
 obtain ⟨⟨ha1, ha2⟩, ha3, ha4⟩ := ha
 obtain ⟨⟨hb1, hb2⟩, hb3, hb4⟩ := hb
 simp only [M64] at *
 intro m1 s2 h2 m3 s4 h4 m5 s6 h6
 have o1 := (h2.own.ext h4.fwd).ext h6.fwd
 have o3 := h4.own.ext h6.fwd
 refine ⟨a2, o1.ld1 1 rfl, b2, o3.ld1 1 rfl, _, _, add64_of ha3 hb3 (.inl rfl), a1, o1.ld1 0 rfl, b1, o3.ld1 0 rfl, _, _, add64_of ha1 hb1 (by omega), bsel_of (fun c => ?_) fun c => ?_⟩
 ·simp at c
  obtain ⟨s15, w1, w2, _⟩ := h6.own.wrAll [.int .u64 18446744073709551615, .int .u64 18446744073709551615] rfl rfl
  refine ⟨s15, w1, _, _, w2.all rfl, ?_⟩
  unfold p2V plusP val2 M128
  rw [if_neg (by simp only; omega)]
  rfl
 ·simp at c
  obtain ⟨s15, w1, w2, _⟩ := h6.own.wrAll [.int .u64 ((a1 + b1 + (a2 + b2 + 0) / 18446744073709551616) % 18446744073709551616), .int .u64 ((a2 + b2 + 0) % 18446744073709551616)] rfl rfl
  refine ⟨s15, w1, _, _, w2.all rfl, ?_⟩
  unfold p2V plusP val2 M128
  rw [if_pos (by simp only; omega)]
  unfold of2
  simp only
  rw [show (a1 + b1 + (a2 + b2 + 0) / 18446744073709551616) % 18446744073709551616 = (a1 * 18446744073709551616 + a2 + (b1 * 18446744073709551616 + b2)) / 18446744073709551616 by omega, show (a2 + b2 + 0) % 18446744073709551616 = (a1 * 18446744073709551616 + a2 + (b1 * 18446744073709551616 + b2)) % 18446744073709551616 by omega]
structure Tal where
 a : P2
 b : P2
 c : P2
 l : List Bar
def Tal.V (t : Tal) (x : AV) : AV := .agg [.int .u64 t.a.1, .int .u64 t.a.2, .int .u64 t.b.1, .int .u64 t.b.2, .int .u64 t.c.1, .int .u64 t.c.2, x]
def Tal.C (t : Tal) (x : AV) : List AV := [.int .u64 t.a.1, .int .u64 t.a.2, .int .u64 t.b.1, .int .u64 t.b.2, .int .u64 t.c.1, .int .u64 t.c.2, x]
structure Tal.Rng (t : Tal) : Prop where
 a : Rng2 t.a
 b : Rng2 t.b
 c : Rng2 t.c
 l : RngB t.l
def Tal.zero : Tal := ⟨(0, 0), (0, 0), (0, 0), []⟩
abbrev Tal.ok (t : Tal) : Bool := okB (-1) t.l
def Tal.plus (t u : Tal) : Tal := ⟨plusP t.a u.a, plusP t.b u.b, plusP t.c u.c, mergeB t.l u.l⟩
theorem Plus_okS {s : St} {t u : Tal} {x y : AV} (hx : Sl barE s x t.l) (hy : Sl barE s y u.l) (ht : t.Rng) (hu : u.Rng) :
  CallsD P F.calls_Plus [t.V x, u.V y] s fun v s' => ((if t.ok = true ∧ u.ok = true then ∃ z, v = .tuple [(t.plus u).V z, .int .i64 0] ∧ SoN barE s' z (t.plus u).l ∧ Gone s z else v = .tuple [Tal.zero.V .nilslice, .int .i64 131]) ∧ Frw [] s s') ∧ Fr s' := by
 refine CallsD.of fun hfr => vc.calls_Plus_ok ?_
 intro m1 s2 h2 m3 s4 h4 m5 s6 h6
 have f6 : Frw [] s s6 := (h2.fwd.trans h4.fwd).trans h6.fwd
 have o1 := (h2.own.ext h4.fwd).ext h6.fwd
 have o3 := h4.own.ext h6.fwd
 have o5 := h6.own
 have f5 : s.h.get m5 = none := (h2.fwd.trans h4.fwd).none h6.gone (by simp)
 refine ⟨x, o1.ld1 6 rfl, y, o3.ld1 6 rfl, (Merge_okS (hx.ext f6) (hy.ext f6) ht.l hu.l).mono ?_⟩
 rintro v s10 ⟨⟨hv, f10⟩, hfr10⟩
 by_cases c : t.ok = true ∧ u.ok = true
 ·rw [if_pos c] at hv
  obtain ⟨z, rfl, ⟨hz, hzn⟩, hg⟩ := hv
  refine ⟨z, 0, rfl, bsel_of (fun c => by simp at c) fun _ => ?_⟩
  intro s21 hB
  have o1 := (o1.ext f10).ext hB.fwd
  have o3 := (o3.ext f10).ext hB.fwd
  have o5 := (o5.ext f10).ext hB.fwd
  have hz := hz.ext hB.fwd
  refine ⟨_, _, o1.ldN 0 2 (by simp), _, _, o3.ldN 0 2 (by simp), (plus_pure _ _ ht.a hu.a s21).mono ?_⟩
  rintro _ _ ⟨rfl, rfl⟩
  refine ⟨_, _, rfl, _, _, o1.ldN 2 2 (by simp), o1.ldN 2 2 (by simp), _, _, o3.ldN 2 2 (by simp), o3.ldN 2 2 (by simp), (plus_pure _ _ ht.b hu.b _).mono ?_⟩
  rintro _ _ ⟨rfl, rfl⟩
  refine ⟨_, _, rfl, _, _, o1.ldN 4 2 (by simp), o1.ldN 4 2 (by simp), o1.ldN 4 2 (by simp), _, _, o3.ldN 4 2 (by simp), o3.ldN 4 2 (by simp), o3.ldN 4 2 (by simp), (plus_pure _ _ ht.c hu.c _).mono ?_⟩
  rintro _ _ ⟨rfl, rfl⟩
  refine ⟨_, _, rfl, hz.sl.one ?_⟩
  obtain ⟨s49, w1, w2, w3, w4⟩ := o5.wrAll ((t.plus u).C z) (hz.sl.onesx []) rfl
  refine ⟨s49, w1, _, _, _, _, _, _, _, w2.all rfl, ?_, ((f6.trans f10).trans hB.fwd).step w3 (by simpa using f5)⟩
  rw [if_pos c]
  exact ⟨z, rfl, ⟨hz.wrG w3 hg h6.own.there, hzn⟩, hg.back f6⟩
 ·rw [if_neg c] at hv
  subst hv
  refine ⟨.nilslice, 131, rfl, bsel_of (fun _ => ?_) fun c => by simp at c⟩
  obtain ⟨s49, w1, w2, w3, w4⟩ := (o5.ext f10).wrAll (Tal.zero.C .nilslice) rfl rfl
  refine ⟨s49, w1, _, _, _, _, _, _, _, w2.all rfl, ?_, (f6.trans f10).step w3 (by simpa using f5)⟩
  rw [if_neg c]; rfl
end
end Go.Eng.S

namespace Go.Eng.S
open Go Go.Eng Go.Proofs
noncomputable section
theorem minus_pure (a b : P2) (ha : Rng2 a) (hb : Rng2 b) (s : St) : CallsD P F.calls_minus [p2V a, p2V b] s fun v s' => v = .tuple [p2V (minusP a b), .bool (leP b a)] ∧ s' = s := by
 refine CallsD.pure (fun s => (vc.calls_minus_ok ?_).a) rfl s
 obtain ⟨a1, a2⟩ := a
 obtain ⟨b1, b2⟩ := b
 obtain ⟨⟨ha1, ha2⟩, ha3, ha4⟩ := ha
 obtain ⟨⟨hb1, hb2⟩, hb3, hb4⟩ := hb
 simp only [M64] at *
 intro m1 s2 h2 m3 s4 h4 m5 s6 h6
 have o1 := (h2.own.ext h4.fwd).ext h6.fwd
 have o3 := h4.own.ext h6.fwd
 refine ⟨a2, o1.ld1 1 rfl, b2, o3.ld1 1 rfl, _, _, sub64_of (by omega) (by omega) (.inl rfl), a1, o1.ld1 0 rfl, b1, o3.ld1 0 rfl, _, _, sub64_of (by omega) (by omega) (by split <;> simp), ?_⟩
 generalize hd : (if a2 < b2 + 0 then (1 : Int) else 0) = d
 obtain ⟨s15, w1, w2, _⟩ := h6.own.wrAll [.int .u64 ((a1 - b1 - d) % 18446744073709551616), .int .u64 ((a2 - b2 - 0) % 18446744073709551616)] rfl rfl
 refine ⟨s15, w1, _, _, w2.all rfl, ?_⟩
 have e1 : minusP (a1, a2) (b1, b2) = ((a1 - b1 - d) % 18446744073709551616, (a2 - b2 - 0) % 18446744073709551616) := by
  unfold minusP of2 val2
  simp only
  split at hd <;> (subst hd; congr 1 <;> omega)
 have e2 : leP (b1, b2) (a1, a2) = ((if a1 < b1 + d then (1 : Int) else 0) == 0) := by
  unfold leP val2
  simp only
  split at hd <;> (subst hd; split <;> simp <;> omega)
 rw [e1, e2]
 rfl
def Tal.minus (t u : Tal) : Option Tal :=
 if leP u.a t.a = true ∧ leP u.b t.b = true ∧ leP u.c t.c = true then (lessB t.l u.l).map fun l => ⟨minusP t.a u.a, minusP t.b u.b, minusP t.c u.c, l⟩ else none
theorem Minus_okS {s : St} {t u : Tal} {x y : AV} (hx : Sl barE s x t.l) (hy : Sl barE s y u.l) (ht : t.Rng) (hu : u.Rng) :
  CallsD P F.calls_Minus [t.V x, u.V y] s fun v s' => ((if t.ok = true ∧ u.ok = true then (match t.minus u with | some d => ∃ z, v = .tuple [d.V z, .int .i64 0] ∧ SoN barE s' z d.l ∧ Gone s z | none => v = .tuple [Tal.zero.V .nilslice, .int .i64 141]) else v = .tuple [Tal.zero.V .nilslice, .int .i64 131]) ∧ Frw [] s s') ∧ Fr s' := by
 refine CallsD.of fun hfr => vc.calls_Minus_ok ?_
 intro m1 s2 h2 m3 s4 h4 m5 s6 h6
 have f6 : Frw [] s s6 := (h2.fwd.trans h4.fwd).trans h6.fwd
 have o1 := (h2.own.ext h4.fwd).ext h6.fwd
 have o3 := h4.own.ext h6.fwd
 have o5 := h6.own
 have f5 : s.h.get m5 = none := (h2.fwd.trans h4.fwd).none h6.gone (by simp)
 refine ⟨x, o1.ld1 6 rfl, (Check_ok (hx.ext f6) ht.l).mono ?_⟩
 rintro _ s9 ⟨⟨rfl, g9⟩, hfr9⟩
 refine ⟨_, rfl, bsel_of (fun c => ?_) fun c => ?_⟩
 ·have c : ¬ okB (-1) t.l = true := by intro h; rw [if_pos h] at c; simp at c
  obtain ⟨s49, w1, w2, w3, w4⟩ := (o5.ext g9).wrAll (Tal.zero.C .nilslice) rfl rfl
  refine ⟨s49, w1, _, _, _, _, _, _, _, w2.all rfl, ?_, (f6.trans g9).step w3 (by simpa using f5)⟩
  rw [if_neg (by simp [c])]; rfl
 have ct : okB (-1) t.l = true := by
  cases h : okB (-1) t.l with
  | true => rfl
  | false => rw [h] at c; simp at c
 have o1 := o1.ext g9
 have o3 := o3.ext g9
 have o5 := o5.ext g9
 have f9 := f6.trans g9
 refine ⟨y, o3.ld1 6 rfl, (Check_ok (hy.ext f9) hu.l).mono ?_⟩
 rintro _ s21 ⟨⟨rfl, g21⟩, hfr21⟩
 refine ⟨_, rfl, bsel_of (fun c => ?_) fun c => ?_⟩
 ·have c : ¬ okB (-1) u.l = true := by intro h; rw [if_pos h] at c; simp at c
  obtain ⟨s49, w1, w2, w3, w4⟩ := (o5.ext g21).wrAll (Tal.zero.C .nilslice) rfl rfl
  refine ⟨s49, w1, _, _, _, _, _, _, _, w2.all rfl, ?_, (f9.trans g21).step w3 (by simpa using f5)⟩
  rw [if_neg (by simp [c])]; rfl
 have cu : okB (-1) u.l = true := by
  cases h : okB (-1) u.l with
  | true => rfl
  | false => rw [h] at c; simp at c
 have o1 := o1.ext g21
 have o3 := o3.ext g21
 have o5 := o5.ext g21
 have f21 := f9.trans g21
 refine ⟨_, _, o1.ldN 0 2 (by simp), _, _, o3.ldN 0 2 (by simp), (minus_pure _ _ ht.a hu.a s21).mono ?_⟩
 rintro _ s36 ⟨rfl, rfl⟩
 refine ⟨_, _, _, rfl, ?_⟩
 intro m40 s41 h41
 obtain ⟨s42, a1, a2, a3, a4⟩ := h41.own.wrAll [.int .u64 (minusP t.a u.a).1, .int .u64 (minusP t.a u.a).2] rfl rfl
 have g42 : Frw [] s36 s42 := h41.fwd.step a3 (by simpa using h41.gone)
 have o1 := o1.ext g42
 have o3 := o3.ext g42
 have o5 := o5.ext g42
 refine ⟨s42, a1, _, _, o1.ldN 2 2 (by simp), _, _, o3.ldN 2 2 (by simp), (minus_pure _ _ ht.b hu.b s42).mono ?_⟩
 rintro _ s48 ⟨rfl, rfl⟩
 refine ⟨_, _, _, rfl, ?_⟩
 intro m52 s53 h53
 obtain ⟨s54, b1, b2, b3, b4⟩ := h53.own.wrAll [.int .u64 (minusP t.b u.b).1, .int .u64 (minusP t.b u.b).2] rfl rfl
 have g54 : Frw [] s48 s54 := h53.fwd.step b3 (by simpa using h53.gone)
 have o1 := o1.ext g54
 have o3 := o3.ext g54
 have o5 := o5.ext g54
 have a2 := a2.ext g54
 refine ⟨s54, b1, _, _, o1.ldN 4 2 (by simp), _, _, o3.ldN 4 2 (by simp), (minus_pure _ _ ht.c hu.c s54).mono ?_⟩
 rintro _ s60 ⟨rfl, rfl⟩
 refine ⟨_, _, _, rfl, ?_⟩
 intro m64 s65 h65
 obtain ⟨s66, c1, c2, c3, c4⟩ := h65.own.wrAll [.int .u64 (minusP t.c u.c).1, .int .u64 (minusP t.c u.c).2] rfl rfl
 have g66 : Frw [] s60 s66 := h65.fwd.step c3 (by simpa using h65.gone)
 have o1 := o1.ext g66
 have o3 := o3.ext g66
 have o5 := o5.ext g66
 have a2 := a2.ext g66
 have b2 := b2.ext g66
 have f66 := ((f21.trans g42).trans g54).trans g66
 refine ⟨s66, c1, x, o1.ld1 6 rfl, y, o3.ld1 6 rfl, (Less_okS (hx.ext f66) (hy.ext f66) ht.l hu.l).mono ?_⟩
 rintro v s70 ⟨⟨hv, g70⟩, hfr70⟩
 rw [if_pos ⟨ct, cu⟩] at hv
 have o5 := o5.ext g70
 have a2 := a2.ext g70
 have b2 := b2.ext g70
 have c2 := c2.ext g70
 have f70 := f66.trans g70
 have fail : t.minus u = none → ∃ s73, wrN s70 (.ptr m5 0) (Tal.zero.C .nilslice) = some s73 ∧ ∃ n1 n2 n3 n4 n5 n6 x1, ldN s73 (.ptr m5 0) 7 = some [.int .u64 n1, .int .u64 n2, .int .u64 n3, .int .u64 n4, .int .u64 n5, .int .u64 n6, x1] ∧
   ((if t.ok = true ∧ u.ok = true then (match t.minus u with | some d => ∃ z, AV.tuple [.agg [.int .u64 n1, .int .u64 n2, .int .u64 n3, .int .u64 n4, .int .u64 n5, .int .u64 n6, x1], .int .i64 141] = .tuple [d.V z, .int .i64 0] ∧ SoN barE s73 z d.l ∧ Gone s z | none => AV.tuple [.agg [.int .u64 n1, .int .u64 n2, .int .u64 n3, .int .u64 n4, .int .u64 n5, .int .u64 n6, x1], .int .i64 141] = .tuple [Tal.zero.V .nilslice, .int .i64 141]) else AV.tuple [.agg [.int .u64 n1, .int .u64 n2, .int .u64 n3, .int .u64 n4, .int .u64 n5, .int .u64 n6, x1], .int .i64 141] = .tuple [Tal.zero.V .nilslice, .int .i64 131]) ∧ Frw [] s s73) := by
  intro hn
  obtain ⟨s73, w1, w2, w3, w4⟩ := o5.wrAll (Tal.zero.C .nilslice) rfl rfl
  refine ⟨s73, w1, _, _, _, _, _, _, _, w2.all rfl, ?_, f70.step w3 (by simpa using f5)⟩
  rw [if_pos ⟨ct, cu⟩, hn]; rfl
 have hv' : ∃ z n, v = .tuple [z, .int .i64 n] ∧ ((n = 0 ∧ ∃ l, lessB t.l u.l = some l ∧ SoN barE s70 z l ∧ Gone s66 z) ∨ (n ≠ 0 ∧ lessB t.l u.l = none)) := by
  cases h : lessB t.l u.l with
  | none => rw [h] at hv; exact ⟨_, _, hv, .inr ⟨by omega, rfl⟩⟩
  | some l => rw [h] at hv; obtain ⟨z, e, q⟩ := hv; exact ⟨z, 0, e, .inl ⟨rfl, l, rfl, q⟩⟩
 obtain ⟨z, n, rfl, hn⟩ := hv'
 refine ⟨z, n, rfl, bsel_of (fun c => ?_) fun ca => bsel_of (fun c => ?_) fun cb => bsel_of (fun c => ?_) fun cc => bsel_of (fun c => ?_) fun cn => ?_⟩
 ·exact fail (by unfold Tal.minus; rw [if_neg (by simp at c; simp [c])])
 ·exact fail (by unfold Tal.minus; rw [if_neg (by simp at c; simp [c])])
 ·exact fail (by unfold Tal.minus; rw [if_neg (by simp at c; simp [c])])
 ·have : lessB t.l u.l = none := by
   rcases hn with ⟨rfl, _⟩ | ⟨_, h⟩
   ·simp at c
   ·exact h
  exact fail (by unfold Tal.minus; rw [this]; simp)
 ·have hn : ∃ l, lessB t.l u.l = some l ∧ SoN barE s70 z l ∧ Gone s66 z := by
   rcases hn with ⟨_, h⟩ | ⟨h, _⟩
   ·exact h
   ·simp [h] at cn
  obtain ⟨l, hl, ⟨hz, hzn⟩, hg⟩ := hn
  simp at ca cb cc
  have hm : t.minus u = some ⟨minusP t.a u.a, minusP t.b u.b, minusP t.c u.c, l⟩ := by unfold Tal.minus; rw [if_pos ⟨ca, cb, cc⟩, hl]; rfl
  obtain ⟨s111, w1, w2, w3, w4⟩ := o5.wrAll ((⟨minusP t.a u.a, minusP t.b u.b, minusP t.c u.c, l⟩ : Tal).C z) (hz.sl.onesx []) rfl
  refine ⟨_, _, a2.all rfl, _, _, b2.all rfl, _, _, c2.all rfl, hz.sl.one ⟨s111, w1, _, _, _, _, _, _, _, w2.all rfl, ?_, f70.step w3 (by simpa using f5)⟩⟩
  rw [if_pos ⟨ct, cu⟩, hm]
  exact ⟨z, rfl, ⟨hz.wrG w3 hg ((h6.own.ext (((g9.trans g21).trans g42).trans (g54.trans g66))).there), hzn⟩, hg.back f66⟩
end
end Go.Eng.S

namespace Go.Eng.S
open Go Go.Eng Go.Proofs
noncomputable section
theorem mergeB_ok {a b : List Bar} : okB (-1) (mergeB a b) = true := barsOf_ok _
end
end Go.Eng.S

namespace Go.Eng.S
open Go Go.Eng Go.Proofs
set_option linter.constructorNameAsVariable false
noncomputable section
attribute [local irreducible] bsel barsOf mergeB
theorem RngB.none : RngB [] := fun p hp => by simp at hp
end
end Go.Eng.S

