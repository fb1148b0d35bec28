/-
  Bars: rows and lists; sums that are cut off.
  Lists of bars: what the program does with them: laid, put together.
  Lists of bars: looked at, taken away.
  Numbers of two words; tallies: plain laws.
  Numbers of two words; tallies: what is left.
  What the reference and the law do with lists of bars.
  What is put together: plain laws.
  Sums do not hang on the order, nor on which two are put together first: plain laws.
  Rollups: how they lie.
  Rollups: one is made; what an hour's edge has is said anew.
  Rollups: a tally is set, put, taken.
  Sums of tallies: plain laws.
  The order of edges' tallies.
-/
import Derived.Test.YteidlkjofcbcmaaW9to12
import Derived.Test.YteidlkjofcbcmaaSVato3
import Derived.Test.YteidlkjofcbcmaaW15to25
namespace Go.Eng.S
open Go Go.Eng
abbrev Bar := Int × Int
noncomputable def barE : Enc Bar := ⟨fun p => [.int .i64 p.1, .int .u64 p.2], 2, by decide, fun _ => rfl⟩
def okB (last : Int) : List Bar → Bool
 | [] => true
 | p :: r => decide (last < p.1) && decide (p.1 < 1920) && !(p.2 == 0) && okB p.1 r
abbrev RowF := Nat → Int
def upd (r : RowF) (k : Nat) (v : Int) : RowF := fun i => if i = k then v else r i
def fillR (r : RowF) : List Bar → RowF
 | [] => r
 | p :: q => fillR (upd r p.1.toNat p.2) q
def zeroR : RowF := fun _ => 0
def rowN (n : Nat) (r : RowF) : List AV := (List.range n).map fun i => .int .u64 (r i)
def rowC (r : RowF) : List AV := rowN 1920 r
def M64 : Int := 18446744073709551615
def sat (a b : Int) : Int := if a + b ≤ M64 then a + b else M64
def addR (r : RowF) : List Bar → RowF
 | [] => r
 | p :: q => addR (upd r p.1.toNat (sat (r p.1.toNat) p.2)) q
def barsTo (r : RowF) : Nat → List Bar
 | 0 => []
 | n + 1 => barsTo r n ++ (if r n > 0 then [((n : Int), r n)] else [])
def barsOf (r : RowF) : List Bar := barsTo r 1920
def RngP (p : Bar) : Prop := -9223372036854775808 ≤ p.1 ∧ p.1 < 9223372036854775808 ∧ 0 ≤ p.2 ∧ p.2 ≤ M64
def RngB (l : List Bar) : Prop := ∀ p, p ∈ l → RngP p
def RngR (r : RowF) : Prop := ∀ i, 0 ≤ r i ∧ r i ≤ M64
theorem RngB.head {p : Bar} {q : List Bar} (h : RngB (p :: q)) : RngP p := h p (List.mem_cons_self ..)
theorem RngB.tail {p : Bar} {q : List Bar} (h : RngB (p :: q)) : RngB q := fun x hx => h x (List.mem_cons_of_mem _ hx)
theorem rowN_len (n : Nat) (r : RowF) : (rowN n r).length = n := by simp [rowN]
theorem rowN_get (n : Nat) (r : RowF) {i : Nat} (h : i < n) : (rowN n r)[i]? = some (.int .u64 (r i)) := by simp [rowN, h]
theorem rowN_splice (n : Nat) (r : RowF) {k : Nat} (h : k < n) (v : Int) : splice (rowN n r) k [.int .u64 v] = rowN n (upd r k v) := by
 apply List.ext_getElem?
 intro i
 simp only [splice, List.append_assoc]
 by_cases h1 : i < k
 ·rw [List.getElem?_append_left (by simp [rowN_len]; omega), List.getElem?_take_of_lt h1, rowN_get _ _ (by omega), rowN_get _ _ (by omega)]
  simp [upd, show i ≠ k by omega]
 ·rw [List.getElem?_append_right (by simp [rowN_len]; omega)]
  simp only [List.length_take, rowN_len, Nat.min_eq_left (Nat.le_of_lt h)]
  by_cases h2 : i = k
  ·subst h2
   simp [rowN_get _ _ h, upd]
  ·rw [List.getElem?_append_right (by simp; omega)]
   simp only [List.length_singleton, List.getElem?_drop]
   rw [show k + 1 + (i - k - 1) = i by omega]
   by_cases h3 : i < n
   ·rw [rowN_get _ _ h3, rowN_get _ _ h3]; simp [upd, h2]
   ·rw [List.getElem?_eq_none (by rw [rowN_len]; omega), List.getElem?_eq_none (by rw [rowN_len]; omega)]
theorem rowN_zero (n : Nat) : List.replicate n (AV.int .u64 0) = rowN n zeroR := by
 apply List.ext_getElem?
 intro i
 by_cases h3 : i < n
 ·rw [rowN_get _ _ h3]; simp [zeroR, h3]
 ·rw [List.getElem?_eq_none (by simp; omega), List.getElem?_eq_none (by rw [rowN_len]; omega)]
theorem rowC_len (r : RowF) : (rowC r).length = 1920 := rowN_len _ _
theorem rowC_get (r : RowF) {i : Nat} (h : i < 1920) : (rowC r)[i]? = some (.int .u64 (r i)) := rowN_get _ _ h
theorem rowC_splice (r : RowF) {k : Nat} (h : k < 1920) (v : Int) : splice (rowC r) k [.int .u64 v] = rowC (upd r k v) := rowN_splice _ _ h v
theorem rowC_zero : List.replicate 1920 (AV.int .u64 0) = rowC zeroR := rowN_zero _
theorem sat_rng {a b : Int} (ha : 0 ≤ a ∧ a ≤ M64) (hb : 0 ≤ b ∧ b ≤ M64) : 0 ≤ sat a b ∧ sat a b ≤ M64 := by
 unfold sat M64 at *; split <;> omega
theorem sat_comm (a b : Int) : sat a b = sat b a := by unfold sat; rw [Int.add_comm]
theorem sat_assoc {a b c : Int} (ha : 0 ≤ a) (hb : 0 ≤ b) (hc : 0 ≤ c) : sat (sat a b) c = sat a (sat b c) := by
 unfold sat M64; split <;> split <;> (try split) <;> omega
theorem sat_zero {a : Int} (ha : 0 ≤ a ∧ a ≤ M64) : sat a 0 = a := by unfold sat M64 at *; split <;> omega
theorem RngR.upd {r : RowF} (h : RngR r) {k : Nat} {v : Int} (hv : 0 ≤ v ∧ v ≤ M64) : RngR (S.upd r k v) := by
 intro i; unfold S.upd; split
 ·exact hv
 ·exact h i
theorem RngR.zero : RngR zeroR := fun _ => by simp [zeroR, M64]
theorem RngR.fill : ∀ {l : List Bar} {r : RowF}, RngR r → RngB l → RngR (fillR r l)
 | [], _, h, _ => h
 | p :: q, r, h, hb => RngR.fill (l := q) (r := S.upd r p.1.toNat p.2) (h.upd hb.head.2.2) hb.tail
theorem RngR.add : ∀ {l : List Bar} {r : RowF}, RngR r → RngB l → RngR (addR r l)
 | [], _, h, _ => h
 | p :: q, r, h, hb => RngR.add (l := q) (r := S.upd r p.1.toNat (sat (r p.1.toNat) p.2)) (h.upd (sat_rng (h _) hb.head.2.2)) hb.tail
def has : List Bar → Nat → Bool
 | [], _ => false
 | p :: q, i => p.1.toNat == i || has q i
def cnt : List Bar → RowF
 | [], _ => 0
 | p :: q, i => if p.1.toNat = i then p.2 else cnt q i
theorem has_below : ∀ {l : List Bar} {last : Int} {i : Nat}, -1 ≤ last → okB last l = true → (i : Int) ≤ last → has l i = false
 | [], _, _, _, _, _ => rfl
 | p :: q, last, i, h0, h, hi => by
  simp only [okB, Bool.and_eq_true, decide_eq_true_eq] at h
  have h1 := has_below (l := q) (last := p.1) (i := i) (by omega) h.2 (by omega)
  have : p.1.toNat ≠ i := by omega
  simp [has, h1, this]
theorem cnt_none : ∀ {l : List Bar} {i : Nat}, has l i = false → cnt l i = 0
 | [], _, _ => rfl
 | p :: q, i, h => by
  simp only [has, Bool.or_eq_false_iff, beq_eq_false_iff_ne] at h
  simp [cnt, h.1, cnt_none h.2]
theorem fillR_eq : ∀ {l : List Bar} {r : RowF} {last : Int}, -1 ≤ last → okB last l = true → ∀ i, fillR r l i = if has l i = true then cnt l i else r i
 | [], _, _, _, _, i => by simp [fillR, has]
 | p :: q, r, last, h0, h, i => by
  simp only [okB, Bool.and_eq_true, decide_eq_true_eq] at h
  obtain ⟨⟨⟨h1, h2⟩, h3⟩, h4⟩ := h
  rw [fillR, fillR_eq (l := q) (last := p.1) (by omega) h4 i]
  by_cases e : p.1.toNat = i
  ·have hn := has_below (l := q) (last := p.1) (i := i) (by omega) h4 (by omega)
   simp [hn, has, e, cnt, upd]
  ·simp [has, e, cnt, upd, Ne.symm e]
theorem fill_zero {l : List Bar} (h : okB (-1) l = true) (i : Nat) : fillR zeroR l i = cnt l i := by
 rw [fillR_eq (by omega) h i]
 split
 ·rfl
 ·rename_i hn
  rw [cnt_none (by simpa using hn)]; rfl
theorem addR_eq : ∀ {l : List Bar} {r : RowF} {last : Int}, -1 ≤ last → okB last l = true → RngR r → RngB l → ∀ i, addR r l i = sat (r i) (cnt l i)
 | [], r, _, _, _, hr, _, i => by simp [addR, cnt, sat_zero (hr i)]
 | p :: q, r, last, h0, h, hr, hb, i => by
  simp only [okB, Bool.and_eq_true, decide_eq_true_eq] at h
  obtain ⟨⟨⟨h1, h2⟩, h3⟩, h4⟩ := h
  have hr' := hr.upd (k := p.1.toNat) (sat_rng (hr p.1.toNat) hb.head.2.2)
  rw [addR, addR_eq (l := q) (last := p.1) (by omega) h4 hr' hb.tail i]
  by_cases e : p.1.toNat = i
  ·have hn := cnt_none (has_below (l := q) (last := p.1) (i := i) (by omega) h4 (by omega))
   subst e
   rw [hn, sat_zero (hr' _)]
   simp [upd, cnt]
  ·simp [cnt, e, upd, Ne.symm e]
theorem cnt_rng : ∀ {l : List Bar}, RngB l → RngR (cnt l)
 | [], _, i => by simp [cnt, M64]
 | p :: q, h, i => by
  simp only [cnt]
  split
  ·exact h.head.2.2
  ·exact cnt_rng h.tail i
theorem barsTo_congr {r r' : RowF} : ∀ {n : Nat}, (∀ i, i < n → r i = r' i) → barsTo r n = barsTo r' n
 | 0, _ => rfl
 | n + 1, h => by
  simp only [barsTo]
  rw [barsTo_congr fun i hi => h i (by omega), h n (by omega)]
def barsFrom (r : RowF) : Nat → Nat → List Bar
 | _, 0 => []
 | k, m + 1 => (if r k > 0 then [((k : Int), r k)] else []) ++ barsFrom r (k + 1) m
theorem barsFrom_snoc (r : RowF) : ∀ (m k : Nat), barsFrom r k (m + 1) = barsFrom r k m ++ (if r (k + m) > 0 then [(((k + m : Nat) : Int), r (k + m))] else [])
 | 0, k => by simp [barsFrom]
 | m + 1, k => by
  rw [barsFrom, barsFrom_snoc r m (k + 1), barsFrom, List.append_assoc]
  rw [show k + 1 + m = k + (m + 1) by omega]
theorem barsTo_from (r : RowF) : ∀ n, barsTo r n = barsFrom r 0 n
 | 0 => rfl
 | n + 1 => by rw [barsTo, barsTo_from r n, barsFrom_snoc, Nat.zero_add]
theorem barsFrom_congr {r r' : RowF} : ∀ {m k : Nat}, (∀ i, k ≤ i → i < k + m → r i = r' i) → barsFrom r k m = barsFrom r' k m
 | 0, _, _ => rfl
 | m + 1, k, h => by
  simp only [barsFrom]
  rw [h k (by omega) (by omega), barsFrom_congr fun i h1 h2 => h i (by omega) (by omega)]
theorem barsFrom_cnt : ∀ (m k : Nat) (l : List Bar), k + m = 1920 → okB ((k : Int) - 1) l = true → RngB l → barsFrom (cnt l) k m = l
 | 0, k, l, hk, h, _ => by
  cases l with
  | nil => rfl
  | cons p q =>
   simp only [okB, Bool.and_eq_true, decide_eq_true_eq] at h
   omega
 | m + 1, k, l, hk, h, hb => by
  simp only [barsFrom]
  cases l with
  | nil =>
   have := barsFrom_cnt m (k + 1) [] (by omega) rfl (by intro p hp; simp at hp)
   rw [this]; simp [cnt]
  | cons p q =>
   have h' := h
   simp only [okB, Bool.and_eq_true, decide_eq_true_eq, Bool.not_eq_true', beq_eq_false_iff_ne] at h
   obtain ⟨⟨⟨h1, h2⟩, h3⟩, h4⟩ := h
   by_cases e : p.1 = k
   ·have hc : cnt (p :: q) k = p.2 := by simp [cnt, e]
    have hpos : p.2 > 0 := by have := hb.head.2.2.1; omega
    have hq := barsFrom_cnt m (k + 1) q (by omega) (by rw [show ((k + 1 : Nat) : Int) - 1 = k by omega, ← e]; exact h4) hb.tail
    rw [hc, if_pos hpos]
    rw [barsFrom_congr (r' := cnt q) (fun i hi _ => by simp only [cnt]; rw [if_neg (by omega)]), hq]
    simp only [List.singleton_append, List.cons.injEq, and_true]
    rw [← e]
   ·have hn : has (p :: q) k = false := by
     have h5 := has_below (l := q) (last := p.1) (i := k) (by omega) h4 (by omega)
     have : p.1.toNat ≠ k := by omega
     simp [has, h5, this]
    rw [cnt_none hn]
    have hok : okB (((k + 1 : Nat) : Int) - 1) (p :: q) = true := by
     simp only [okB, Bool.and_eq_true, decide_eq_true_eq, Bool.not_eq_true', beq_eq_false_iff_ne]
     exact ⟨⟨⟨by omega, h2⟩, h3⟩, h4⟩
    have := barsFrom_cnt m (k + 1) (p :: q) (by omega) hok hb
    rw [this]; simp
theorem barsOf_cnt {l : List Bar} (h : okB (-1) l = true) (hb : RngB l) : barsOf (cnt l) = l := by
 unfold barsOf
 rw [barsTo_from]
 exact barsFrom_cnt 1920 0 l rfl h hb
def mergeB (a b : List Bar) : List Bar := barsOf (addR (fillR zeroR a) b)
theorem mergeB_eq {a b : List Bar} (ha : okB (-1) a = true) (hb : okB (-1) b = true) (ra : RngB a) (rb : RngB b) : mergeB a b = barsOf fun i => sat (cnt a i) (cnt b i) := by
 unfold mergeB barsOf
 refine barsTo_congr fun i _ => ?_
 rw [addR_eq (by omega) hb (RngR.fill .zero ra) rb, fill_zero ha]
theorem okB_snoc : ∀ {l : List Bar} {last : Int} {p : Bar}, okB last l = true → (∀ q, q ∈ l → q.1 < p.1) → last < p.1 → p.1 < 1920 → p.2 ≠ 0 → okB last (l ++ [p]) = true
 | [], last, p, _, _, h1, h2, h3 => by simp [okB, h1, h2, h3]
 | x :: l, last, p, h, hl, h1, h2, h3 => by
  simp only [okB, Bool.and_eq_true, decide_eq_true_eq, List.cons_append] at h ⊢
  exact ⟨h.1, okB_snoc h.2 (fun q hq => hl q (List.mem_cons_of_mem _ hq)) (hl x (List.mem_cons_self ..)) h2 h3⟩
theorem barsTo_below (r : RowF) : ∀ (n : Nat) (p : Bar), p ∈ barsTo r n → p.1 < (n : Int) ∧ 0 ≤ p.1 ∧ p.2 = r p.1.toNat ∧ p.2 > 0
 | 0, p, h => by simp [barsTo] at h
 | n + 1, p, h => by
  simp only [barsTo, List.mem_append] at h
  rcases h with h | h
  ·have := barsTo_below r n p h; omega
  ·split at h
   ·simp at h; subst h; rename_i hp; exact ⟨by simp; omega, by simp, by simp, hp⟩
   ·simp at h
theorem barsTo_ok (r : RowF) : ∀ (n : Nat), n ≤ 1920 → okB (-1) (barsTo r n) = true
 | 0, _ => rfl
 | n + 1, hn => by
  simp only [barsTo]
  split
  ·rename_i hp
   exact okB_snoc (barsTo_ok r n (by omega)) (fun q hq => (barsTo_below r n q hq).1) (by simp; omega) (by simp; omega) (by simp; omega)
  ·simp only [List.append_nil]; exact barsTo_ok r n (by omega)
theorem barsOf_ok (r : RowF) : okB (-1) (barsOf r) = true := barsTo_ok r 1920 (Nat.le_refl _)
theorem barsTo_len (r : RowF) : ∀ n, (barsTo r n).length ≤ n
 | 0 => by simp [barsTo]
 | n + 1 => by
  have := barsTo_len r n
  simp only [barsTo, List.length_append]
  split <;> simp <;> omega
theorem barsOf_rng {r : RowF} (h : RngR r) : RngB (barsOf r) := by
 intro p hp
 obtain ⟨h1, h2, h3, h4⟩ := barsTo_below r 1920 p hp
 have := h p.1.toNat
 refine ⟨by omega, by omega, by omega, by rw [h3]; exact this.2⟩
end Go.Eng.S

namespace Go.Eng.S
open Go Go.Eng Go.Proofs
noncomputable section
theorem laid_ok {s : St} {a : AV} {l : List Bar} (ha : Sl barE s a l) (hr : RngB l) : CallsD P F.sketch_laid [a] s fun v s' => (Frw [] s s' ∧ ∃ b, s.h.get b = none ∧ v = (if okB (-1) l = true then .tuple [.ptr b 0, .bool true] else .tuple [.nilptr, .bool false]) ∧ (okB (-1) l = true → Own s' b (rowC (fillR zeroR l)))) ∧ Fr s' := by
 refine CallsD.of fun hfr => vc.sketch_laid_ok ?_
 intro m1 s2 hN
 refine ha.slen ?_
 have hz : zcells D T.sketch_row = rowC zeroR := (by kernel_rfl : zcells D T.sketch_row = List.replicate 1920 (AV.int .u64 0)).trans rowC_zero
 have hg1 : s.h.get m1 = none := hN.gone
 refine ⟨fun n6 n7 s8 m9 => ∃ k : Nat, n7 = k ∧ k ≤ l.length ∧ m9 = l.length - k ∧ okB (-1) l = okB n6 (l.drop k) ∧ ((k : Int) ≤ n6 + 1 ∧ n6 < 1920) ∧ ∃ r, fillR zeroR l = fillR r (l.drop k) ∧ Own s8 m1 (rowC r) ∧ Frw [] s s8 ∧ Fr s8, ⟨_, 0, rfl, by omega, rfl, rfl, by omega, zeroR, rfl, hN.own.val hz, hN.fwd, hN.fr⟩, ?_⟩
 rintro n6 n7 s8 m9 ⟨k, rfl, hk, rfl, hok, hn6, r, hf, hown, hfw, hfr8⟩
 refine bsel_of (fun hb => ?_) fun hb => ?_
 ·have hb : k < l.length := by simpa using hb
  refine (ha.fwd hfw).ixs rfl rfl hb fun b o hR => ?_
  have hrp : RngP l[k] := hr _ (List.getElem_mem hb)
  rw [drop_at hb] at hok hf
  generalize l[k] = p at hR hok hf hrp
  obtain ⟨p1, p2⟩ := p
  refine ⟨p1, p2, hR.all rfl, ?_⟩
  intro m14 s15 hN2
  obtain ⟨s16, w1, w2, w3, w4, w5, w6⟩ := hN2.own.wrAll [.int .i64 p1, .int .u64 p2] rfl rfl
  have hne : m1 ≠ m14 := hN2.ne hown.there
  have hfw16 : Frw [] s8 s16 := hN2.fwd.step w3 (by simpa using hN2.gone)
  have hfr16 : Fr s16 := hN2.fr.wr hN2.own.there w4 w6
  refine ⟨s16, w1, p1, w2.ld1 0 rfl, ?_⟩
  have hg : s16.h.get m1 ≠ none := (hown.fwd hfw16 (by simp)).there
  simp only [okB] at hok
  refine bsel_of (fun c1 => ⟨hfw.trans hfw16, m1, hg1, ?_⟩) fun c1 => ⟨p1, w2.ld1 0 rfl, bsel_of (fun c2 => ⟨hfw.trans hfw16, m1, hg1, ?_⟩) fun c2 => ⟨p2, w2.ld1 1 rfl, bsel_of (fun c3 => ⟨hfw.trans hfw16, m1, hg1, ?_⟩) fun c3 => ?_⟩⟩
  ·have e : okB (-1) l = false := by rw [hok]; simp at c1 ⊢; omega
   simp [e]
  ·have e : okB (-1) l = false := by rw [hok]; simp at c1 c2 ⊢; omega
   simp [e]
  ·have e : okB (-1) l = false := by rw [hok]; simp at c1 c2 c3 ⊢; omega
   simp [e]
  ·simp at c1 c2 c3
   intro s20 hB
   have o14 := w2.fwd hB.fwd (by simp)
   have o1 : Own s20 m1 (rowC r) := (hown.fwd hfw16 (by simp)).fwd hB.fwd (by simp)
   obtain ⟨s24, x1, x2, x3, x4, x5, x6⟩ := o1.wrN p1.toNat [.int .u64 p2] rfl (by rw [rowC_len]; simp; omega)
   rw [rowC_splice _ (by omega)] at x2
   refine ⟨p1, o14.ld1 0 rfl, p2, o14.ld1 1 rfl, p1, o14.ld1 0 rfl, by omega, c2, s24, by rw [Nat.zero_add]; exact x1, (o14.fwd x3 (by simp; omega)).ld1 0 rfl, l.length - (k + 1), by omega, k + 1, ?_, by omega, rfl, ?_, by omega, _, hf, x2, ?_, ?_⟩
   ·rw [wrap_i64 (by omega) (by omega)]; rfl
   ·rw [hok]; simp [c1, c2, c3]
   ·exact (hfw.trans (hfw16.trans hB.fwd)).step x3 (by simpa using hg1)
   ·exact hB.fr.wr o1.there x4 x6
 ·have hb : k = l.length := by simp at hb; omega
  subst hb
  simp [okB] at hok
  refine ⟨hfw, m1, hg1, ?_⟩
  simp [hok, fillR] at hf ⊢
  rw [hf]; exact hown
theorem put_ok {s : St} {b : Nat} {r : RowF} (ho : Own s b (rowC r)) (hr : RngR r) {i v : Int} (h0 : 0 ≤ i) (h1 : i < 1920) (hv : 0 ≤ v ∧ v ≤ M64) :
  CallsD P F.p_sketch_row_put [.ptr b 0, .int .i64 i, .int .u64 v] s fun x s' => (x = .tuple [] ∧ Own s' b (rowC (upd r i.toNat (sat (r i.toNat) v))) ∧ Frw [b] s s') ∧ Fr s' := by
 refine CallsD.of fun hfr => vc.p_sketch_row_put_ok ?_
 have hri := hr i.toNat
 refine ⟨h0, h1, r i.toNat, by rw [Nat.zero_add]; exact ho.ld1 _ (rowC_get _ (by omega)), _, _, add64_of hri.1 hv.1 (.inl rfl), ?_⟩
 unfold M64 at hri hv
 refine bsel_of (fun c => ?_) fun c => ?_
 ·simp at c
  obtain ⟨s8, x1, x2, x3, x4, x5, x6⟩ := ho.wrN i.toNat [.int .u64 18446744073709551615] rfl (by rw [rowC_len]; simp; omega)
  rw [rowC_splice _ (by omega)] at x2
  refine ⟨h0, h1, s8, by rw [Nat.zero_add]; exact x1, rfl, ?_, x3⟩
  rw [show sat (r i.toNat) v = 18446744073709551615 by unfold sat M64; split <;> omega]; exact x2
 ·simp at c
  obtain ⟨s8, x1, x2, x3, x4, x5, x6⟩ := ho.wrN i.toNat [.int .u64 ((r i.toNat + v + 0) % 18446744073709551616)] rfl (by rw [rowC_len]; simp; omega)
  rw [rowC_splice _ (by omega)] at x2
  refine ⟨h0, h1, s8, by rw [Nat.zero_add]; exact x1, rfl, ?_, x3⟩
  rw [show sat (r i.toNat) v = (r i.toNat + v + 0) % 18446744073709551616 by unfold sat M64; split <;> omega]; exact x2
set_option maxRecDepth 20000 in
theorem bars_okS {s : St} {b : Nat} {r : RowF} (ho : Own s b (rowC r)) (hr : RngR r) :
  CallsD P F.p_sketch_row_bars [.ptr b 0] s fun x s' => ((SoN barE s' x (barsOf r) ∧ Gone s x) ∧ Frw [] s s') ∧ Fr s' := by
 refine CallsD.of fun hfr => vc.p_sketch_row_bars_ok ?_
 refine ⟨fun x n s5 m => ∃ k : Nat, n = k ∧ k ≤ 1920 ∧ m = 1920 - k ∧ (So barE s5 x (barsTo r k) ∧ (barsTo r k = [] → x = .nilslice)) ∧ (∀ c, c ∈ blkOf x → s.h.get c = none) ∧ Frw [] s s5 ∧ Fr s5, ⟨1920, 0, rfl, by omega, rfl, ⟨.nil _ _, fun _ => rfl⟩, by simp [blkOf], .refl _ _, hfr⟩, ?_⟩
 intro x n s5 m hI
 obtain ⟨k, hn, hk, hm, ⟨hso, hnil⟩, hbl, hfw, hfr5⟩ := hI
 subst hn
 refine bsel_of (fun c => ?_) fun c => ?_
 ·simp at c
  intro s7 hB
  have ho7 := (ho.ext hfw).ext hB.fwd
  have hso7 : So barE s7 x (barsTo r k) := by
   rcases hso with h | ⟨b1, k1, n1, c1, e1, e2, e3, e4⟩
   ·exact .inl h
   ·exact .inr ⟨b1, k1, n1, c1, e1, e2, by rw [hB.get]; exact e3, e4⟩
  have hrk := hr k
  unfold M64 at hrk
  refine ⟨by omega, c, r k, by simp only [Nat.zero_add, Int.toNat_natCast]; exact ho7.ld1 _ (rowC_get _ (by omega)), bsel_of (fun c2 => ?_) fun c2 => ?_⟩
  ·simp at c2
   intro m11 s12 hN
   have hfw12 : Frw [] s s12 := (hfw.trans hB.fwd).trans hN.fwd
   have hso12 : So barE s12 x (barsTo r k) := by
    rcases hso7 with h | ⟨b1, k1, n1, c1, e1, e2, e3, e4⟩
    ·exact .inl h
    ·exact .inr ⟨b1, k1, n1, c1, e1, e2, hN.fwd.1 _ _ (by simp) e3, e4⟩
   have hlen := barsTo_len r k
   obtain ⟨v, s14, q1, q2, q3, q4, q5, q6⟩ := So.append (a := ((k : Int), r k)) hso12 ty.sl_api_Bar rfl ty.api_Bar rfl rfl rfl rfl hN.own.rd rfl (by simp [barE]; omega) (by simp [barE]; omega) hN.fr
   refine ⟨v, s14, q1, 1920 - (k + 1), by omega, k + 1, ?_, by omega, rfl, ?_, ?_, hfw12.step q3 hbl, q5⟩
   ·rw [wrap_i64 (by omega) (by omega)]; rfl
   ·rw [barsTo, if_pos c2]; exact ⟨q2, fun h => by simp at h⟩
   ·rw [q4]; simp; exact hfr _ hfw12.2.1
  ·simp at c2
   refine ⟨1920 - (k + 1), by omega, k + 1, ?_, by omega, rfl, ?_, hbl, hfw.trans hB.fwd, hB.fr⟩
   ·rw [wrap_i64 (by omega) (by omega)]; rfl
   ·rw [barsTo, if_neg (by omega), List.append_nil]; exact ⟨hso7, hnil⟩
 ·simp at c
  have : k = 1920 := by omega
  subst this
  exact ⟨⟨⟨hso, hnil⟩, hbl⟩, hfw⟩
theorem okB_len : ∀ {l : List Bar} {last : Int}, last < 1920 → okB last l = true → (l.length : Int) ≤ 1919 - last
 | [], _, h, _ => by simp; omega
 | p :: q, last, _, h => by
  simp only [okB, Bool.and_eq_true, decide_eq_true_eq] at h
  have := okB_len (l := q) (last := p.1) h.1.1.2 h.2
  simp; omega
theorem okB_mem : ∀ {l : List Bar} {last : Int}, okB last l = true → ∀ p, p ∈ l → last < p.1 ∧ p.1 < 1920 ∧ p.2 ≠ 0
 | [], _, _, p, hp => by simp at hp
 | x :: q, last, h, p, hp => by
  simp only [okB, Bool.and_eq_true, decide_eq_true_eq, Bool.not_eq_true', beq_eq_false_iff_ne] at h
  rcases List.mem_cons.1 hp with rfl | hp
  ·exact ⟨h.1.1.1, h.1.1.2, h.1.2⟩
  ·have := okB_mem h.2 p hp
   exact ⟨by omega, this.2⟩
theorem Merge_okS {s : St} {a1 a2 : AV} {l1 l2 : List Bar} (h1 : Sl barE s a1 l1) (h2 : Sl barE s a2 l2) (r1 : RngB l1) (r2 : RngB l2) :
  CallsD P F.sketch_Merge [a1, a2] s fun v s' => ((if okB (-1) l1 = true ∧ okB (-1) l2 = true then ∃ x, v = .tuple [x, .int .i64 0] ∧ SoN barE s' x (mergeB l1 l2) ∧ Gone s x else v = .tuple [.nilslice, .int .i64 131]) ∧ Frw [] s s') ∧ Fr s' := by
 refine CallsD.of fun hfr => vc.sketch_Merge_ok ((laid_ok h1 r1).mono ?_)
 rintro _ s2 ⟨⟨f1, b, g1, rfl, o1⟩, hfr2⟩
 refine ⟨if okB (-1) l1 = true then .ptr b 0 else .nilptr, okB (-1) l1, by cases okB (-1) l1 <;> rfl, (laid_ok (h2.ext f1) r2).mono ?_⟩
 rintro _ s6 ⟨⟨f2, b2, g2, rfl, o2⟩, hfr6⟩
 refine ⟨if okB (-1) l2 = true then .ptr b2 0 else .nilptr, okB (-1) l2, by cases okB (-1) l2 <;> rfl, ?_⟩
 have f6 := f1.trans f2
 refine bsel_of (fun c => ⟨by simp at c; simp [c], f6⟩) fun c => bsel_of (fun c' => ⟨by simp at c'; simp [c'], f6⟩) fun c' => ?_
 simp at c c'
 rw [if_pos c]
 refine h2.slen ⟨fun n s13 m => ∃ k : Nat, n = k ∧ k ≤ l2.length ∧ m = l2.length - k ∧ ∃ r, addR (fillR zeroR l1) l2 = addR r (l2.drop k) ∧ RngR r ∧ Own s13 b (rowC r) ∧ Frw [] s s13 ∧ Fr s13, ⟨_, 0, rfl, by omega, rfl, _, rfl, .fill .zero r1, (o1 c).ext f2, f6, hfr6⟩, ?_⟩
 rintro n s13 m ⟨k, rfl, hk, rfl, r, he, hrr, hown, hfw, hfr13⟩
 refine bsel_of (fun hb => ?_) fun hb => ?_
 ·have hb : k < l2.length := by simpa using hb
  refine (h2.ext hfw).ixs rfl rfl hb fun bb o hR => ?_
  have hrp : RngP l2[k] := r2 _ (List.getElem_mem hb)
  have hmem := okB_mem c' l2[k] (List.getElem_mem hb)
  have hlen := okB_len (by omega) c'
  rw [drop_at hb] at he
  generalize l2[k] = p at hR hrp hmem he
  obtain ⟨p1, p2⟩ := p
  refine ⟨p1, p2, hR.all rfl, ?_⟩
  intro m19 s20 hN
  obtain ⟨s21, w1, w2, w3, w4, w5, w6⟩ := hN.own.wrAll [.int .i64 p1, .int .u64 p2] rfl rfl
  have hfw21 : Frw [] s13 s21 := hN.fwd.step w3 (by simpa using hN.gone)
  refine ⟨s21, w1, p1, w2.ld1 0 rfl, p2, w2.ld1 1 rfl, (put_ok (hown.ext hfw21) hrr (by omega) hmem.2.1 hrp.2.2).mono ?_⟩
  rintro _ s25 ⟨⟨rfl, ho, hf⟩, hfr25⟩
  refine ⟨rfl, l2.length - (k + 1), by omega, k + 1, ?_, by omega, rfl, _, he, hrr.upd (sat_rng (hrr _) hrp.2.2), ho, (hfw.trans hfw21).step hf ?_, hfr25⟩
  ·rw [wrap_i64 (by omega) (by omega)]; rfl
  ·simpa using g1
 ·have hb : k = l2.length := by simp at hb; omega
  subst hb
  refine (bars_okS hown hrr).mono ?_
  rintro x s28 ⟨⟨⟨hs, hg⟩, hf⟩, _⟩
  refine ⟨x, rfl, ?_, hfw.trans hf⟩
  rw [if_pos ⟨c, c'⟩]
  refine ⟨x, rfl, ?_, hg.back hfw⟩
  have : mergeB l1 l2 = barsOf r := by unfold mergeB; rw [he, List.drop_length]; rfl
  rw [this]; exact hs
end
end Go.Eng.S

namespace Go.Eng.S
open Go Go.Eng Go.Proofs
noncomputable section
end
end Go.Eng.S

namespace Go.Eng.S
open Go Go.Eng Go.Proofs
noncomputable section
abbrev P2 := Int × Int
def val2 (p : P2) : Int := p.1 * 18446744073709551616 + p.2
def of2 (n : Int) : P2 := (n / 18446744073709551616, n % 18446744073709551616)
def Rng2 (p : P2) : Prop := (0 ≤ p.1 ∧ p.1 ≤ M64) ∧ 0 ≤ p.2 ∧ p.2 ≤ M64
def M128 : Int := 340282366920938463463374607431768211455
def plusP (a b : P2) : P2 := of2 (if val2 a + val2 b ≤ M128 then val2 a + val2 b else M128)
theorem Rng2.val {p : P2} (h : Rng2 p) : 0 ≤ val2 p ∧ val2 p ≤ M128 := by
 obtain ⟨⟨h1, h2⟩, h3, h4⟩ := h
 unfold M64 at *; unfold val2 M128; omega
theorem Rng2.of {n : Int} (h0 : 0 ≤ n) (h1 : n ≤ M128) : Rng2 (of2 n) := by
 unfold M128 at h1; unfold Rng2 of2 M64; simp only; omega
theorem val2_of2 (n : Int) : val2 (of2 n) = n := by unfold val2 of2; simp only; omega
theorem of2_val2 {p : P2} (h : Rng2 p) : of2 (val2 p) = p := by
 obtain ⟨⟨h1, h2⟩, h3, h4⟩ := h
 obtain ⟨a, b⟩ := p
 unfold M64 at *; unfold val2 of2; simp only at *
 congr 1 <;> omega
theorem Rng2.plus {a b : P2} (ha : Rng2 a) (hb : Rng2 b) : Rng2 (plusP a b) := by
 have h1 := ha.val
 have h2 := hb.val
 unfold plusP
 split
 ·exact .of (by omega) (by omega)
 ·exact .of (by unfold M128; omega) (Int.le_refl _)
def p2V (p : P2) : AV := .agg [.int .u64 p.1, .int .u64 p.2]
theorem plus_pure (a b : P2) (ha : Rng2 a) (hb : Rng2 b) (s : St) : CallsD P F.calls_plus [p2V a, p2V b] s fun v s' => v = p2V (plusP a b) ∧ s' = s := by
 refine CallsD.pure (fun s => (vc.calls_plus_ok ?_).a) rfl s
 obtain ⟨a1, a2⟩ := a
 obtain ⟨b1, b2⟩ := b
 obtain ⟨⟨ha1, ha2⟩, ha3, ha4⟩ := ha
 obtain ⟨⟨hb1, hb2⟩, hb3, hb4⟩ := hb
 simp only [M64] at *
 intro m1 s2 h2 m3 s4 h4 m5 s6 h6
 have o1 := (h2.own.ext h4.fwd).ext h6.fwd
 have o3 := h4.own.ext h6.fwd
 refine ⟨a2, o1.ld1 1 rfl, b2, o3.ld1 1 rfl, _, _, add64_of ha3 hb3 (.inl rfl), a1, o1.ld1 0 rfl, b1, o3.ld1 0 rfl, _, _, add64_of ha1 hb1 (by omega), bsel_of (fun c => ?_) fun c => ?_⟩
 ·simp at c
  obtain ⟨s15, w1, w2, _⟩ := h6.own.wrAll [.int .u64 18446744073709551615, .int .u64 18446744073709551615] rfl rfl
  refine ⟨s15, w1, _, _, w2.all rfl, ?_⟩
  unfold p2V plusP val2 M128
  rw [if_neg (by simp only; omega)]
  rfl
 ·simp at c
  obtain ⟨s15, w1, w2, _⟩ := h6.own.wrAll [.int .u64 ((a1 + b1 + (a2 + b2 + 0) / 18446744073709551616) % 18446744073709551616), .int .u64 ((a2 + b2 + 0) % 18446744073709551616)] rfl rfl
  refine ⟨s15, w1, _, _, w2.all rfl, ?_⟩
  unfold p2V plusP val2 M128
  rw [if_pos (by simp only; omega)]
  unfold of2
  simp only
  rw [show (a1 + b1 + (a2 + b2 + 0) / 18446744073709551616) % 18446744073709551616 = (a1 * 18446744073709551616 + a2 + (b1 * 18446744073709551616 + b2)) / 18446744073709551616 by omega, show (a2 + b2 + 0) % 18446744073709551616 = (a1 * 18446744073709551616 + a2 + (b1 * 18446744073709551616 + b2)) % 18446744073709551616 by omega]
structure Tal where
 a : P2
 b : P2
 c : P2
 l : List Bar
def Tal.V (t : Tal) (x : AV) : AV := .agg [.int .u64 t.a.1, .int .u64 t.a.2, .int .u64 t.b.1, .int .u64 t.b.2, .int .u64 t.c.1, .int .u64 t.c.2, x]
def Tal.C (t : Tal) (x : AV) : List AV := [.int .u64 t.a.1, .int .u64 t.a.2, .int .u64 t.b.1, .int .u64 t.b.2, .int .u64 t.c.1, .int .u64 t.c.2, x]
structure Tal.Rng (t : Tal) : Prop where
 a : Rng2 t.a
 b : Rng2 t.b
 c : Rng2 t.c
 l : RngB t.l
def Tal.zero : Tal := ⟨(0, 0), (0, 0), (0, 0), []⟩
abbrev Tal.ok (t : Tal) : Bool := okB (-1) t.l
def Tal.plus (t u : Tal) : Tal := ⟨plusP t.a u.a, plusP t.b u.b, plusP t.c u.c, mergeB t.l u.l⟩
theorem Plus_okS {s : St} {t u : Tal} {x y : AV} (hx : Sl barE s x t.l) (hy : Sl barE s y u.l) (ht : t.Rng) (hu : u.Rng) :
  CallsD P F.calls_Plus [t.V x, u.V y] s fun v s' => ((if t.ok = true ∧ u.ok = true then ∃ z, v = .tuple [(t.plus u).V z, .int .i64 0] ∧ SoN barE s' z (t.plus u).l ∧ Gone s z else v = .tuple [Tal.zero.V .nilslice, .int .i64 131]) ∧ Frw [] s s') ∧ Fr s' := by
 refine CallsD.of fun hfr => vc.calls_Plus_ok ?_
 intro m1 s2 h2 m3 s4 h4 m5 s6 h6
 have f6 : Frw [] s s6 := (h2.fwd.trans h4.fwd).trans h6.fwd
 have o1 := (h2.own.ext h4.fwd).ext h6.fwd
 have o3 := h4.own.ext h6.fwd
 have o5 := h6.own
 have f5 : s.h.get m5 = none := (h2.fwd.trans h4.fwd).none h6.gone (by simp)
 refine ⟨x, o1.ld1 6 rfl, y, o3.ld1 6 rfl, (Merge_okS (hx.ext f6) (hy.ext f6) ht.l hu.l).mono ?_⟩
 rintro v s10 ⟨⟨hv, f10⟩, hfr10⟩
 by_cases c : t.ok = true ∧ u.ok = true
 ·rw [if_pos c] at hv
  obtain ⟨z, rfl, ⟨hz, hzn⟩, hg⟩ := hv
  refine ⟨z, 0, rfl, bsel_of (fun c => by simp at c) fun _ => ?_⟩
  intro s21 hB
  have o1 := (o1.ext f10).ext hB.fwd
  have o3 := (o3.ext f10).ext hB.fwd
  have o5 := (o5.ext f10).ext hB.fwd
  have hz := hz.ext hB.fwd
  refine ⟨_, _, o1.ldN 0 2 (by simp), _, _, o3.ldN 0 2 (by simp), (plus_pure _ _ ht.a hu.a s21).mono ?_⟩
  rintro _ _ ⟨rfl, rfl⟩
  refine ⟨_, _, rfl, _, _, o1.ldN 2 2 (by simp), o1.ldN 2 2 (by simp), _, _, o3.ldN 2 2 (by simp), o3.ldN 2 2 (by simp), (plus_pure _ _ ht.b hu.b _).mono ?_⟩
  rintro _ _ ⟨rfl, rfl⟩
  refine ⟨_, _, rfl, _, _, o1.ldN 4 2 (by simp), o1.ldN 4 2 (by simp), o1.ldN 4 2 (by simp), _, _, o3.ldN 4 2 (by simp), o3.ldN 4 2 (by simp), o3.ldN 4 2 (by simp), (plus_pure _ _ ht.c hu.c _).mono ?_⟩
  rintro _ _ ⟨rfl, rfl⟩
  refine ⟨_, _, rfl, hz.sl.one ?_⟩
  obtain ⟨s49, w1, w2, w3, w4⟩ := o5.wrAll ((t.plus u).C z) (hz.sl.onesx []) rfl
  refine ⟨s49, w1, _, _, _, _, _, _, _, w2.all rfl, ?_, ((f6.trans f10).trans hB.fwd).step w3 (by simpa using f5)⟩
  rw [if_pos c]
  exact ⟨z, rfl, ⟨hz.wrG w3 hg h6.own.there, hzn⟩, hg.back f6⟩
 ·rw [if_neg c] at hv
  subst hv
  refine ⟨.nilslice, 131, rfl, bsel_of (fun _ => ?_) fun c => by simp at c⟩
  obtain ⟨s49, w1, w2, w3, w4⟩ := (o5.ext f10).wrAll (Tal.zero.C .nilslice) rfl rfl
  refine ⟨s49, w1, _, _, _, _, _, _, _, w2.all rfl, ?_, (f6.trans f10).step w3 (by simpa using f5)⟩
  rw [if_neg c]; rfl
end
end Go.Eng.S

namespace Go.Eng.S
open Go Go.Eng Go.Proofs
noncomputable section
end
end Go.Eng.S

namespace Go.Eng.S
open Go Go.Eng Go.Proofs
noncomputable section
end
end Go.Eng.S

namespace Go.Eng.S
open Go Go.Eng Go.Proofs
noncomputable section
theorem cnt_append : ∀ (l m : List Bar) (i : Nat), cnt (l ++ m) i = if has l i = true then cnt l i else cnt m i
 | [], _, _ => by simp [has]
 | p :: q, m, i => by
  simp only [List.cons_append, cnt, has, Bool.or_eq_true, beq_iff_eq]
  by_cases e : p.1.toNat = i
  ·simp [e]
  ·simp only [e, if_false, false_or]; exact cnt_append q m i
theorem has_append : ∀ (l m : List Bar) (i : Nat), has (l ++ m) i = (has l i || has m i)
 | [], _, _ => by simp [has]
 | p :: q, m, i => by simp only [List.cons_append, has, has_append q m i, Bool.or_assoc]
theorem has_barsTo (r : RowF) : ∀ (n i : Nat), has (barsTo r n) i = (decide (i < n) && decide (r i > 0))
 | 0, i => by simp [barsTo, has]
 | n + 1, i => by
  simp only [barsTo, has_append, has_barsTo r n i]
  by_cases h : r n > 0
  ·rw [if_pos h]
   simp only [has, Int.toNat_natCast, Bool.or_false]
   by_cases e : n = i
   ·subst e; simp [h]
   ·rw [Bool.eq_iff_iff]; simp [e]; omega
  ·rw [if_neg h]
   simp only [has, Bool.or_false]
   by_cases e : n = i
   ·subst e; simp [h]
   ·rw [Bool.eq_iff_iff]; simp; omega
theorem cnt_barsTo (r : RowF) : ∀ (n i : Nat), cnt (barsTo r n) i = if i < n ∧ r i > 0 then r i else 0
 | 0, i => by simp [barsTo, cnt]
 | n + 1, i => by
  simp only [barsTo, cnt_append, has_barsTo, cnt_barsTo r n i]
  have tail : n ≠ i → cnt (if r n > 0 then [((n : Int), r n)] else []) i = 0 := by
   intro e
   by_cases h : r n > 0
   ·rw [if_pos h]; simp only [cnt, Int.toNat_natCast]; rw [if_neg e]
   ·rw [if_neg h]; rfl
  by_cases h1 : i < n
  ·rw [tail (by omega)]
   by_cases h2 : r i > 0
   ·simp [h1, h2]; omega
   ·simp [h1, h2]
  ·simp only [h1, decide_false, Bool.false_and, Bool.false_eq_true, if_false]
   by_cases e : n = i
   ·subst e
    by_cases h2 : r n > 0
    ·simp [h2, cnt]
    ·simp [h2, cnt]
   ·rw [tail e, if_neg (by omega)]
theorem cnt_barsOf {r : RowF} (hr : RngR r) {i : Nat} (h : i < 1920) : cnt (barsOf r) i = r i := by
 unfold barsOf
 rw [cnt_barsTo]
 have := hr i
 split
 ·rfl
 ·omega
theorem cnt_high {l : List Bar} (h : okB (-1) l = true) {i : Nat} (hi : 1920 ≤ i) : cnt l i = 0 := by
 refine cnt_none ?_
 have : ∀ (l : List Bar), (∀ p, p ∈ l → p.1 < 1920) → has l i = false := by
  intro l
  induction l with
  | nil => intro _; rfl
  | cons p q ih =>
   intro h
   have h1 := h p (List.mem_cons_self ..)
   simp only [has, Bool.or_eq_false_iff, beq_eq_false_iff_ne]
   exact ⟨by omega, ih fun x hx => h x (List.mem_cons_of_mem _ hx)⟩
 exact this l fun p hp => (okB_mem h p hp).2.1
theorem RngR.sat2 {a b : RowF} (ha : RngR a) (hb : RngR b) : RngR fun i => sat (a i) (b i) := fun i => sat_rng (ha i) (hb i)
theorem mergeB_ok {a b : List Bar} : okB (-1) (mergeB a b) = true := barsOf_ok _
theorem mergeB_rng {a b : List Bar} (ra : RngB a) (rb : RngB b) : RngB (mergeB a b) := barsOf_rng (.add (.fill .zero ra) rb)
theorem cnt_merge {a b : List Bar} (ha : okB (-1) a = true) (hb : okB (-1) b = true) (ra : RngB a) (rb : RngB b) (i : Nat) : cnt (mergeB a b) i = sat (cnt a i) (cnt b i) := by
 by_cases h : i < 1920
 ·rw [mergeB_eq ha hb ra rb, cnt_barsOf (.sat2 (cnt_rng ra) (cnt_rng rb)) h]
 ·rw [cnt_high mergeB_ok (by omega), cnt_high ha (by omega), cnt_high hb (by omega)]; rfl
theorem Tal.Rng.plus {t u : Tal} (ht : t.Rng) (hu : u.Rng) : (t.plus u).Rng := ⟨ht.a.plus hu.a, ht.b.plus hu.b, ht.c.plus hu.c, mergeB_rng ht.l hu.l⟩
end
end Go.Eng.S

namespace Go.Eng.S
open Go Go.Eng Go.Proofs
set_option linter.constructorNameAsVariable false
noncomputable section
attribute [local irreducible] bsel barsOf mergeB
theorem plusP_comm (a b : P2) : plusP a b = plusP b a := by unfold plusP; rw [Int.add_comm]
theorem val2_plusP {a b : P2} : val2 (plusP a b) = if val2 a + val2 b ≤ M128 then val2 a + val2 b else M128 := by unfold plusP; rw [val2_of2]
theorem plusP_assoc {a b c : P2} (ha : Rng2 a) (hb : Rng2 b) (hc : Rng2 c) : plusP (plusP a b) c = plusP a (plusP b c) := by
 have h1 := ha.val
 have h2 := hb.val
 have h3 := hc.val
 have e : ∀ x y : P2, plusP x y = of2 (if val2 x + val2 y ≤ M128 then val2 x + val2 y else M128) := fun _ _ => rfl
 rw [e (plusP a b) c, e a (plusP b c), val2_plusP, val2_plusP]
 congr 1
 split <;> split <;> (try split) <;> omega
theorem plusP_zero {a : P2} (ha : Rng2 a) : plusP a (0, 0) = a := by
 have h := ha.val
 unfold plusP
 have : val2 (0, 0) = 0 := rfl
 rw [this, if_pos (by omega), Int.add_zero, of2_val2 ha]
theorem mergeB_comm {a b : List Bar} (ha : okB (-1) a = true) (hb : okB (-1) b = true) (ra : RngB a) (rb : RngB b) : mergeB a b = mergeB b a := by
 rw [mergeB_eq ha hb ra rb, mergeB_eq hb ha rb ra]
 exact congrArg barsOf (funext fun i => sat_comm _ _)
theorem mergeB_assoc {a b c : List Bar} (ha : okB (-1) a = true) (hb : okB (-1) b = true) (hc : okB (-1) c = true) (ra : RngB a) (rb : RngB b) (rc : RngB c) : mergeB (mergeB a b) c = mergeB a (mergeB b c) := by
 rw [mergeB_eq mergeB_ok hc (mergeB_rng ra rb) rc, mergeB_eq ha mergeB_ok ra (mergeB_rng rb rc)]
 exact congrArg barsOf (funext fun i => by rw [cnt_merge ha hb ra rb, cnt_merge hb hc rb rc, sat_assoc (cnt_rng ra i).1 (cnt_rng rb i).1 (cnt_rng rc i).1])
theorem RngB.none : RngB [] := fun p hp => by simp at hp
theorem mergeB_zero {a : List Bar} (ha : okB (-1) a = true) (ra : RngB a) : mergeB a [] = a := by
 rw [mergeB_eq ha rfl ra .none]
 have : (fun i => sat (cnt a i) (cnt [] i)) = cnt a := funext fun i => sat_zero (cnt_rng ra i)
 rw [this, barsOf_cnt ha ra]
theorem Tal.zero_rng : Tal.zero.Rng := by
 have : Rng2 (0, 0) := by unfold Rng2 M64; simp
 exact ⟨this, this, this, .none⟩
theorem Tal.plus_ok {t u : Tal} : (t.plus u).ok = true := mergeB_ok
theorem Tal.plus_comm {t u : Tal} (ht : t.Rng) (hu : u.Rng) (ot : t.ok = true) (ou : u.ok = true) : t.plus u = u.plus t := by
 unfold Tal.plus
 rw [plusP_comm t.a, plusP_comm t.b, plusP_comm t.c, mergeB_comm ot ou ht.l hu.l]
theorem Tal.plus_assoc {t u v : Tal} (ht : t.Rng) (hu : u.Rng) (hv : v.Rng) (ot : t.ok = true) (ou : u.ok = true) (ov : v.ok = true) : (t.plus u).plus v = t.plus (u.plus v) := by
 unfold Tal.plus
 rw [plusP_assoc ht.a hu.a hv.a, plusP_assoc ht.b hu.b hv.b, plusP_assoc ht.c hu.c hv.c, mergeB_assoc ot ou ov ht.l hu.l hv.l]
theorem Tal.plus_zero {t : Tal} (ht : t.Rng) (ot : t.ok = true) : t.plus .zero = t := by
 unfold Tal.plus Tal.zero
 rw [plusP_zero ht.a, plusP_zero ht.b, plusP_zero ht.c, mergeB_zero ot ht.l]
theorem Tal.zero_plus {t : Tal} (ht : t.Rng) (ot : t.ok = true) : Tal.zero.plus t = t := by rw [plus_comm zero_rng ht rfl ot, plus_zero ht ot]
end
end Go.Eng.S

namespace Go.Eng.S
open Go Go.Eng Go.Proofs
set_option linter.constructorNameAsVariable false
noncomputable section
abbrev Edge := SS
def edgeF (e : Edge) : AV := .agg [.str e.1, .str e.2]
def eq2 (p q : Bool) : Option Bool :=
 match (some p : Option Bool) with
 | some true => (match (some q : Option Bool) with | some true => some true | o => o)
 | o => o
theorem edge_eq (h : PT AObj) (a b c d : ByteArray) : aeq D h depth T.api_Edge (.agg [.str a, .str b]) (.agg [.str c, .str d]) = eq2 (bytesEq a.data.toList c.data.toList) (bytesEq b.data.toList d.data.toList) := by kernel_rfl
theorem edge_ok (a b : ByteArray) : keyOk D T.api_Edge (.agg [.str a, .str b]) = true := by kernel_rfl
def KE : KeyE D T.api_Edge Edge where
 f := edgeF
 ok := fun a => edge_ok a.1 a.2
 eq := fun h a b => by
  obtain ⟨a1, a2⟩ := a
  obtain ⟨b1, b2⟩ := b
  refine (edge_eq h a1 a2 b1 b2).trans ?_
  rw [sEq_eq, sEq_eq]
  by_cases e1 : a1 = b1 <;> by_cases e2 : a2 = b2 <;> simp [eq2, e1, e2]
 same := fun a => by
  obtain ⟨a1, a2⟩ := a
  simp [edgeF, geq, geqs, geq1, sEq_eq]
def hourF (h : Int) : AV := .int .i64 h
theorem hour_eq (h : PT AObj) (a b : Int) : aeq D h depth T.int64 (.int .i64 a) (.int .i64 b) = some (a == b) := by kernel_rfl
theorem hour_ok (a : Int) : keyOk D T.int64 (.int .i64 a) = true := by kernel_rfl
def KH : KeyE D T.int64 Int where
 f := hourF
 ok := hour_ok
 eq := fun h a b => by
  refine (hour_eq h a b).trans ?_
  by_cases e : a = b <;> simp [e]
 same := fun a => by simp [hourF, geq, geq1]
abbrev RollF := Int → Edge → Tal
structure RollG (F : RollF) : Prop where
 ok : ∀ h e, (F h e).ok = true
 rng : ∀ h e, (F h e).Rng
 hour : ∀ h e, F h e ≠ .zero → 0 ≤ h ∧ h < 2097152
structure InnerS (s : St) (b : Nat) (N : List (Edge × AV)) (G : Edge → Tal) (fp : List Nat) : Prop where
 map : MapS edgeF s b N
 ne : N ≠ []
 some : ∀ e v, mget N e = Option.some v → ∃ z, v = (G e).V z ∧ So barE s z (G e).l ∧ G e ≠ .zero ∧ ∀ c, c ∈ blkOf z → c ∈ fp
 none : ∀ e, mget N e = Option.none → G e = .zero
structure RollS (s : St) (r : Nat) (fan : Int) (F : RollF) (fp : List Nat) (m : Nat) (M : List (Int × AV)) : Prop where
 own : Own s r [.int .i64 fan, .map m]
 map : MapS hourF s m M
 good : RollG F
 rf : r ∈ fp
 mf : m ∈ fp
 inner : ∀ h x, mget M h = some x → ∃ b N, x = .map b ∧ InnerS s b N (F h) fp ∧ b ∈ fp ∧ b ≠ m
 none : ∀ h, mget M h = none → ∀ e, F h e = .zero
 inj : ∀ h h' b, mget M h = some (.map b) → mget M h' = some (.map b) → h = h'
def Roll (s : St) (r : Nat) (fan : Int) (F : RollF) (fp : List Nat) : Prop := ∃ m M, RollS s r fan F fp m M
theorem InnerS.fwd {s s' : St} {b : Nat} {N : List (Edge × AV)} {G : Edge → Tal} {fp fp' : List Nat} {X : List Nat} (h : InnerS s b N G fp) (hf : Frw X s s') (hb : b ∉ X) (hX : ∀ c, c ∈ X → NoCells s c ∨ c ∉ fp) (hfp : ∀ c, c ∈ fp → c ∈ fp') : InnerS s' b N G fp' where
 map := h.map.fwd hf hb
 ne := h.ne
 some := fun e v hv => by
  obtain ⟨z, h1, h2, h3, h4⟩ := h.some e v hv
  exact ⟨z, h1, h2.besideN hf fun c hc => (hX c hc).imp id fun h hz => h (h4 c hz), h3, fun c hc => hfp c (h4 c hc)⟩
 none := h.none
theorem RollS.fwd {s s' : St} {r m : Nat} {fan : Int} {F : RollF} {fp : List Nat} {M : List (Int × AV)} {X : List Nat} (h : RollS s r fan F fp m M) (hf : Frw X s s') (hX : ∀ c, c ∈ X → c ∉ fp) : RollS s' r fan F fp m M where
 own := h.own.fwd hf fun hc => hX _ hc h.rf
 map := h.map.fwd hf fun hc => hX _ hc h.mf
 good := h.good
 rf := h.rf
 mf := h.mf
 inner := fun hh x hx => by
  obtain ⟨b, N, h1, h2, h3, h4⟩ := h.inner hh x hx
  exact ⟨b, N, h1, h2.fwd hf (fun hc => hX _ hc h3) (fun c hc => .inr (hX c hc)) (fun c hc => hc), h3, h4⟩
 none := h.none
 inj := h.inj
theorem Roll.fwd {s s' : St} {r : Nat} {fan : Int} {F : RollF} {fp : List Nat} {X : List Nat} (h : Roll s r fan F fp) (hf : Frw X s s') (hX : ∀ c, c ∈ X → c ∉ fp) : Roll s' r fan F fp :=
 let ⟨m, M, h⟩ := h; ⟨m, M, h.fwd hf hX⟩
theorem Roll.ext {s s' : St} {r : Nat} {fan : Int} {F : RollF} {fp : List Nat} (h : Roll s r fan F fp) (hf : Frw [] s s') : Roll s' r fan F fp := h.fwd hf (by simp)
theorem Roll.good {s : St} {r : Nat} {fan : Int} {F : RollF} {fp : List Nat} (h : Roll s r fan F fp) : RollG F := let ⟨_, _, h⟩ := h; h.good
def setF (F : RollF) (h : Int) (e : Edge) (t : Tal) : RollF := fun h' e' => if h' = h ∧ e' = e then t else F h' e'
def zeroF : RollF := fun _ _ => .zero
theorem RollG.zero : RollG zeroF := ⟨fun _ _ => rfl, fun _ _ => by
  have : Rng2 (0, 0) := by unfold Rng2 M64; simp
  exact ⟨this, this, this, fun p hp => by simp [zeroF, Tal.zero] at hp⟩, fun _ _ h => absurd rfl h⟩
theorem RollG.set {F : RollF} (hF : RollG F) {h : Int} {e : Edge} {t : Tal} (ho : t.ok = true) (hr : t.Rng) (hh : 0 ≤ h ∧ h < 2097152) : RollG (setF F h e t) where
 ok := fun h' e' => by
  unfold setF
  split
  ·exact ho
  ·exact hF.ok _ _
 rng := fun h' e' => by
  unfold setF
  split
  ·exact hr
  ·exact hF.rng _ _
 hour := fun h' e' hne => by
  unfold setF at hne
  split at hne
  ·rename_i hx; rw [hx.1]; exact hh
  ·exact hF.hour _ _ hne
theorem setF_row {F : RollF} {h : Int} {e : Edge} {t : Tal} {h' : Int} (hne : h' ≠ h) : setF F h e t h' = F h' := by
 funext e'; simp [setF, hne]
end
end Go.Eng.S

namespace Go.Eng.S
open Go Go.Eng Go.Proofs
set_option linter.constructorNameAsVariable false
noncomputable section
attribute [local irreducible] bsel
theorem New_ok {s : St} {fan : Int} : CallsD P F.rollup_New [.int .i64 fan] s fun v s' => ((if 2 ≤ fan ∧ fan ≤ 16 then ∃ r fp, v = .tuple [.ptr r 0, .int .i64 0] ∧ Roll s' r fan zeroF fp ∧ ∀ c, c ∈ fp → s.h.get c = none else v = .tuple [.nilptr, .int .i64 1]) ∧ Frw [] s s') ∧ Fr s' := by
 refine CallsD.of fun hfr => vc.rollup_New_ok ?_
 refine bsel_of (fun c => ?_) fun c => bsel_of (fun c' => ?_) fun c' => ?_
 ·simp at c
  exact ⟨by rw [if_neg (by omega)], .refl _ _⟩
 ·simp at c'
  exact ⟨by rw [if_neg (by omega)], .refl _ _⟩
 ·simp at c c'
  intro m1 s2 h2 m3 s4 h4
  refine ⟨?_, h2.fwd.trans h4.fwd⟩
  rw [if_pos (by omega)]
  refine ⟨m3, [m3, m1], rfl, ⟨m1, [], h4.own, (MapS.new h2).ext h4.fwd, RollG.zero, by simp, by simp, fun h x hx => by simp [mget] at hx, fun _ _ _ => rfl, fun _ _ _ hx => by simp [mget] at hx⟩, fun c hc => ?_⟩
  rcases List.mem_cons.1 hc with rfl | hc
  ·exact h2.fwd.none h4.gone (by simp)
  ·have : c = m1 := by simpa using hc
   subst this; exact h2.gone
theorem Tal.eq_zero (t : Tal) : t = .zero ↔ t.a = (0, 0) ∧ t.b = (0, 0) ∧ t.c = (0, 0) ∧ t.l = [] := by
 obtain ⟨a, b, c, l⟩ := t
 simp [Tal.zero]
theorem nothing_ok {s : St} {t : Tal} {x : AV} (hx : Sl barE s x t.l) : CallsD P F.rollup_nothing [t.V x] s fun v s' => ((∃ c, v = .bool c ∧ (c = true ↔ t = .zero)) ∧ Frw [] s s') ∧ Fr s' := by
 refine CallsD.of fun hfr => vc.rollup_nothing_ok ?_
 intro m1 s2 h2
 have o := h2.own
 have f2 := h2.fwd
 rw [Tal.eq_zero]
 refine ⟨_, _, o.ldN 0 2 (by simp), bsel_of (fun c1 => ⟨_, _, o.ldN 2 2 (by simp), bsel_of (fun c2 => ⟨_, _, o.ldN 4 2 (by simp), bsel_of (fun c3 => ⟨x, o.ld1 6 rfl, (hx.ext f2).slen ⟨⟨_, rfl, ?_⟩, f2⟩⟩) fun c3 => ?_⟩) fun c2 => ?_⟩) fun c1 => ?_⟩
 ·simp at c1 c2 c3
  have e1 : t.a = (0, 0) := Prod.ext c1.1 c1.2
  have e2 : t.b = (0, 0) := Prod.ext c2.1 c2.2
  have e3 : t.c = (0, 0) := Prod.ext c3.1 c3.2
  simp [e1, e2, e3]
 ·refine ⟨⟨_, rfl, ?_⟩, f2⟩
  simp at c3
  simp only [Bool.false_eq_true, false_iff]
  rintro ⟨_, _, h, _⟩
  rw [h] at c3; simp at c3
 ·refine ⟨⟨_, rfl, ?_⟩, f2⟩
  simp at c2
  simp only [Bool.false_eq_true, false_iff]
  rintro ⟨_, h, _⟩
  rw [h] at c2; simp at c2
 ·refine ⟨⟨_, rfl, ?_⟩, f2⟩
  simp at c1
  simp only [Bool.false_eq_true, false_iff]
  rintro ⟨h, _⟩
  rw [h] at c1; simp at c1
theorem InnerS.bar {s : St} {b : Nat} {N : List (Edge × AV)} {G : Edge → Tal} {fp : List Nat} (h : InnerS s b N G fp) : NoCells s b := h.map.noCells
theorem mget_mem {κ : Type} [DecidableEq κ] {m : List (κ × AV)} {k : κ} {v : AV} (h : mget m k = some v) : m ≠ [] := by rintro rfl; simp [mget] at h
theorem RollS.put {s s' : St} {r m b : Nat} {fan : Int} {F : RollF} {fp fp' : List Nat} {M : List (Int × AV)} (h : RollS s r fan F fp m M) {hh : Int} {e : Edge} {t : Tal} (hm : mget M hh = some (.map b)) {N' : List (Edge × AV)} (hw : Frw [b] s s') (hN : InnerS s' b N' (setF F hh e t hh) fp') (hfp : ∀ c, c ∈ fp → c ∈ fp') (hG : RollG (setF F hh e t)) : RollS s' r fan (setF F hh e t) fp' m M where
 own := h.own.fwd hw fun hc => by
  obtain ⟨b', N, e1, e2, _, _⟩ := h.inner hh _ hm
  simp only [AV.map.injEq] at e1
  subst e1
  have hrb : r = b := by simpa using hc
  obtain ⟨c, g, _⟩ := h.own
  rw [hrb] at g
  exact e2.bar _ _ _ g
 map := h.map.fwd hw fun hc => by
  obtain ⟨b', N, e1, _, _, e4⟩ := h.inner hh _ hm
  simp only [AV.map.injEq] at e1
  subst e1
  have hc : m = b := by simpa using hc
  exact e4 hc.symm
 good := hG
 rf := hfp _ h.rf
 mf := hfp _ h.mf
 inner := fun h' x hx => by
  obtain ⟨b', N, e1, e2, e3, e4⟩ := h.inner h' x hx
  by_cases eh : h' = hh
  ·subst eh
   rw [hm] at hx
   simp only [Option.some.injEq] at hx
   subst hx
   simp only [AV.map.injEq] at e1
   subst e1
   exact ⟨b, N', rfl, hN, hfp _ e3, e4⟩
  ·rw [setF_row eh]
   subst e1
   refine ⟨b', N, rfl, e2.fwd hw ?_ ?_ hfp, hfp _ e3, e4⟩
   ·intro hc
    have : b' = b := by simpa using hc
    subst this
    exact eh (h.inj _ _ _ hx hm)
   ·intro c hc
    have : c = b := by simpa using hc
    subst this
    obtain ⟨b2, N2, g1, g2, _⟩ := h.inner hh _ hm
    simp only [AV.map.injEq] at g1
    subst g1
    exact .inl g2.bar
 none := fun h' hn e' => by
  have : h' ≠ hh := by rintro rfl; rw [hm] at hn; simp at hn
  rw [setF_row this]; exact h.none h' hn e'
 inj := h.inj
theorem RollS.drop {s s' : St} {r m : Nat} {fan : Int} {F : RollF} {fp : List Nat} {M : List (Int × AV)} (h : RollS s r fan F fp m M) {hh : Int} {e : Edge} {X : List Nat} (hX : ∀ c, c ∈ X → c = m ∨ mget M hh = some (.map c)) (hw : Frw X s s') (hm : MapS hourF s' m (mdel M hh)) (h0 : ∀ e', setF F hh e .zero hh e' = .zero) (hG : RollG (setF F hh e .zero)) : RollS s' r fan (setF F hh e .zero) fp m (mdel M hh) where
 own := h.own.fwd hw fun hc => by
  obtain ⟨c, g, _⟩ := h.own
  rcases hX _ hc with e1 | e1
  ·rw [e1] at g; exact h.map.noCells _ _ _ g
  ·obtain ⟨b', N, g1, g2, _⟩ := h.inner hh _ e1
   simp only [AV.map.injEq] at g1
   rw [g1] at g; exact g2.bar _ _ _ g
 map := hm
 good := hG
 rf := h.rf
 mf := h.mf
 inner := fun h' x hx => by
  rw [mget_mdel h.map.nodup] at hx
  split at hx
  ·simp at hx
  ·rename_i eh
   obtain ⟨b', N, e1, e2, e3, e4⟩ := h.inner h' x hx
   rw [setF_row eh]
   subst e1
   refine ⟨b', N, rfl, e2.fwd hw ?_ ?_ fun c hc => hc, e3, e4⟩
   ·intro hc
    rcases hX _ hc with h1 | h1
    ·exact e4 h1
    ·exact eh (h.inj _ _ _ hx h1)
   ·intro c hc
    rcases hX _ hc with h1 | h1
    ·subst h1; exact .inl h.map.noCells
    ·obtain ⟨b2, N2, g1, g2, _⟩ := h.inner hh _ h1
     simp only [AV.map.injEq] at g1
     subst g1
     exact .inl g2.bar
 none := fun h' hn e' => by
  by_cases eh : h' = hh
  ·subst eh; exact h0 e'
  ·rw [setF_row eh]
   rw [mget_mdel h.map.nodup, if_neg eh] at hn
   exact h.none h' hn e'
 inj := fun h1 h2 b g1 g2 => by
  rw [mget_mdel h.map.nodup] at g1 g2
  split at g1
  ·simp at g1
  ·split at g2
   ·simp at g2
   ·exact h.inj _ _ _ g1 g2
theorem RollS.add {s s' : St} {r m b : Nat} {fan : Int} {F : RollF} {fp fp' : List Nat} {M : List (Int × AV)} (h : RollS s r fan F fp m M) {hh : Int} {e : Edge} {t : Tal} (hn : mget M hh = Option.none) (hb : s.h.get b = Option.none) (hw : Frw [m, b] s s') (hm : MapS hourF s' m (mset M hh (.map b))) {N : List (Edge × AV)} (hN : InnerS s' b N (setF F hh e t hh) fp') (hfp : ∀ c, c ∈ fp → c ∈ fp') (hbf : b ∈ fp') (hG : RollG (setF F hh e t)) : RollS s' r fan (setF F hh e t) fp' m (mset M hh (.map b)) where
 own := h.own.fwd hw fun hc => by
  obtain ⟨c, g, _⟩ := h.own
  simp only [List.mem_cons, List.not_mem_nil, or_false] at hc
  rcases hc with e1 | e1
  ·rw [e1] at g; exact h.map.noCells _ _ _ g
  ·rw [e1, hb] at g; simp at g
 map := hm
 good := hG
 rf := hfp _ h.rf
 mf := hfp _ h.mf
 inner := fun h' x hx => by
  rw [mget_mset] at hx
  split at hx
  ·rename_i eh
   subst eh
   simp only [Option.some.injEq] at hx
   subst hx
   refine ⟨b, _, rfl, hN, hbf, ?_⟩
   rintro rfl
   exact h.map.there hb
  ·rename_i eh
   obtain ⟨b', N, e1, e2, e3, e4⟩ := h.inner h' x hx
   rw [setF_row eh]
   subst e1
   refine ⟨b', N, rfl, e2.fwd hw ?_ ?_ hfp, hfp _ e3, e4⟩
   ·intro hc
    simp only [List.mem_cons, List.not_mem_nil, or_false] at hc
    rcases hc with h1 | h1
    ·exact e4 h1
    ·rw [h1] at e2; exact e2.map.there hb
   ·intro c hc
    simp only [List.mem_cons, List.not_mem_nil, or_false] at hc
    rcases hc with h1 | h1
    ·rw [h1]; exact .inl h.map.noCells
    ·rw [h1]; exact .inl fun c n tl g => by rw [hb] at g; simp at g
 none := fun h' hn' e' => by
  rw [mget_mset] at hn'
  split at hn'
  ·simp at hn'
  ·rename_i eh
   rw [setF_row eh]; exact h.none h' hn' e'
 inj := fun h1 h2 b' g1 g2 => by
  rw [mget_mset] at g1 g2
  have hold : ∀ h3, mget M h3 = some (.map b) → False := by
   intro h3 g3
   obtain ⟨b', N, e1, e2, _⟩ := h.inner h3 _ g3
   simp only [AV.map.injEq] at e1
   subst e1
   exact e2.map.there hb
  split at g1
  ·rename_i e1
   split at g2
   ·rename_i e2; rw [e1, e2]
   ·simp only [Option.some.injEq, AV.map.injEq] at g1
    subst g1
    exact (hold _ g2).elim
  ·split at g2
   ·simp only [Option.some.injEq, AV.map.injEq] at g2
    subst g2
    exact (hold _ g1).elim
   ·exact h.inj _ _ _ g1 g2
theorem RollS.same {s s' : St} {r m : Nat} {fan : Int} {F : RollF} {fp : List Nat} {M : List (Int × AV)} (h : RollS s r fan F fp m M) {hh : Int} {e : Edge} (hn : mget M hh = Option.none) (hw : Frw [] s s') (hm : MapS hourF s' m M) : RollS s' r fan (setF F hh e .zero) fp m M := by
 have : setF F hh e .zero = F := by
  funext h' e'
  unfold setF
  split
  ·rename_i hx; rw [hx.1, h.none hh hn]
  ·rfl
 rw [this]
 exact h.fwd hw (by simp)
end
end Go.Eng.S

namespace Go.Eng.S
open Go Go.Eng Go.Proofs
set_option linter.constructorNameAsVariable false
noncomputable section
attribute [local irreducible] bsel
theorem ptrK_of {b o off : Nat} {K : Nat → Nat → Prop} (h : K b (o + off)) : ptrK (.ptr b o) off K := h
theorem nilK_nilmap {a b : TypeId} {K : Bool → Prop} (h : K true) : nilK (.map a b) .nilmap true K := by simpa [nilK, nilT] using h
theorem nilK_map {a b : TypeId} {x : Nat} {K : Bool → Prop} (h : K false) : nilK (.map a b) (.map x) true K := by simpa [nilK, nilT] using h
theorem Own.noMap {s : St} {b m : Nat} {cs : List AV} (h : Own s b cs) (hm : NoCells s m) : b ≠ m := by
 rintro rfl
 obtain ⟨c, h1, _⟩ := h
 exact hm _ _ _ h1
theorem noCells_none {s : St} {b : Nat} (h : s.h.get b = none) : NoCells s b := fun c n tl g => by rw [h] at g; simp at g
set_option maxRecDepth 4000 in
theorem set_ok {s : St} {r : Nat} {fan : Int} {G : RollF} {fp : List Nat} (hR : Roll s r fan G fp) {hh : Int} {e : Edge} {t : Tal} {z : AV} (hz : So barE s z t.l) (ho : t.ok = true) (hr : t.Rng) (hr0 : 0 ≤ hh ∧ hh < 2097152) :
  CallsD P F.p_rollup_Rollup_set [.ptr r 0, .int .i64 hh, edgeF e, t.V z] s fun v s' => ((v = .tuple [] ∧ ∃ fp', Roll s' r fan (setF G hh e t) fp' ∧ (∀ c, c ∈ fp → c ∈ fp') ∧ ∀ c, c ∈ fp' → c ∈ fp ∨ c ∈ blkOf z ∨ s.h.get c = none) ∧ Frw fp s s') ∧ Fr s' := by
 obtain ⟨m, M, h⟩ := hR
 obtain ⟨e1, e2⟩ := e
 refine CallsD.of fun hfr => vc.p_rollup_Rollup_set_ok ?_
 intro m1 s2 h2 m3 s4 h4
 have f4 : Frw [] s s4 := h2.fwd.trans h4.fwd
 have hR := h.fwd f4 (by simp)
 have o1 := h2.own.ext h4.fwd
 have o3 := h4.own
 have hG : RollG (setF G hh (e1, e2) t) := h.good.set ho hr hr0
 refine ptrK_of ⟨_, hR.own.ld1 1 rfl, _, (MapS.lookup KH hR.map ty.map_int64_rollup_edges rfl ty.rollup_edges rfl hh).1, _, _, _, _, _, _, _, o3.all rfl, (nothing_ok (t := t) (hz.ext f4).sl).mono ?_⟩
 rintro _ s17 ⟨⟨⟨c, rfl, hc⟩, g17⟩, hfr17⟩
 have hR := hR.fwd g17 (by simp)
 have o1 := o1.ext g17
 have o3 := o3.ext g17
 have f17 := f4.trans g17
 have hz := hz.ext f17
 refine ⟨c, rfl, bsel_of (fun cc => ?_) fun cc => ?_⟩
 ·-- nothing
  have ht := hc.1 cc
  subst ht
  refine ⟨_, _, o1.all rfl, ?_⟩
  cases hx : mget M hh with
  | none =>
   refine ⟨s17, delete_nil KE ty.rollup_edges rfl (e1, e2), [], rfl, bsel_of (fun _ => ?_) fun c => by simp at c⟩
   obtain ⟨s26, w1, w2, w3⟩ := hR.map.del KH ty.map_int64_rollup_edges rfl hh
   refine ptrK_of ⟨_, hR.own.ld1 1 rfl, s26, w1, ⟨rfl, fp, ⟨m, _, hR.drop (X := [m]) (fun c hc => .inl (by simpa using hc)) w3.1 w2 (fun e' => ?_) hG⟩, fun c hc => hc, fun c hc => .inl hc⟩, f17.mono (by simp) |>.trans (w3.1.mono fun c hc => ?_)⟩
   ·unfold setF; split
    ·rfl
    ·exact h.none hh hx e'
   ·have : c = m := by simpa using hc
    rw [this]; exact h.mf
  | some x =>
   obtain ⟨b, N, rfl, hi, hbf, hbm⟩ := hR.inner hh x hx
   obtain ⟨s21, w1, w2, w3⟩ := hi.map.del KE ty.rollup_edges rfl (e1, e2)
   obtain ⟨l, w4, w5⟩ := w2.entries
   have hb2 : ∀ e', (mget (mdel N (e1, e2)) e' = none → setF G hh (e1, e2) .zero hh e' = .zero) := by
    intro e' hn
    rw [mget_mdel hi.map.nodup] at hn
    unfold setF
    by_cases ee : e' = (e1, e2)
    ·simp [ee]
    ·rw [if_neg ee] at hn
     rw [if_neg (by simp [ee])]
     exact hi.none e' hn
   refine ⟨s21, w1, l, w4, bsel_of (fun c => ?_) fun c => ?_⟩
   ·have hl : mdel N (e1, e2) = [] := by
     have : l.length = 0 := by simpa using c
     exact List.length_eq_zero_iff.1 (by rw [← w5]; exact this)
    have hm21 := hR.map.fwd w3.1 (by simpa using Ne.symm hbm)
    obtain ⟨s26, x1, x2, x3⟩ := hm21.del KH ty.map_int64_rollup_edges rfl hh
    refine ptrK_of ⟨_, (hR.own.fwd w3.1 (by simpa using Own.noMap hR.own hi.bar)).ld1 1 rfl, s26, x1, ⟨rfl, fp, ⟨m, _, hR.drop (X := [b, m]) (fun c hc => ?_) ?_ x2 (fun e' => hb2 e' (by rw [hl]; rfl)) hG⟩, fun c hc => hc, fun c hc => .inl hc⟩, ?_⟩
    ·simp only [List.mem_cons, List.not_mem_nil, or_false] at hc
     rcases hc with rfl | rfl
     ·exact .inr hx
     ·exact .inl rfl
    ·exact (w3.1.mono (by simp)).trans (x3.1.mono (by simp))
    ·refine (f17.mono (by simp)).trans ((w3.1.mono fun c hc => ?_).trans (x3.1.mono fun c hc => ?_))
     ·have : c = b := by simpa using hc
      rw [this]; exact hbf
     ·have : c = m := by simpa using hc
      rw [this]; exact h.mf
   ·have hl : mdel N (e1, e2) ≠ [] := by
     intro hl
     rw [hl] at w5
     simp at c
     simp at w5
     exact c w5
    refine ⟨⟨rfl, fp, ⟨m, M, hR.put hx w3.1 (N' := mdel N (e1, e2)) ⟨w2, hl, fun e' v hv => ?_, hb2⟩ (fun c hc => hc) hG⟩, fun c hc => hc, fun c hc => .inl hc⟩, (f17.mono (by simp)).trans (w3.1.mono fun c hc => ?_)⟩
    ·rw [mget_mdel hi.map.nodup] at hv
     split at hv
     ·simp at hv
     ·rename_i ee
      obtain ⟨z', g1, g2, g3, g4⟩ := hi.some e' v hv
      have : setF G hh (e1, e2) .zero hh e' = G hh e' := by unfold setF; rw [if_neg (by simp [ee])]
      rw [this]
      exact ⟨z', g1, g2.besideN w3.1 fun c hc => .inl (by
       have : c = b := by simpa using hc
       rw [this]; exact hi.bar), g3, g4⟩
    ·have : c = b := by simpa using hc
     rw [this]; exact hbf
 ·-- something
  have ht : t ≠ .zero := fun e => by rw [hc.2 e] at cc; simp at cc
  have hset : setF G hh (e1, e2) t hh (e1, e2) = t := by unfold setF; simp
  have hoth : ∀ e', e' ≠ (e1, e2) → setF G hh (e1, e2) t hh e' = G hh e' := fun e' he => by unfold setF; rw [if_neg (by simp [he])]
  cases hx : mget M hh with
  | none =>
   refine nilK_nilmap (bsel_of (fun _ => ?_) fun c => by simp at c)
   intro m28 s29 h29
   have hR29 := hR.fwd h29.fwd (by simp)
   obtain ⟨s33, w1, w2, w3⟩ := hR29.map.set KH ty.map_int64_rollup_edges rfl hh (.map m28)
   have hm28 : m28 ≠ m := (h29.ne hR.map.there).symm
   have o1' := (o1.ext h29.fwd).fwd w3.1 (by simpa using Own.noMap (o1.ext h29.fwd) hR29.map.noCells)
   have o3' := (o3.ext h29.fwd).fwd w3.1 (by simpa using Own.noMap (o3.ext h29.fwd) hR29.map.noCells)
   have hM33 := (MapS.new (f := edgeF) h29).fwd w3.1 (by simpa using hm28)
   obtain ⟨s43, x1, x2, x3⟩ := hM33.set KE ty.rollup_edges rfl (e1, e2) (t.V z)
   have hw : Frw [m, m28] s17 s43 := ((h29.fwd.mono (by simp)).trans (w3.1.mono (by simp))).trans (x3.1.mono (by simp))
   refine ptrK_of ⟨_, hR29.own.ld1 1 rfl, s33, w1, _, _, o1'.all rfl, _, _, _, _, _, _, _, o3'.all rfl, s43, x1, ⟨rfl, m28 :: (blkOf z ++ fp), ⟨m, _, hR.add hx h29.gone hw (w2.fwd x3.1 (by simpa using Ne.symm hm28)) (N := [((e1, e2), t.V z)]) ⟨x2, by simp, fun e' v hv => ?_, fun e' hn => ?_⟩ (fun c hc => by simp [hc]) (by simp) hG⟩, fun c hc => by simp [hc], fun c hc => ?_⟩, ?_⟩
   ·simp only [mget] at hv
    split at hv
    ·rename_i ee
     simp only [Option.some.injEq] at hv
     rw [ee, hset]
     refine ⟨z, hv.symm, hz.besideN hw fun c hc => .inl ?_, ht, fun c hc => by simp [hc]⟩
     simp only [List.mem_cons, List.not_mem_nil, or_false] at hc
     rcases hc with rfl | rfl
     ·exact hR.map.noCells
     ·exact noCells_none h29.gone
    ·simp at hv
   ·simp only [mget] at hn
    split at hn
    ·simp at hn
    ·rename_i ee
     rw [hoth e' ee]; exact h.none hh hx e'
   ·simp only [List.mem_cons, List.mem_append] at hc
    rcases hc with rfl | hc | hc
    ·exact .inr (.inr (f17.none h29.gone (by simp)))
    ·exact .inr (.inl hc)
    ·exact .inl hc
   ·refine ⟨fun c o hc ho => ?_, Nat.le_trans f17.2.1 hw.2.1, hw.2.2.trans f17.2.2⟩
    have h17 := f17.1 c o (by simp) ho
    refine hw.1 c o ?_ h17
    simp only [List.mem_cons, List.not_mem_nil, or_false, not_or]
    refine ⟨?_, ?_⟩
    ·rintro rfl; exact hc h.mf
    ·rintro rfl; rw [h29.gone] at h17; simp at h17
  | some x =>
   obtain ⟨b, N, rfl, hi, hbf, hbm⟩ := hR.inner hh x hx
   refine nilK_map (bsel_of (fun c => by simp at c) fun _ => ?_)
   obtain ⟨s53, w1, w2, w3⟩ := hi.map.set KE ty.rollup_edges rfl (e1, e2) (t.V z)
   refine ⟨_, _, o1.all rfl, _, _, _, _, _, _, _, o3.all rfl, s53, w1, ⟨rfl, blkOf z ++ fp, ⟨m, M, hR.put hx w3.1 (N' := mset N (e1, e2) (t.V z)) ⟨w2, ?_, fun e' v hv => ?_, fun e' hn => ?_⟩ (fun c hc => by simp [hc]) hG⟩, fun c hc => by simp [hc], fun c hc => ?_⟩, (f17.mono (by simp)).trans (w3.1.mono fun c hc => ?_)⟩
   ·refine mget_mem (k := (e1, e2)) (v := t.V z) ?_
    rw [mget_mset, if_pos rfl]
   ·rw [mget_mset] at hv
    have hb : ∀ c, c ∈ [b] → NoCells s17 c := fun c hc => by
     have : c = b := by simpa using hc
     rw [this]; exact hi.bar
    split at hv
    ·rename_i ee
     simp only [Option.some.injEq] at hv
     rw [ee, hset]
     exact ⟨z, hv.symm, hz.besideN w3.1 fun c hc => .inl (hb c hc), ht, fun c hc => by simp [hc]⟩
    ·rename_i ee
     rw [hoth e' ee]
     obtain ⟨z', g1, g2, g3, g4⟩ := hi.some e' v hv
     exact ⟨z', g1, g2.besideN w3.1 fun c hc => .inl (hb c hc), g3, fun c hc => by simp [g4 c hc]⟩
   ·rw [mget_mset] at hn
    split at hn
    ·simp at hn
    ·rename_i ee
     rw [hoth e' ee]; exact hi.none e' hn
   ·rcases List.mem_append.1 hc with hc | hc
    ·exact .inr (.inl hc)
    ·exact .inl hc
   ·have : c = b := by simpa using hc
    rw [this]; exact hbf
def putR (G : RollF) (hh : Int) (e : Edge) (t : Tal) : RollF × Int :=
 if 0 ≤ hh ∧ hh < 2097152 then (if t.ok = true then (setF G hh e ((G hh e).plus t), 0) else (G, 131)) else (G, 151)
theorem look_ok {s : St} {r m : Nat} {fan : Int} {G : RollF} {fp : List Nat} {M : List (Int × AV)} (hR : RollS s r fan G fp m M) (hh : Int) (e : Edge) :
  ∃ x z, lookupA D s T.map_int64_rollup_edges (.map m) (.int .i64 hh) false = some x ∧ lookupA D s T.rollup_edges x (edgeF e) false = some ((G hh e).V z) ∧ Sl barE s z (G hh e).l := by
 have hl := (MapS.lookup KH hR.map ty.map_int64_rollup_edges rfl ty.rollup_edges rfl hh).1
 cases hx : mget M hh with
 | none =>
  rw [hx] at hl
  refine ⟨.nilmap, .nilslice, hl, ?_, ?_⟩
  ·rw [hR.none hh hx e]
   exact (lookup_nil KE ty.rollup_edges rfl ty.api_Tally rfl e).1
  ·rw [hR.none hh hx e]; exact .nil _ _
 | some x =>
  rw [hx] at hl
  obtain ⟨b, N, rfl, hi, hbf, hbm⟩ := hR.inner hh x hx
  have hl2 := (MapS.lookup KE hi.map ty.rollup_edges rfl ty.api_Tally rfl e).1
  cases hv : mget N e with
  | none =>
   rw [hv] at hl2
   refine ⟨.map b, .nilslice, hl, ?_, ?_⟩
   ·rw [hi.none e hv]; exact hl2
   ·rw [hi.none e hv]; exact .nil _ _
  | some v =>
   rw [hv] at hl2
   obtain ⟨z, rfl, h2, h3, _⟩ := hi.some e v hv
   exact ⟨.map b, z, hl, hl2, h2.sl⟩
theorem bump_free {s s5 s' : St} {n i : Nat} (h : Bump s n s5) (hi : i < n) (hG : Gro s5 s') : s'.h.get (s.nx + i) = none :=
 hG.2.2 _ (by rw [h.lt]; omega) h.free
set_option maxRecDepth 4000 in
theorem Put_ok {s : St} {r : Nat} {fan : Int} {G : RollF} {fp : List Nat} (hR : Roll s r fan G fp) {hh : Int} {e : Edge} {t : Tal} {y : AV} (hy : Sl barE s y t.l) (hr : t.Rng) :
  CallsD P F.p_rollup_Rollup_Put [.ptr r 0, .int .i64 hh, edgeF e, t.V y] s fun v s' => ((v = .int .i64 (putR G hh e t).2 ∧ ∃ fp', Roll s' r fan (putR G hh e t).1 fp' ∧ (∀ c, c ∈ fp → c ∈ fp') ∧ ∀ c, c ∈ fp' → c ∈ fp ∨ s.h.get c = none) ∧ Frw fp s s') ∧ Fr s' := by
 obtain ⟨m, M, h⟩ := hR
 obtain ⟨e1, e2⟩ := e
 refine CallsD.of fun hfr => vc.p_rollup_Rollup_Put_ok ?_
 intro m1 s2 h2 m3 s4 h4
 have f4 : Frw [] s s4 := h2.fwd.trans h4.fwd
 unfold putR
 refine bsel_of (fun c => ?_) fun c => bsel_of (fun c' => ?_) fun c' => ?_
 ·simp at c
  rw [if_neg (by omega)]
  exact ⟨⟨rfl, fp, ⟨m, M, h.fwd f4 (by simp)⟩, fun c hc => hc, fun c hc => .inl hc⟩, f4.mono (by simp)⟩
 ·simp at c'
  rw [if_neg (by omega)]
  exact ⟨⟨rfl, fp, ⟨m, M, h.fwd f4 (by simp)⟩, fun c hc => hc, fun c hc => .inl hc⟩, f4.mono (by simp)⟩
 simp at c c'
 rw [if_pos (by omega)]
 intro s5 hB
 have f5 := f4.trans hB.fwd
 have hR := h.fwd f5 (by simp)
 have o1 := (h2.own.ext h4.fwd).ext hB.fwd
 have o3 := h4.own.ext hB.fwd
 obtain ⟨x, z, l1, l2, hz⟩ := look_ok hR hh (e1, e2)
 have hg := h.good
 refine ptrK_of ⟨_, hR.own.ld1 1 rfl, x, l1, _, _, o1.all rfl, _, _, _, _, _, _, z, l2, _, _, _, _, _, _, _, o3.all rfl, (Plus_okS hz (hy.ext f5) (hg.rng hh (e1, e2)) hr).gro.mono ?_⟩
 rintro v s34 ⟨⟨⟨hv, g34⟩, hfr34⟩, hG⟩
 have hR := hR.fwd g34 (by simp)
 have o1 := o1.ext g34
 have f34 := f5.trans g34
 have hfree : s34.h.get (s4.nx + 13) = none := bump_free hB (by omega) hG
 have hlt : s4.nx + 13 < s34.nx := by have := hB.lt; have := hG.2.1; omega
 have hx := hsetS_fwd (o := cellsO [(AV.int .u64 0), (AV.int .u64 0), (AV.int .u64 0), (AV.int .u64 0), (AV.int .u64 0), (AV.int .u64 0), AV.nilslice]) hfree
 have ox := hsetS_own (s := s34) (b := s4.nx + 13) (cs := [(AV.int .u64 0), (AV.int .u64 0), (AV.int .u64 0), (AV.int .u64 0), (AV.int .u64 0), (AV.int .u64 0), AV.nilslice])
 have hok : (G hh (e1, e2)).ok = true := hg.ok _ _
 by_cases ct : t.ok = true
 ·rw [if_pos ⟨hok, ct⟩] at hv
  obtain ⟨z', rfl, ⟨hz', _⟩, hgo⟩ := hv
  obtain ⟨s37, w1, w2, w3, w4, w5, w6⟩ := ox.wrAll (((G hh (e1, e2)).plus t).C z') (hz'.sl.onesx []) rfl
  have g37 : Frw [] s34 s37 := hx.step w3 (by simpa using hfree)
  refine ⟨_, _, _, _, _, _, z', 0, rfl, s37, w1, bsel_of (fun c => by simp at c) fun _ => ?_⟩
  have hR := hR.fwd g37 (by simp)
  have f37 := f34.trans g37
  refine ⟨_, _, (o1.ext g37).all rfl, _, _, _, _, _, _, _, w2.all rfl, (set_ok ⟨m, M, hR⟩ (hz'.ext g37) (t := (G hh (e1, e2)).plus t) mergeB_ok ((hg.rng hh (e1, e2)).plus hr) (by omega)).mono ?_⟩
  rintro v s48 ⟨⟨⟨rfl, fp', q1, q2, q3⟩, g48⟩, hfr48⟩
  refine ⟨rfl, ⟨?_, fp', ?_, q2, fun c hc => ?_⟩, (f37.mono (by simp)).trans g48⟩
  ·rw [if_pos ct]
  ·rw [if_pos ct]; exact q1
  ·rcases q3 c hc with h1 | h1 | h1
   ·exact .inl h1
   ·exact .inr (f5.none (hgo c h1) (by simp))
   ·exact .inr (f37.none h1 (by simp))
 ·rw [if_neg (by simp [ct])] at hv
  subst hv
  obtain ⟨s37, w1, w2, w3, w4, w5, w6⟩ := ox.wrAll (Tal.zero.C .nilslice) rfl rfl
  have g37 : Frw [] s34 s37 := hx.step w3 (by simpa using hfree)
  refine ⟨_, _, _, _, _, _, .nilslice, 131, rfl, s37, w1, bsel_of (fun _ => ?_) fun c => by simp at c⟩
  refine ⟨⟨?_, fp, ?_, fun c hc => hc, fun c hc => .inl hc⟩, (f34.trans g37).mono (by simp)⟩
  ·rw [if_neg ct]
  ·rw [if_neg ct]; exact ⟨m, M, hR.fwd g37 (by simp)⟩
end
end Go.Eng.S

namespace Go.Eng.S
open Go Go.Eng Go.Proofs
set_option linter.constructorNameAsVariable false
noncomputable section
attribute [local irreducible] barsOf mergeB
abbrev GT := { t : Tal // t.ok = true ∧ t.Rng }
def GT.plus (a b : GT) : GT := ⟨a.1.plus b.1, Tal.plus_ok, a.2.2.plus b.2.2⟩
def GT.zero : GT := ⟨.zero, rfl, Tal.zero_rng⟩
theorem GT.comm (a b : GT) : a.plus b = b.plus a := Subtype.ext (Tal.plus_comm a.2.2 b.2.2 a.2.1 b.2.1)
theorem GT.assoc (a b c : GT) : (a.plus b).plus c = a.plus (b.plus c) := Subtype.ext (Tal.plus_assoc a.2.2 b.2.2 c.2.2 a.2.1 b.2.1 c.2.1)
theorem GT.plus_zero (a : GT) : a.plus .zero = a := Subtype.ext (Tal.plus_zero a.2.2 a.2.1)
theorem GT.zero_plus (a : GT) : GT.zero.plus a = a := Subtype.ext (Tal.zero_plus a.2.2 a.2.1)
theorem plusP_eq_zero {a b : P2} (ha : Rng2 a) (hb : Rng2 b) (h : plusP a b = (0, 0)) : a = (0, 0) := by
 have e : val2 (plusP a b) = 0 := by rw [h]; rfl
 rw [val2_plusP] at e
 have h1 := ha.val
 have h2 := hb.val
 have : val2 a = 0 := by
  split at e
  ·omega
  ·rename_i hn; unfold M128 at *; omega
 obtain ⟨x, y⟩ := a
 unfold val2 at this
 unfold Rng2 at ha
 simp only at this ha
 have : x = 0 ∧ y = 0 := by omega
 rw [this.1, this.2]
theorem mergeB_eq_nil {a b : List Bar} (ha : okB (-1) a = true) (hb : okB (-1) b = true) (ra : RngB a) (rb : RngB b) (h : mergeB a b = []) : a = [] := by
 have h0 : ∀ i, cnt a i = 0 := by
  intro i
  have := cnt_merge ha hb ra rb i
  rw [h] at this
  simp only [cnt] at this
  have h1 := (cnt_rng ra i).1
  have h2 := (cnt_rng rb i).1
  unfold sat at this
  split at this
  ·omega
  ·unfold M64 at this; omega
 have := barsOf_cnt ha ra
 have e : (cnt a) = cnt [] := funext fun i => by rw [h0 i]; rfl
 rw [← this, e]
 exact barsOf_cnt rfl RngB.none
theorem Tal.plus_eq_zero {t u : Tal} (ot : t.ok = true) (ou : u.ok = true) (ht : t.Rng) (hu : u.Rng) (h : t.plus u = .zero) : t = .zero := by
 have h' : plusP t.a u.a = (0, 0) ∧ plusP t.b u.b = (0, 0) ∧ plusP t.c u.c = (0, 0) ∧ mergeB t.l u.l = [] := by
  have := h
  unfold Tal.plus Tal.zero at this
  simp only [Tal.mk.injEq] at this
  exact this
 obtain ⟨a, b, c, l⟩ := t
 have h1 := plusP_eq_zero ht.a hu.a h'.1
 have h2 := plusP_eq_zero ht.b hu.b h'.2.1
 have h3 := plusP_eq_zero ht.c hu.c h'.2.2.1
 have h4 := mergeB_eq_nil ot ou ht.l hu.l h'.2.2.2
 simp only at h1 h2 h3 h4
 rw [h1, h2, h3, h4]; rfl
theorem GT.plus_eq_zero {a b : GT} (h : a.plus b = .zero) : a = .zero :=
 Subtype.ext (Tal.plus_eq_zero a.2.1 b.2.1 a.2.2 b.2.2 (congrArg Subtype.val h))
theorem GT.plus_eq_zero' {a b : GT} (h : a.plus b = .zero) : b = .zero := by rw [GT.comm] at h; exact GT.plus_eq_zero h
def gsum : List GT → GT
 | [] => .zero
 | a :: r => a.plus (gsum r)
theorem gsum_append (a b : List GT) : gsum (a ++ b) = (gsum a).plus (gsum b) := by
 induction a with
 | nil => simp [gsum, GT.zero_plus]
 | cons x r ih => simp [gsum, ih, GT.assoc]
theorem gsum_perm {a b : List GT} (h : a.Perm b) : gsum a = gsum b := by
 induction h with
 | nil => rfl
 | cons x _ ih => simp [gsum, ih]
 | swap x y l => simp only [gsum]; rw [← GT.assoc, ← GT.assoc, GT.comm y x]
 | trans _ _ h1 h2 => exact h1.trans h2
theorem gsum_zero {l : List GT} (h : ∀ x, x ∈ l → x = .zero) : gsum l = .zero := by
 induction l with
 | nil => rfl
 | cons x r ih => simp [gsum, h x (List.mem_cons_self ..), ih fun y hy => h y (List.mem_cons_of_mem _ hy), GT.plus_zero]
theorem gsum_filter {α : Type} (f : α → GT) (p : α → Bool) : ∀ (l : List α), (∀ x, x ∈ l → p x = false → f x = .zero) → gsum ((l.filter p).map f) = gsum (l.map f)
 | [], _ => rfl
 | a :: r, h => by
  have ih := gsum_filter f p r fun x hx => h x (List.mem_cons_of_mem _ hx)
  cases e : p a with
  | true => simp [e, gsum, ih]
  | false => simp [e, gsum, ih, h a (List.mem_cons_self ..) e, GT.zero_plus]
theorem gsum_same {α : Type} [DecidableEq α] (f : α → GT) {a b : List α} (ha : a.Nodup) (hb : b.Nodup) (h : ∀ x, f x ≠ .zero → (x ∈ a ↔ x ∈ b)) : gsum (a.map f) = gsum (b.map f) := by
 classical
 rw [← gsum_filter f (fun x => decide (f x ≠ .zero)) a (fun x _ e => by simpa using e), ← gsum_filter f (fun x => decide (f x ≠ .zero)) b (fun x _ e => by simpa using e)]
 refine gsum_perm (List.Perm.map f ?_)
 rw [List.perm_ext_iff_of_nodup (ha.filter _) (hb.filter _)]
 intro x
 simp only [List.mem_filter, decide_eq_true_eq]
 exact ⟨fun ⟨h1, h2⟩ => ⟨(h x h2).1 h1, h2⟩, fun ⟨h1, h2⟩ => ⟨(h x h2).2 h1, h2⟩⟩
def hrs (a b : Int) : List Int := (List.range (b - a).toNat).map fun (i : Nat) => a + (i : Int)
theorem mem_hrs {a b h : Int} : h ∈ hrs a b ↔ a ≤ h ∧ h < b := by
 simp only [hrs, List.mem_map, List.mem_range]
 constructor
 ·rintro ⟨i, h1, rfl⟩; omega
 ·rintro ⟨h1, h2⟩; exact ⟨(h - a).toNat, by omega, by omega⟩
theorem hrs_nodup (a b : Int) : (hrs a b).Nodup := by
 unfold hrs
 exact List.pairwise_map.2 ((List.nodup_range (n := (b - a).toNat)).imp fun {x y} h e => h (by omega))
def gF (G : RollF) (hG : RollG G) (h : Int) (e : Edge) : GT := ⟨G h e, hG.ok h e, hG.rng h e⟩
def sumH (G : RollF) (hG : RollG G) (a b : Int) (e : Edge) : GT := gsum ((hrs a b).map fun h => gF G hG h e)
theorem sumH_of (G : RollF) (hG : RollG G) {a b : Int} {l : List Int} (hl : l.Nodup) (h : ∀ x e, G x e ≠ .zero → (x ∈ l ↔ a ≤ x ∧ x < b)) (e : Edge) : gsum (l.map fun h => gF G hG h e) = sumH G hG a b e := by
 refine gsum_same _ hl (hrs_nodup a b) fun x hx => ?_
 rw [mem_hrs]
 exact h x e fun e0 => hx (Subtype.ext e0)
structure ToldL (S : Edge → GT) (L : List (Edge × Tal)) : Prop where
 asc : L.Pairwise fun x y => ssLt x.1 y.1 = true
 mem : ∀ e t, (e, t) ∈ L ↔ t = (S e).1 ∧ t ≠ .zero
theorem ToldL.unique {S : Edge → GT} {L L' : List (Edge × Tal)} (h : ToldL S L) (h' : ToldL S L') : L = L' := by
 have irr : ∀ {L : List (Edge × Tal)}, L.Pairwise (fun x y => ssLt x.1 y.1 = true) → L.Nodup := by
  intro L hL
  refine hL.imp fun {x y} hxy e => ?_
  subst e
  rw [ssLt_irrefl] at hxy; simp at hxy
 have hp : L.Perm L' := (List.perm_ext_iff_of_nodup (irr h.asc) (irr h'.asc)).2 fun ⟨e, t⟩ => by rw [h.mem, h'.mem]
 refine List.Perm.eq_of_pairwise (le := fun x y => ssLt x.1 y.1 = true) ?_ h.asc h'.asc hp
 intro a b _ _ h1 h2
 have := ssLt_trans h1 h2
 rw [ssLt_irrefl] at this; simp at this
theorem nodup_length_le {α : Type} [DecidableEq α] : ∀ {a b : List α}, a.Nodup → (∀ x, x ∈ a → x ∈ b) → a.length ≤ b.length
 | [], _, _, _ => by simp
 | x :: r, b, ha, h => by
  rw [List.nodup_cons] at ha
  have hx : x ∈ b := h x (List.mem_cons_self ..)
  have := nodup_length_le (a := r) (b := b.erase x) ha.2 fun y hy => by
   have hne : y ≠ x := by rintro rfl; exact ha.1 hy
   exact (List.mem_erase_of_ne hne).2 (h y (List.mem_cons_of_mem _ hy))
  rw [List.length_erase_of_mem hx] at this
  have := List.length_pos_of_mem hx
  simp; omega
end
end Go.Eng.S

namespace Go.Eng.S
open Go Go.Eng Go.Proofs
set_option linter.constructorNameAsVariable false
noncomputable section
attribute [local irreducible] bsel
theorem isNaN_ok (a : ByteArray) (s : St) : CallsD P F.cmp_isNaN_string [.str a] s fun v s' => v = .bool false ∧ s' = s := by
 refine CallsD.pure (fun s => (vc.cmp_isNaN_string_ok ?_).a) rfl s
 show AV.bool (!(bytesEq a.data.toList a.data.toList)) = .bool false
 rw [sEq_eq]; simp
theorem Compare_ok (a b : ByteArray) (s : St) : CallsD P F.cmp_Compare_string [.str a, .str b] s fun v s' => v = .int .i64 (cmpS a b) ∧ s' = s := by
 refine CallsD.pure (fun s => (vc.cmp_Compare_string_ok ((isNaN_ok a s).mono ?_)).a) rfl s
 rintro _ _ ⟨rfl, rfl⟩
 refine ⟨false, rfl, (isNaN_ok b _).mono ?_⟩
 rintro _ _ ⟨rfl, rfl⟩
 refine ⟨false, rfl, bsel_of (fun c => by simp at c) fun _ => bsel_of (fun c => by simp at c) fun _ => bsel_of (fun c => ?_) fun c => bsel_of (fun c' => ?_) fun c' => ?_⟩
 ·have c : sLt a b = true := c
  unfold cmpS; rw [if_pos c]
 ·have c : ¬ sLt a b = true := by unfold sLt; simp [c]
  have : ¬ a = b := by
   rintro rfl
   rw [sEq_eq] at c'
   simp at c'
  unfold cmpS; rw [if_neg c, if_neg this]
 ·have c0 : ¬ sLt a b = true := by unfold sLt; simp [c]
  have : a = b := by
   rw [c, sEq_eq] at c'
   simpa using c'
  unfold cmpS; rw [if_neg c0, if_pos this]
theorem Or_ok {s : St} {b : Nat} {x y : Int} (h : Own s b [.int .i64 x, .int .i64 y]) : CallsD P F.cmp_Or_int [.slice b 0 2 (.exact 2)] s fun v s' => v = .int .i64 (if x ≠ 0 then x else y) ∧ s' = s := by
 refine vc.cmp_Or_int_ok ?_
 show ∃ I : Int → St → Nat → Prop, _
 refine ⟨fun n s5 m => s5 = s ∧ ((n = 0 ∧ m = 2) ∨ (n = 1 ∧ m = 1 ∧ x = 0) ∨ (n = 2 ∧ m = 0 ∧ x = 0 ∧ y = 0)), ⟨2, rfl, .inl ⟨rfl, rfl⟩⟩, ?_⟩
 rintro n s5 m ⟨rfl, hc⟩
 have r0 : Eng.ld1 s5 (.ptr b 0) = some (.int .i64 x) := h.ld1 0 rfl
 have r1 : Eng.ld1 s5 (.ptr b 1) = some (.int .i64 y) := h.ld1 1 rfl
 have ix : ∀ (i : Nat) (K : Nat → Nat → Prop), i < 2 → K b i → ixsK 1 (.slice b 0 2 (.exact 2)) (i : Int) K := by
  intro i K hi hK
  refine ⟨by omega, by simp; omega, ?_⟩
  rw [mulS_eq]
  simpa using hK
 rcases hc with ⟨rfl, rfl⟩ | ⟨rfl, rfl, rfl⟩ | ⟨rfl, rfl, rfl, rfl⟩
 ·refine bsel_of (fun _ => ix 0 _ (by omega) ⟨x, r0, bsel_of (fun c => ?_) fun c => ?_⟩) fun c => by simp at c
  ·simp at c
   exact ⟨by rw [if_pos c], rfl⟩
  ·simp at c
   exact ⟨1, by omega, rfl, .inr (.inl ⟨rfl, rfl, c⟩)⟩
 ·refine bsel_of (fun _ => ix 1 _ (by omega) ⟨y, r1, bsel_of (fun c => ?_) fun c => ?_⟩) fun c => by simp at c
  ·exact ⟨by simp, rfl⟩
  ·simp at c
   exact ⟨0, by omega, rfl, .inr (.inr ⟨rfl, rfl, rfl, c⟩)⟩
 ·refine bsel_of (fun c => by simp at c) fun _ => ⟨by simp, rfl⟩
abbrev ET := Edge × Tal × AV
def etF (y : ET) : List AV := [.str y.1.1, .str y.1.2, .int .u64 y.2.1.a.1, .int .u64 y.2.1.a.2, .int .u64 y.2.1.b.1, .int .u64 y.2.1.b.2, .int .u64 y.2.1.c.1, .int .u64 y.2.1.c.2, y.2.2]
def etE : Enc ET := ⟨etF, 9, by decide, fun _ => rfl⟩
theorem order_ok (x y : ET) (hx : ones (etF x) = true) (hy : ones (etF y) = true) (s : St) : CallsD P F.rollup_order [.agg (etF x), .agg (etF y)] s fun v _ => v = .int .i64 (cmpSS x.1 y.1) := by
 refine vc.rollup_order_ok ?_
 intro m1 s2 h2 m3 s4 h4 s5 hB
 have o1 := (h2.own.ext h4.fwd).ext hB.fwd
 have o3 := h4.own.ext hB.fwd
 refine ⟨_, o1.ld1 0 rfl, _, o3.ld1 0 rfl, (Compare_ok _ _ s5).mono ?_⟩
 rintro _ _ ⟨rfl, rfl⟩
 refine ⟨_, rfl, _, o1.ld1 1 rfl, o1.ld1 1 rfl, _, o3.ld1 1 rfl, o3.ld1 1 rfl, (Compare_ok _ _ _).mono ?_⟩
 rintro _ _ ⟨rfl, rfl⟩
 refine ⟨_, rfl, (Or_ok hsetS_own).mono ?_⟩
 rintro _ _ ⟨rfl, rfl⟩
 exact ⟨_, rfl, rfl⟩
end
end Go.Eng.S

