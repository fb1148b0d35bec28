/-
  What is put together: plain laws.
  What was put together is taken apart: plain laws.
  CallsBack comes to true.
  Tallies, as a row hands them in.
  CallsBack: the walk.
-/
import Derived.Test.YthjagnpghdcbcaaGreatDoorSPato2
import Derived.Test.YthjagnpghdcbcaaGreatDoorSPe
import Derived.Test.YthjagnpghdcbcaaGreatDoorSVe
import Derived.Test.YthjagnpghdcbcaaGreatDoorW13to14
namespace Go.Eng.S
open Go Go.Eng Go.Proofs
noncomputable section

theorem cnt_append : ∀ (l m : List Bar) (i : Nat), cnt (l ++ m) i = if has l i = true then cnt l i else cnt m i
  | [], _, _ => by simp [has]
  | p :: q, m, i => by
    simp only [List.cons_append, cnt, has, Bool.or_eq_true, beq_iff_eq]
    by_cases e : p.1.toNat = i
    · simp [e]
    · simp only [e, if_false, false_or]; exact cnt_append q m i
theorem has_append : ∀ (l m : List Bar) (i : Nat), has (l ++ m) i = (has l i || has m i)
  | [], _, _ => by simp [has]
  | p :: q, m, i => by simp only [List.cons_append, has, has_append q m i, Bool.or_assoc]
theorem has_barsTo (r : RowF) : ∀ (n i : Nat), has (barsTo r n) i = (decide (i < n) && decide (r i > 0))
  | 0, i => by simp [barsTo, has]
  | n + 1, i => by
    simp only [barsTo, has_append, has_barsTo r n i]
    by_cases h : r n > 0
    · rw [if_pos h]
      simp only [has, Int.toNat_natCast, Bool.or_false]
      by_cases e : n = i
      · subst e; simp [h]
      · rw [Bool.eq_iff_iff]; simp [e]; omega
    · rw [if_neg h]
      simp only [has, Bool.or_false]
      by_cases e : n = i
      · subst e; simp [h]
      · rw [Bool.eq_iff_iff]; simp; omega
theorem cnt_barsTo (r : RowF) : ∀ (n i : Nat), cnt (barsTo r n) i = if i < n ∧ r i > 0 then r i else 0
  | 0, i => by simp [barsTo, cnt]
  | n + 1, i => by
    simp only [barsTo, cnt_append, has_barsTo, cnt_barsTo r n i]
    have tail : n ≠ i → cnt (if r n > 0 then [((n : Int), r n)] else []) i = 0 := by
      intro e
      by_cases h : r n > 0
      · rw [if_pos h]; simp only [cnt, Int.toNat_natCast]; rw [if_neg e]
      · rw [if_neg h]; rfl
    by_cases h1 : i < n
    · rw [tail (by omega)]
      by_cases h2 : r i > 0
      · simp [h1, h2]; omega
      · simp [h1, h2]
    · simp only [h1, decide_false, Bool.false_and, Bool.false_eq_true, if_false]
      by_cases e : n = i
      · subst e
        by_cases h2 : r n > 0
        · simp [h2, cnt]
        · simp [h2, cnt]
      · rw [tail e, if_neg (by omega)]
theorem cnt_barsOf {r : RowF} (hr : RngR r) {i : Nat} (h : i < 1920) : cnt (barsOf r) i = r i := by
  unfold barsOf
  rw [cnt_barsTo]
  have := hr i
  split
  · rfl
  · omega
theorem cnt_high {l : List Bar} (h : okB (-1) l = true) {i : Nat} (hi : 1920 ≤ i) : cnt l i = 0 := by
  refine cnt_none ?_
  have : ∀ (l : List Bar), (∀ p, p ∈ l → p.1 < 1920) → has l i = false := by
    intro l
    induction l with
    | nil => intro _; rfl
    | cons p q ih =>
      intro h
      have h1 := h p (List.mem_cons_self ..)
      simp only [has, Bool.or_eq_false_iff, beq_eq_false_iff_ne]
      exact ⟨by omega, ih fun x hx => h x (List.mem_cons_of_mem _ hx)⟩
  exact this l fun p hp => (okB_mem h p hp).2.1
theorem mem_barsTo {r : RowF} {i : Nat} (h : r i > 0) : ∀ {n : Nat}, i < n → ((i : Int), r i) ∈ barsTo r n
  | 0, hi => by omega
  | n + 1, hi => by
    simp only [barsTo, List.mem_append]
    by_cases e : i = n
    · subst e; right; rw [if_pos h]; simp
    · left; exact mem_barsTo h (by omega)

theorem RngR.sat2 {a b : RowF} (ha : RngR a) (hb : RngR b) : RngR fun i => sat (a i) (b i) := fun i => sat_rng (ha i) (hb i)
theorem mergeB_ok {a b : List Bar} : okB (-1) (mergeB a b) = true := barsOf_ok _
theorem mergeB_rng {a b : List Bar} (ra : RngB a) (rb : RngB b) : RngB (mergeB a b) := barsOf_rng (.add (.fill .zero ra) rb)
theorem cnt_merge {a b : List Bar} (ha : okB (-1) a = true) (hb : okB (-1) b = true) (ra : RngB a) (rb : RngB b) (i : Nat) : cnt (mergeB a b) i = sat (cnt a i) (cnt b i) := by
  by_cases h : i < 1920
  · rw [mergeB_eq ha hb ra rb, cnt_barsOf (.sat2 (cnt_rng ra) (cnt_rng rb)) h]
  · rw [cnt_high mergeB_ok (by omega), cnt_high ha (by omega), cnt_high hb (by omega)]; rfl

theorem merge_high {a b : List Bar} (ha : okB (-1) a = true) (hb : okB (-1) b = true) (ra : RngB a) (rb : RngB b) (hm : ∀ p, p ∈ mergeB a b → p.2 ≠ M64) (i : Nat) : cnt a i + cnt b i < M64 := by
  have h1 := cnt_rng ra i
  have h2 := cnt_rng rb i
  by_cases h : i < 1920
  · rcases Int.lt_or_le (cnt a i + cnt b i) M64 with g | g
    · exact g
    · exfalso
      have hs : sat (cnt a i) (cnt b i) = M64 := by unfold sat; split <;> omega
      have hmem : ((i : Int), sat (cnt a i) (cnt b i)) ∈ mergeB a b := by
        rw [mergeB_eq ha hb ra rb]
        exact mem_barsTo (r := fun i => sat (cnt a i) (cnt b i)) (by rw [hs]; unfold M64; omega) h
      exact hm _ hmem hs
  · rw [cnt_high ha (by omega), cnt_high hb (by omega)]; unfold M64; omega

theorem Tal.Rng.plus {t u : Tal} (ht : t.Rng) (hu : u.Rng) : (t.plus u).Rng := ⟨ht.a.plus hu.a, ht.b.plus hu.b, ht.c.plus hu.c, mergeB_rng ht.l hu.l⟩
end
end Go.Eng.S

namespace Go.Eng.S
open Go Go.Eng Go.Proofs
noncomputable section
theorem subR_eq : ∀ {l : List Bar} {r : RowF} {last : Int}, -1 ≤ last → okB last l = true → (∀ i, cnt l i ≤ r i) → ∃ r', subR r l = some r' ∧ ∀ i, r' i = r i - cnt l i
  | [], r, _, _, _, _ => ⟨r, rfl, fun i => by simp [cnt]⟩
  | p :: q, r, last, h0, h, hle => by
    simp only [okB, Bool.and_eq_true, decide_eq_true_eq] at h
    obtain ⟨⟨⟨h1, h2⟩, h3⟩, h4⟩ := h
    have hp := hle p.1.toNat
    simp only [cnt, if_true] at hp
    have hn := cnt_none (has_below (l := q) (last := p.1) (i := p.1.toNat) (by omega) h4 (by omega))
    obtain ⟨r', e1, e2⟩ := subR_eq (l := q) (r := upd r p.1.toNat (r p.1.toNat - p.2)) (last := p.1) (by omega) h4 (fun i => by
      by_cases e : i = p.1.toNat
      · subst e; rw [hn]; simp [upd]; omega
      · have := hle i
        simp only [cnt, Ne.symm e, if_false] at this
        simp [upd, e]; exact this)
    refine ⟨r', by simp only [subR]; rw [if_neg (by omega)]; exact e1, fun i => ?_⟩
    rw [e2]
    by_cases e : i = p.1.toNat
    · subst e; simp [upd, cnt, hn]
    · simp [upd, cnt, e, Ne.symm e]

theorem less_merge {a b : List Bar} (ha : okB (-1) a = true) (hb : okB (-1) b = true) (ra : RngB a) (rb : RngB b) (hm : ∀ p, p ∈ mergeB a b → p.2 ≠ M64) : lessB (mergeB a b) b = some a := by
  have hc : ∀ i, fillR zeroR (mergeB a b) i = cnt a i + cnt b i := by
    intro i
    rw [fill_zero mergeB_ok, cnt_merge ha hb ra rb]
    have := merge_high ha hb ra rb hm i
    unfold sat; rw [if_pos (by omega)]
  obtain ⟨r', e1, e2⟩ := subR_eq (r := fillR zeroR (mergeB a b)) (by omega : (-1 : Int) ≤ -1) hb (fun i => by rw [hc]; have := cnt_rng ra i; omega)
  unfold lessB
  rw [e1]
  simp only [Option.map_some]
  have : barsOf r' = barsOf (cnt a) := barsTo_congr fun i _ => by rw [e2, hc]; omega
  rw [this, barsOf_cnt ha ra]

theorem most_none {t : Tal} (h : mostT t = false) : (∀ p, p ∈ t.l → p.2 ≠ M64) ∧ t.a ≠ (M64, M64) ∧ t.b ≠ (M64, M64) ∧ t.c ≠ (M64, M64) := by
  unfold mostT at h
  simp only [Bool.or_eq_false_iff, List.any_eq_false, beq_iff_eq, beq_eq_false_iff_ne] at h
  exact ⟨h.1.1.1, h.1.1.2, h.1.2, h.2⟩
theorem of2_max : of2 M128 = (M64, M64) := by decide
theorem plus_minus {t u : Tal} (ht : t.Rng) (hu : u.Rng) (ot : t.ok = true) (ou : u.ok = true) (hm : mostT (t.plus u) = false) : (t.plus u).minus u = some t := by
  obtain ⟨h1, h2, h3, h4⟩ := most_none hm
  unfold Tal.minus
  rw [if_pos ⟨plus_ge ht.a hu.a, plus_ge ht.b hu.b, plus_ge ht.c hu.c⟩]
  have hl : lessB (t.plus u).l u.l = some t.l := less_merge ot ou ht.l hu.l h1
  rw [hl]
  simp only [Option.map_some, Tal.plus]
  rw [minus_plus ht.a hu.a (by rw [of2_max]; exact h2), minus_plus ht.b hu.b (by rw [of2_max]; exact h3), minus_plus ht.c hu.c (by rw [of2_max]; exact h4)]

/-- One more in the first number: more than there is. -/
theorem minus_more {t u : Tal} (h : val2 t.a < val2 u.a) : t.minus u = none := by
  unfold Tal.minus
  rw [if_neg]
  unfold leP
  simp; omega
end
end Go.Eng.S

namespace Go.Eng.S
open Go Go.Eng Go.Proofs
noncomputable section
attribute [local irreducible] bsel barsOf mergeB lessB mostT

/-- One more. -/
def inc2 (p : P2) : P2 := if (p.2 + 1) % 18446744073709551616 = 0 then ((p.1 + 1) % 18446744073709551616, 0) else (p.1, (p.2 + 1) % 18446744073709551616)
theorem wrapu (a : Int) : IntKind.wrap .u64 a = a % 18446744073709551616 := by
  simp [IntKind.wrap, IntKind.bits, IntKind.signed]

theorem inc_more {p : P2} (h : Rng2 p) (hm : p ≠ (M64, M64)) : val2 p < val2 (inc2 p) ∧ Rng2 (inc2 p) := by
  obtain ⟨a, b⟩ := p
  obtain ⟨⟨h1, h2⟩, h3, h4⟩ := h
  have hm : ¬(a = M64 ∧ b = M64) := by simpa using hm
  unfold M64 at *
  simp only at *
  unfold inc2 val2 Rng2 M64
  simp only
  split <;> simp only <;> omega

set_option maxRecDepth 100000 in
theorem CallsBack_ok {s : St} {t u : Tal} {x y : AV} (hx : Sl barE s x t.l) (hy : Sl barE s y u.l) (ht : t.Rng) (hu : u.Rng) :
    CallsA P F.spoorlaw14_CallsBack [t.V x, u.V y] s fun v s' => v = .bool true ∧ Frw [] s s' := by
  refine vc.spoorlaw14_CallsBack_ok ?_
  intro m1 s2 h2 m3 s4 h4
  have f4 : Frw [] s s4 := h2.fwd.trans h4.fwd
  have o1 := h2.own.ext h4.fwd
  have o3 := h4.own
  refine (shown_ok s4).mono ?_
  rintro _ s6 ⟨rfl, rfl⟩
  refine ⟨true, rfl, _, _, _, _, _, _, _, o1.all rfl, (may_ok (hx.ext f4) ht.l).mono ?_⟩
  rintro _ s16 ⟨⟨rfl, g16⟩, _⟩
  have o1 := o1.ext g16
  have o3 := o3.ext g16
  have f16 := f4.trans g16
  refine ⟨_, rfl, _, _, _, _, _, _, _, o3.all rfl, (may_ok (hy.ext f16) hu.l).mono ?_⟩
  rintro _ s26 ⟨⟨rfl, g26⟩, _⟩
  have o1 := o1.ext g26
  have o3 := o3.ext g26
  have f26 := f16.trans g26
  refine ⟨_, rfl, bsel_of (fun c => by simp at c) fun _ => bsel_of (fun _ => ⟨rfl, f26⟩) fun ct => bsel_of (fun _ => ⟨rfl, f26⟩) fun cu => ?_⟩
  have ct : t.ok = true := by simpa using ct
  have cu : u.ok = true := by simpa using cu
  refine ⟨_, _, _, _, _, _, _, o1.all rfl, _, _, _, _, _, _, _, o3.all rfl, (Plus_ok (hx.ext f26) (hy.ext f26) ht hu).mono ?_⟩
  rintro v s43 ⟨⟨hv, g43⟩, _⟩
  rw [if_pos ⟨ct, cu⟩] at hv
  obtain ⟨z, rfl, hz, hg⟩ := hv
  have o1 := o1.ext g43
  have o3 := o3.ext g43
  have f43 := f26.trans g43
  have hs := ht.plus hu
  have os : (t.plus u).ok = true := mergeB_ok
  refine ⟨_, _, _, _, _, _, z, 0, rfl, ?_⟩
  intro m52 s53 h53
  obtain ⟨s54, w1, o52, g54, _⟩ := h53.put ((t.plus u).C z) (hz.onesx []) rfl
  have o1 := o1.ext g54
  have o3 := o3.ext g54
  have f54 := f43.trans g54
  have hz := hz.ext g54
  refine ⟨s54, w1, _, _, _, _, _, _, _, o52.all rfl, (most_ok hz (.of os)).mono ?_⟩
  rintro _ s63 ⟨⟨rfl, g63⟩, _⟩
  have o1 := o1.ext g63
  have o3 := o3.ext g63
  have o52 := o52.ext g63
  have f63 := f54.trans g63
  have hz := hz.ext g63
  refine ⟨_, rfl, bsel_of (fun c => by simp at c) fun _ => bsel_of (fun _ => ⟨rfl, f63⟩) fun cm => ?_⟩
  refine ⟨_, _, _, _, _, _, _, o52.all rfl, _, _, _, _, _, _, _, o3.all rfl, (Minus_ok hz (hy.ext f63) hs hu).mono ?_⟩
  rintro v s80 ⟨⟨hv, g80⟩, _⟩
  rw [if_pos ⟨os, cu⟩, plus_minus ht hu ct cu cm] at hv
  obtain ⟨z2, rfl, hz2, hg2⟩ := hv
  have o1 := o1.ext g80
  have o3 := o3.ext g80
  have o52 := o52.ext g80
  have f80 := f63.trans g80
  have hz := hz.ext g80
  refine ⟨_, _, _, _, _, _, z2, 0, rfl, ?_⟩
  intro m89 s90 h90
  obtain ⟨s91, w2, o89, g91, _⟩ := h90.put (t.C z2) (hz2.onesx []) rfl
  have o1 := o1.ext g91
  have o52 := o52.ext g91
  have f91 := f80.trans g91
  have hz := hz.ext g91
  have hz2 := hz2.ext g91
  refine ⟨s91, w2, _, _, _, _, _, _, _, o89.all rfl, _, _, _, _, _, _, _, o1.all rfl, (sameTally_ok hz2 (hx.ext f91) (.of ct)).mono ?_⟩
  rintro _ s107 ⟨⟨⟨c108, rfl, hc⟩, g107⟩, _⟩
  have hc := hc.2 rfl
  subst hc
  have o52 := o52.ext g107
  have f107 := f91.trans g107
  have hz := hz.ext g107
  refine ⟨_, rfl, _, _, _, _, _, _, _, o52.all rfl, ?_⟩
  intro m116 s117 h117
  obtain ⟨s118, w3, o116, g118, fr118⟩ := h117.put ((t.plus u).C z) (hz.onesx []) rfl
  have f118 := f107.trans g118
  have hz107 := hz
  have hz := hz107.ext g118
  have hb : m52 ≠ m116 := h117.ne o52.there
  have o52 := o52.ext g118
  have g116 : s.h.get m116 = none := f107.none h117.gone (by simp)
  obtain ⟨cm1, cm2, _⟩ := most_none cm
  obtain ⟨hlt, hr2⟩ := inc_more hs.a cm2
  let w : Tal := { t.plus u with a := inc2 (t.plus u).a }
  have hw : w.Rng := ⟨hr2, hs.b, hs.c, hs.l⟩
  have hno : (t.plus u).minus w = none := minus_more hlt
  have last : ∀ {s' : St}, Sl barE s' z (t.plus u).l → CallsA P F.calls_Minus [(t.plus u).V z, w.V z] s' fun v s'' => (v = .tuple [Tal.zero.V .nilslice, .int .i64 141] ∧ Frw [] s' s'') ∧ Fr s'' := by
    intro s' h
    refine (Minus_ok h (u := w) h hs hw).mono ?_
    rintro v s'' ⟨⟨hv, g⟩, hf⟩
    rw [if_pos ⟨os, os⟩, hno] at hv
    exact ⟨⟨hv, g⟩, hf⟩
  obtain ⟨s120, w4, o116b, g120, _, _, _⟩ := o116.wrN 1 [.int .u64 (IntKind.wrap .u64 ((t.plus u).a.2 + 1))] rfl (by simp [Tal.C])
  have o52b := o52.fwd g120 (by simpa using hb)
  have f120 : Frw [] s s120 := f118.step g120 (by simpa using g116)
  have hz120 : Sl barE s120 z (t.plus u).l := hz.new hz107 h117.gone g120
  -- the end
  have fin : ∀ {s'' : St} {m : Nat}, Own s'' m (Tal.zero.C .nilslice) → Frw [] s s'' →
      bsel ((0 : Int) == 0) (bsel true (bsel ((141 : Int) == 141) (∃ n1 n2, ldN s'' (.ptr m 0) 2 = some [.int .u64 n1, .int .u64 n2] ∧
        bsel (if (true = true) then ((n1 == 0) && ((n2 == 0) && true)) else (! ((n1 == 0) && ((n2 == 0) && true))))
          (∃ x, ld1 s'' (.ptr m 6) = some x ∧ slenK x fun n => AV.bool (((n : Nat) : Int) == 0) = .bool true ∧ Frw [] s s'') (AV.bool false = .bool true ∧ Frw [] s s''))
          (AV.bool false = .bool true ∧ Frw [] s s'')) (AV.bool false = .bool true ∧ Frw [] s s'')) (AV.bool false = .bool true ∧ Frw [] s s'') := by
    intro s'' m o f
    refine bsel_of (fun _ => bsel_of (fun _ => bsel_of (fun _ => ⟨_, _, o.ldN 0 2 (by simp [Tal.C]), bsel_of (fun _ => ⟨_, o.ld1 6 rfl, rfl, f⟩) fun c => ?_⟩) fun c => ?_) fun c => ?_) fun c => ?_
    · exact absurd c (by decide)
    · exact absurd c (by decide)
    · exact absurd c (by decide)
    · exact absurd c (by decide)
  refine ⟨s118, w3, _, o116.ld1 1 rfl, s120, w4, _, o116b.ld1 1 rfl, bsel_of (fun c => ?_) fun c => ?_⟩
  · obtain ⟨s123, w5, o116c, g123, _, _, _⟩ := o116b.wrN 0 [.int .u64 (IntKind.wrap .u64 ((t.plus u).a.1 + 1))] rfl (by simp [Tal.C, splice])
    have o116d : Own s123 m116 (w.C z) := by
      refine o116c.val ?_
      have c : (IntKind.wrap .u64 ((t.plus u).a.2 + 1)) = 0 := by simpa using c
      have e : w.a = (IntKind.wrap .u64 ((t.plus u).a.1 + 1), 0) := by
        show inc2 _ = _
        rw [wrapu] at c ⊢
        unfold inc2
        rw [if_pos c]
      rw [c]
      show [_, _, _, _, _, _, _] = [_, _, _, _, _, _, _]
      rw [e]
    refine ⟨_, o116b.ld1 0 rfl, s123, w5, _, _, _, _, _, _, _, (o52b.fwd g123 (by simpa using hb)).all rfl, _, _, _, _, _, _, _, o116d.all rfl, (last (hz120.new hz107 h117.gone g123)).mono ?_⟩
    rintro _ s139 ⟨⟨rfl, g139⟩, _⟩
    refine ⟨_, _, _, _, _, _, _, _, rfl, ?_⟩
    intro m148 s149 h149
    obtain ⟨s150, w6, o148, g150, _⟩ := h149.put (Tal.zero.C .nilslice) rfl rfl
    exact ⟨s150, w6, fin o148 (((f120.step g123 (by simpa using g116)).trans g139).trans g150)⟩
  · have o116d : Own s120 m116 (w.C z) := by
      refine o116b.val ?_
      have c : ¬ (IntKind.wrap .u64 ((t.plus u).a.2 + 1)) = 0 := by simpa using c
      have e : w.a = ((t.plus u).a.1, IntKind.wrap .u64 ((t.plus u).a.2 + 1)) := by
        show inc2 _ = _
        rw [wrapu] at c ⊢
        unfold inc2
        rw [if_neg c]
      show [_, _, _, _, _, _, _] = [_, _, _, _, _, _, _]
      rw [e]
    refine ⟨_, _, _, _, _, _, _, o52b.all rfl, _, _, _, _, _, _, _, o116d.all rfl, (last hz120).mono ?_⟩
    rintro _ s139 ⟨⟨rfl, g139⟩, _⟩
    refine ⟨_, _, _, _, _, _, _, _, rfl, ?_⟩
    intro m148 s149 h149
    obtain ⟨s150, w6, o148, g150, _⟩ := h149.put (Tal.zero.C .nilslice) rfl rfl
    exact ⟨s150, w6, fin o148 ((f120.trans g139).trans g150)⟩
end
end Go.Eng.S

namespace Go.Eng.S
open Go Go.Eng Go.Proofs
set_option linter.constructorNameAsVariable false
noncomputable section

theorem bars_read {H : Type} {enc : TypeId × Value → H} {w : World} {base : Nat} {held : Bool} {fuel : Nat} {v : Value} {x : DataW H × List MemPlace} (h : DataW.trod enc P w base (fun _ => true) held fuel T.sl_api_Bar [v] = some x) :
    ∃ (a : AV) (l : List Bar), absV w.heap.size v = some a ∧ Sl barE (stW w) a l ∧ RngB l ∧ l.length ≤ maxLen := by
  refine slice_read barE RngP h Tryz.underlying29 (by kernel_rfl) fun n cs y hy hl => ?_
  obtain ⟨a, b, rfl, wa, wb⟩ := pair_read hy Tryz.underlying43 rfl rfl rfl rfl Tryz.underlying3 Tryz.underlying24 (by kernel_rfl) (by kernel_rfl) (by kernel_rfl)
  have h1 := bounds_i64 wa
  have h2 := bounds_u64 wb
  refine ⟨(a, b), ⟨h1.1, by omega, h2.1, h2.2⟩, fun j hj => ?_⟩
  match j, hj with
  | 0, _ => exact ⟨_, _, rfl, rfl, rfl⟩
  | 1, _ => exact ⟨_, _, rfl, rfl, rfl⟩

set_option maxRecDepth 100000 in
theorem tal_read {H : Type} {enc : TypeId × Value → H} {w : World} {base : Nat} {held : Bool} {v : Value} {d : DataW H} {p : List MemPlace} {r : Reach} {b0 : Nat} (hval : Value.okWide P w r b0 T.api_Tally v) (h : DataW.Trod enc P w base (fun _ => true) held T.api_Tally v d p) :
    ∃ (x : AV) (t : Tal), VR (phiW w) (t.V x) v ∧ Sl barE (stW w) x t.l ∧ t.Rng ∧ t.l.length ≤ maxLen := by
  simp only [Value.okWide, show P.underlying T.api_Tally = some _ from Tryz.underlying31] at hval
  obtain ⟨cs, rfl, hsz, _⟩ := hval
  obtain ⟨fuel, h⟩ := h
  obtain ⟨xs, n, _, _, hl, hx, hf⟩ := DataW.trod_struct Tryz.underlying31 h
  rw [show P.cellsOf T.api_Tally = 7 by kernel_rfl] at hl
  have hl : cs.toList.length = 7 := hl
  have hf' := fun i f (hf0 : _) => hf i f hf0
  change xs.length = 4 at hx
  have g0 := hf' 0 _ rfl
  have g1 := hf' 1 _ rfl
  have g2 := hf' 2 _ rfl
  have g3 := hf' 3 _ rfl
  rw [List.getElem?_eq_getElem (by omega)] at g0 g1 g2 g3
  have pr : ∀ {n : Nat} {cs : List Value} {y : DataW H × List MemPlace}, DataW.trod enc P w base (fun _ => true) held n T.api_Nat cs = some y → ∃ a b, cs = [.int .u64 a, .int .u64 b] ∧ Rng2 (a, b) := by
    intro n cs y hy
    obtain ⟨a, b, rfl, wa, wb⟩ := pair_read hy Tryz.underlying28 rfl rfl rfl rfl Tryz.underlying24 Tryz.underlying24 (by kernel_rfl) (by kernel_rfl) (by kernel_rfl)
    exact ⟨a, b, rfl, bounds_u64 wa, bounds_u64 wb⟩
  obtain ⟨a1, a2, e0, r0⟩ := pr g0
  obtain ⟨b1, b2, e1, r1⟩ := pr g1
  obtain ⟨c1, c2, e2, r2⟩ := pr g2
  obtain ⟨v0, v1, v2, v3, v4, v5, v6, hc⟩ : ∃ v0 v1 v2 v3 v4 v5 v6, cs.toList = [v0, v1, v2, v3, v4, v5, v6] := by
    match cs.toList, hl with
    | [v0, v1, v2, v3, v4, v5, v6], _ => exact ⟨v0, v1, v2, v3, v4, v5, v6, rfl⟩
  have hcs : (Value.agg cs).cells.toList = [v0, v1, v2, v3, v4, v5, v6] := hc
  rw [hcs] at e0 e1 e2 g3
  change List.take (P.cellsOf T.api_Nat) (List.drop 0 [v0, v1, v2, v3, v4, v5, v6]) = _ at e0
  change List.take (P.cellsOf T.api_Nat) (List.drop 2 [v0, v1, v2, v3, v4, v5, v6]) = _ at e1
  change List.take (P.cellsOf T.api_Nat) (List.drop 4 [v0, v1, v2, v3, v4, v5, v6]) = _ at e2
  change DataW.trod enc P w base (fun _ => true) held n T.sl_api_Bar (List.take (P.cellsOf T.sl_api_Bar) (List.drop 6 [v0, v1, v2, v3, v4, v5, v6])) = _ at g3
  rw [show P.cellsOf T.api_Nat = 2 by kernel_rfl] at e0 e1 e2
  rw [show P.cellsOf T.sl_api_Bar = 1 by kernel_rfl] at g3
  simp at e0 e1 e2
  obtain ⟨rfl, rfl⟩ := e0
  obtain ⟨rfl, rfl⟩ := e1
  obtain ⟨rfl, rfl⟩ := e2
  obtain ⟨x, l, q1, q2, q3, q4⟩ := bars_read (v := v6) g3
  refine ⟨x, ⟨(a1, a2), (b1, b2), (c1, c2), l⟩, ?_, q2, ⟨r0, r1, r2, q3⟩, q4⟩
  have : cs = ([.int .u64 a1, .int .u64 a2, .int .u64 b1, .int .u64 b2, .int .u64 c1, .int .u64 c2, v6] : List Value).toArray := by rw [← hc]
  rw [this]
  exact .agg (.cons (.int _ _) (.cons (.int _ _) (.cons (.int _ _) (.cons (.int _ _) (.cons (.int _ _) (.cons (.int _ _) (.cons (absV_ok q1) .nil)))))))

end
end Go.Eng.S

namespace Go.Eng.S
open Go Go.Eng Go.Proofs
set_option linter.constructorNameAsVariable false
noncomputable section
set_option maxRecDepth 100000 in
/-- The walk. -/
theorem CallsBack_walk {H : Type} {enc : TypeId × Value → H} {w : World} {base b0 : Nat} {held : Bool} {r : Reach} {v1 v2 : Value} {d1 d2 : DataW H} {p1 p2 : List MemPlace} (hv1 : Value.okWide P w r b0 T.api_Tally v1) (h1 : DataW.Trod enc P w base (fun _ => true) held T.api_Tally v1 d1 p1)
    (hv2 : Value.okWide P w r b0 T.api_Tally v2) (h2 : DataW.Trod enc P w base (fun _ => true) held T.api_Tally v2 d2 p2) :
    Calls P F.spoorlaw14_CallsBack #[v1, v2] w fun e w' => e = .returned (.bool true) ∧ Kept w w' := by
  obtain ⟨x, t, q1, q2, q3, _⟩ := tal_read hv1 h1
  obtain ⟨y, u, g1, g2, g3, _⟩ := tal_read hv2 h2
  exact CallsA.top ((CallsBack_ok q2 g2 q3 g3).mono fun v s' h => h.1) (.cons q1 (.cons g1 .nil))
end
end Go.Eng.S

