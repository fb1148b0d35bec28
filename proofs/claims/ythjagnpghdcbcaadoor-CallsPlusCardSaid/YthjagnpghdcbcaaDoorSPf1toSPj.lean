/-
  What is put together: plain laws.
  Sums do not hang on the order, nor on which two are put together first: plain laws, and CallsPlus.
  Tallies, as a row hands them in.
  CallsPlus: the walk.
-/
import Derived.Test.YthjagnpghdcbcaaDoorSPato1
import Derived.Test.YthjagnpghdcbcaaDoorSPe
import Derived.Test.YthjagnpghdcbcaaDoorSVf
import Derived.Test.YthjagnpghdcbcaaDoorW13to14
namespace Go.Eng.S
open Go Go.Eng Go.Proofs
noncomputable section

theorem cnt_append : ∀ (l m : List Bar) (i : Nat), cnt (l ++ m) i = if has l i = true then cnt l i else cnt m i
  | [], _, _ => by simp [has]
  | p :: q, m, i => by
    simp only [List.cons_append, cnt, has, Bool.or_eq_true, beq_iff_eq]
    by_cases e : p.1.toNat = i
    · simp [e]
    · simp only [e, if_false, false_or]; exact cnt_append q m i
theorem has_append : ∀ (l m : List Bar) (i : Nat), has (l ++ m) i = (has l i || has m i)
  | [], _, _ => by simp [has]
  | p :: q, m, i => by simp only [List.cons_append, has, has_append q m i, Bool.or_assoc]
theorem has_barsTo (r : RowF) : ∀ (n i : Nat), has (barsTo r n) i = (decide (i < n) && decide (r i > 0))
  | 0, i => by simp [barsTo, has]
  | n + 1, i => by
    simp only [barsTo, has_append, has_barsTo r n i]
    by_cases h : r n > 0
    · rw [if_pos h]
      simp only [has, Int.toNat_natCast, Bool.or_false]
      by_cases e : n = i
      · subst e; simp [h]
      · rw [Bool.eq_iff_iff]; simp [e]; omega
    · rw [if_neg h]
      simp only [has, Bool.or_false]
      by_cases e : n = i
      · subst e; simp [h]
      · rw [Bool.eq_iff_iff]; simp; omega
theorem cnt_barsTo (r : RowF) : ∀ (n i : Nat), cnt (barsTo r n) i = if i < n ∧ r i > 0 then r i else 0
  | 0, i => by simp [barsTo, cnt]
  | n + 1, i => by
    simp only [barsTo, cnt_append, has_barsTo, cnt_barsTo r n i]
    have tail : n ≠ i → cnt (if r n > 0 then [((n : Int), r n)] else []) i = 0 := by
      intro e
      by_cases h : r n > 0
      · rw [if_pos h]; simp only [cnt, Int.toNat_natCast]; rw [if_neg e]
      · rw [if_neg h]; rfl
    by_cases h1 : i < n
    · rw [tail (by omega)]
      by_cases h2 : r i > 0
      · simp [h1, h2]; omega
      · simp [h1, h2]
    · simp only [h1, decide_false, Bool.false_and, Bool.false_eq_true, if_false]
      by_cases e : n = i
      · subst e
        by_cases h2 : r n > 0
        · simp [h2, cnt]
        · simp [h2, cnt]
      · rw [tail e, if_neg (by omega)]
theorem cnt_barsOf {r : RowF} (hr : RngR r) {i : Nat} (h : i < 1920) : cnt (barsOf r) i = r i := by
  unfold barsOf
  rw [cnt_barsTo]
  have := hr i
  split
  · rfl
  · omega
theorem cnt_high {l : List Bar} (h : okB (-1) l = true) {i : Nat} (hi : 1920 ≤ i) : cnt l i = 0 := by
  refine cnt_none ?_
  have : ∀ (l : List Bar), (∀ p, p ∈ l → p.1 < 1920) → has l i = false := by
    intro l
    induction l with
    | nil => intro _; rfl
    | cons p q ih =>
      intro h
      have h1 := h p (List.mem_cons_self ..)
      simp only [has, Bool.or_eq_false_iff, beq_eq_false_iff_ne]
      exact ⟨by omega, ih fun x hx => h x (List.mem_cons_of_mem _ hx)⟩
  exact this l fun p hp => (okB_mem h p hp).2.1
theorem mem_barsTo {r : RowF} {i : Nat} (h : r i > 0) : ∀ {n : Nat}, i < n → ((i : Int), r i) ∈ barsTo r n
  | 0, hi => by omega
  | n + 1, hi => by
    simp only [barsTo, List.mem_append]
    by_cases e : i = n
    · subst e; right; rw [if_pos h]; simp
    · left; exact mem_barsTo h (by omega)

theorem RngR.sat2 {a b : RowF} (ha : RngR a) (hb : RngR b) : RngR fun i => sat (a i) (b i) := fun i => sat_rng (ha i) (hb i)
theorem mergeB_ok {a b : List Bar} : okB (-1) (mergeB a b) = true := barsOf_ok _
theorem mergeB_rng {a b : List Bar} (ra : RngB a) (rb : RngB b) : RngB (mergeB a b) := barsOf_rng (.add (.fill .zero ra) rb)
theorem cnt_merge {a b : List Bar} (ha : okB (-1) a = true) (hb : okB (-1) b = true) (ra : RngB a) (rb : RngB b) (i : Nat) : cnt (mergeB a b) i = sat (cnt a i) (cnt b i) := by
  by_cases h : i < 1920
  · rw [mergeB_eq ha hb ra rb, cnt_barsOf (.sat2 (cnt_rng ra) (cnt_rng rb)) h]
  · rw [cnt_high mergeB_ok (by omega), cnt_high ha (by omega), cnt_high hb (by omega)]; rfl

theorem merge_high {a b : List Bar} (ha : okB (-1) a = true) (hb : okB (-1) b = true) (ra : RngB a) (rb : RngB b) (hm : ∀ p, p ∈ mergeB a b → p.2 ≠ M64) (i : Nat) : cnt a i + cnt b i < M64 := by
  have h1 := cnt_rng ra i
  have h2 := cnt_rng rb i
  by_cases h : i < 1920
  · rcases Int.lt_or_le (cnt a i + cnt b i) M64 with g | g
    · exact g
    · exfalso
      have hs : sat (cnt a i) (cnt b i) = M64 := by unfold sat; split <;> omega
      have hmem : ((i : Int), sat (cnt a i) (cnt b i)) ∈ mergeB a b := by
        rw [mergeB_eq ha hb ra rb]
        exact mem_barsTo (r := fun i => sat (cnt a i) (cnt b i)) (by rw [hs]; unfold M64; omega) h
      exact hm _ hmem hs
  · rw [cnt_high ha (by omega), cnt_high hb (by omega)]; unfold M64; omega

theorem Tal.Rng.plus {t u : Tal} (ht : t.Rng) (hu : u.Rng) : (t.plus u).Rng := ⟨ht.a.plus hu.a, ht.b.plus hu.b, ht.c.plus hu.c, mergeB_rng ht.l hu.l⟩
end
end Go.Eng.S

namespace Go.Eng.S
open Go Go.Eng Go.Proofs
set_option linter.constructorNameAsVariable false
noncomputable section
attribute [local irreducible] bsel barsOf mergeB

theorem plusP_comm (a b : P2) : plusP a b = plusP b a := by unfold plusP; rw [Int.add_comm]
theorem val2_plusP {a b : P2} : val2 (plusP a b) = if val2 a + val2 b ≤ M128 then val2 a + val2 b else M128 := by unfold plusP; rw [val2_of2]
theorem plusP_assoc {a b c : P2} (ha : Rng2 a) (hb : Rng2 b) (hc : Rng2 c) : plusP (plusP a b) c = plusP a (plusP b c) := by
  have h1 := ha.val
  have h2 := hb.val
  have h3 := hc.val
  have e : ∀ x y : P2, plusP x y = of2 (if val2 x + val2 y ≤ M128 then val2 x + val2 y else M128) := fun _ _ => rfl
  rw [e (plusP a b) c, e a (plusP b c), val2_plusP, val2_plusP]
  congr 1
  split <;> split <;> (try split) <;> omega
theorem plusP_zero {a : P2} (ha : Rng2 a) : plusP a (0, 0) = a := by
  have h := ha.val
  unfold plusP
  have : val2 (0, 0) = 0 := rfl
  rw [this, if_pos (by omega), Int.add_zero, of2_val2 ha]

theorem mergeB_comm {a b : List Bar} (ha : okB (-1) a = true) (hb : okB (-1) b = true) (ra : RngB a) (rb : RngB b) : mergeB a b = mergeB b a := by
  rw [mergeB_eq ha hb ra rb, mergeB_eq hb ha rb ra]
  exact congrArg barsOf (funext fun i => sat_comm _ _)
theorem mergeB_assoc {a b c : List Bar} (ha : okB (-1) a = true) (hb : okB (-1) b = true) (hc : okB (-1) c = true) (ra : RngB a) (rb : RngB b) (rc : RngB c) : mergeB (mergeB a b) c = mergeB a (mergeB b c) := by
  rw [mergeB_eq mergeB_ok hc (mergeB_rng ra rb) rc, mergeB_eq ha mergeB_ok ra (mergeB_rng rb rc)]
  exact congrArg barsOf (funext fun i => by rw [cnt_merge ha hb ra rb, cnt_merge hb hc rb rc, sat_assoc (cnt_rng ra i).1 (cnt_rng rb i).1 (cnt_rng rc i).1])
theorem RngB.none : RngB [] := fun p hp => by simp at hp
theorem mergeB_zero {a : List Bar} (ha : okB (-1) a = true) (ra : RngB a) : mergeB a [] = a := by
  rw [mergeB_eq ha rfl ra .none]
  have : (fun i => sat (cnt a i) (cnt [] i)) = cnt a := funext fun i => sat_zero (cnt_rng ra i)
  rw [this, barsOf_cnt ha ra]

theorem Tal.zero_rng : Tal.zero.Rng := by
  have : Rng2 (0, 0) := by unfold Rng2 M64; simp
  exact ⟨this, this, this, .none⟩
theorem Tal.zero_ok : Tal.zero.ok = true := rfl
theorem Tal.plus_ok {t u : Tal} : (t.plus u).ok = true := mergeB_ok
theorem Tal.plus_comm {t u : Tal} (ht : t.Rng) (hu : u.Rng) (ot : t.ok = true) (ou : u.ok = true) : t.plus u = u.plus t := by
  unfold Tal.plus
  rw [plusP_comm t.a, plusP_comm t.b, plusP_comm t.c, mergeB_comm ot ou ht.l hu.l]
theorem Tal.plus_assoc {t u v : Tal} (ht : t.Rng) (hu : u.Rng) (hv : v.Rng) (ot : t.ok = true) (ou : u.ok = true) (ov : v.ok = true) : (t.plus u).plus v = t.plus (u.plus v) := by
  unfold Tal.plus
  rw [plusP_assoc ht.a hu.a hv.a, plusP_assoc ht.b hu.b hv.b, plusP_assoc ht.c hu.c hv.c, mergeB_assoc ot ou ov ht.l hu.l hv.l]
theorem Tal.plus_zero {t : Tal} (ht : t.Rng) (ot : t.ok = true) : t.plus .zero = t := by
  unfold Tal.plus Tal.zero
  rw [plusP_zero ht.a, plusP_zero ht.b, plusP_zero ht.c, mergeB_zero ot ht.l]
theorem Tal.zero_plus {t : Tal} (ht : t.Rng) (ot : t.ok = true) : Tal.zero.plus t = t := by rw [plus_comm zero_rng ht rfl ot, plus_zero ht ot]

/-- What a sum comes to. -/
def plusR (t u : Tal) : Tal × Int := if t.ok = true ∧ u.ok = true then (t.plus u, 0) else (.zero, 131)
theorem plusR_rng {t u : Tal} (ht : t.Rng) (hu : u.Rng) : (plusR t u).1.Rng := by
  unfold plusR
  split
  · exact ht.plus hu
  · exact Tal.zero_rng

/-- A sum, put into a block. -/
theorem Plus_put {s : St} {t u : Tal} {x y : AV} (hx : Sl barE s x t.l) (hy : Sl barE s y u.l) (ht : t.Rng) (hu : u.Rng) {K : Int → Int → Int → Int → Int → Int → AV → Int → Nat → St → Prop}
    (h : ∀ z m s3, Frw [] s s3 → Sl barE s3 z (plusR t u).1.l → Own s3 m ((plusR t u).1.C z) → K (plusR t u).1.a.1 (plusR t u).1.a.2 (plusR t u).1.b.1 (plusR t u).1.b.2 (plusR t u).1.c.1 (plusR t u).1.c.2 z (plusR t u).2 m s3) :
    CallsA P F.calls_Plus [t.V x, u.V y] s fun v s1 => ∃ (n1 n2 n3 n4 n5 n6 : Int) (x7 : AV) (e : Int), v = .tuple [.agg [.int .u64 n1, .int .u64 n2, .int .u64 n3, .int .u64 n4, .int .u64 n5, .int .u64 n6, x7], .int .i64 e] ∧
      ∀ m s2, NewO s1 (cellsO [.int .u64 0, .int .u64 0, .int .u64 0, .int .u64 0, .int .u64 0, .int .u64 0, .nilslice]) m s2 → ∃ s3, wrN s2 (.ptr m 0) [.int .u64 n1, .int .u64 n2, .int .u64 n3, .int .u64 n4, .int .u64 n5, .int .u64 n6, x7] = some s3 ∧ K n1 n2 n3 n4 n5 n6 x7 e m s3 := by
  refine (Plus_ok hx hy ht hu).mono ?_
  rintro v s1 ⟨⟨hv, g⟩, _⟩
  have hv : ∃ z, v = .tuple [(plusR t u).1.V z, .int .i64 (plusR t u).2] ∧ Sl barE s1 z (plusR t u).1.l := by
    unfold plusR
    by_cases c : t.ok = true ∧ u.ok = true
    · rw [if_pos c] at hv ⊢
      obtain ⟨z, e, hz, _⟩ := hv
      exact ⟨z, e, hz⟩
    · rw [if_neg c] at hv ⊢
      exact ⟨_, hv, .nil _ _⟩
  obtain ⟨z, rfl, hz⟩ := hv
  refine ⟨_, _, _, _, _, _, z, _, rfl, fun m s2 hN => ?_⟩
  obtain ⟨s3, w1, o, g3, _⟩ := hN.put ((plusR t u).1.C z) (hz.onesx []) rfl
  exact ⟨s3, w1, h z m s3 (g.trans g3) (hz.ext g3) o⟩

set_option maxRecDepth 100000 in
theorem CallsPlus_ok {s : St} {t u v : Tal} {x y z : AV} (hx : Sl barE s x t.l) (hy : Sl barE s y u.l) (hz : Sl barE s z v.l) (ht : t.Rng) (hu : u.Rng) (hv : v.Rng) :
    CallsA P F.spoorlaw14_CallsPlus [t.V x, u.V y, v.V z] s fun r s' => r = .bool true := by
  refine vc.spoorlaw14_CallsPlus_ok ?_
  intro m1 s2 h2 m3 s4 h4 m5 s6 h6
  have f6 : Frw [] s s6 := (h2.fwd.trans h4.fwd).trans h6.fwd
  have o1 : Own s6 m1 (t.C x) := (h2.own.ext h4.fwd).ext h6.fwd
  have o3 : Own s6 m3 (u.C y) := h4.own.ext h6.fwd
  have o5 : Own s6 m5 (v.C z) := h6.own
  have hx := hx.ext f6
  have hy := hy.ext f6
  have hz := hz.ext f6
  refine (shown_ok s6).mono ?_
  rintro _ s8 ⟨rfl, rfl⟩
  refine ⟨true, rfl, _, _, _, _, _, _, _, o1.all rfl, (may_ok hx ht.l).mono ?_⟩
  rintro _ s18 ⟨⟨rfl, g18⟩, _⟩
  refine ⟨_, rfl, _, _, _, _, _, _, _, (o3.ext g18).all rfl, (may_ok (hy.ext g18) hu.l).mono ?_⟩
  rintro _ s28 ⟨⟨rfl, g28⟩, _⟩
  have g28 := g18.trans g28
  refine ⟨_, rfl, _, _, _, _, _, _, _, (o5.ext g28).all rfl, (may_ok (hz.ext g28) hv.l).mono ?_⟩
  rintro _ s38 ⟨⟨rfl, g38⟩, _⟩
  have g38 := g28.trans g38
  refine ⟨_, rfl, _, _, _, _, _, _, _, (o1.ext g38).all rfl, _, _, _, _, _, _, _, (o3.ext g38).all rfl, Plus_put (hx.ext g38) (hy.ext g38) ht hu fun z1 m64 s66 g66 hz1 o64 => ?_⟩
  have g66 := g38.trans g66
  refine ⟨_, _, _, _, _, _, _, (o3.ext g66).all rfl, _, _, _, _, _, _, _, (o1.ext g66).all rfl, Plus_put (hy.ext g66) (hx.ext g66) hu ht fun z2 m91 s93 g93 hz2 o91 => ?_⟩
  have hz1 := hz1.ext g93
  have o64 := o64.ext g93
  have g93 := g66.trans g93
  refine bsel_of (fun c => by simp at c) fun _ => ?_
  have ee : (plusR t u).2 = (plusR u t).2 := by
    unfold plusR
    by_cases a : t.ok = true <;> by_cases b : u.ok = true <;> simp [a, b]
  refine bsel_of (fun ct => ?_) fun ct => ?_
  · refine bsel_of (fun c => ?_) fun _ => bsel_of (fun c => ?_) fun _ => bsel_of (fun c => rfl) fun _ => bsel_of (fun c => rfl) fun cu => bsel_of (fun c => rfl) fun cv => ?_
    · exfalso
      unfold plusR at c
      cases b : u.ok <;> simp [ct, b] at c
    · exfalso
      simp [ee] at c
    have cu : u.ok = true := by simpa using cu
    have cv : v.ok = true := by simpa using cv
    have e1 : plusR t u = (t.plus u, 0) := by unfold plusR; rw [if_pos ⟨ct, cu⟩]
    have e2 : plusR u t = (u.plus t, 0) := by unfold plusR; rw [if_pos ⟨cu, ct⟩]
    have hx := hx.ext g93
    have hy := hy.ext g93
    have hz := hz.ext g93
    have o1 := o1.ext g93
    have o3 := o3.ext g93
    have o5 := o5.ext g93
    refine ⟨_, _, _, _, _, _, _, o64.all rfl, _, _, _, _, _, _, _, o5.all rfl, Plus_put hz1 hz (plusR_rng ht hu) hv fun z3 m118 s120 g120 hz3 o118 => ?_⟩
    refine ⟨_, _, _, _, _, _, _, (o3.ext g120).all rfl, _, _, _, _, _, _, _, (o5.ext g120).all rfl, Plus_put (hy.ext g120) (hz.ext g120) hu hv fun z4 m145 s147 g147 hz4 o145 => ?_⟩
    have k147 := g120.trans g147
    refine ⟨_, _, _, _, _, _, _, (o1.ext k147).all rfl, _, _, _, _, _, _, _, o145.all rfl, Plus_put (hx.ext k147) hz4 ht (plusR_rng hu hv) fun z5 m172 s174 g174 hz5 o172 => ?_⟩
    have k174 := k147.trans g174
    refine ⟨_, _, _, _, _, _, _, (o1.ext k174).all rfl, Plus_put (u := Tal.zero) (y := .nilslice) (hx.ext k174) (.nil _ _) ht Tal.zero_rng fun z6 m192 s194 g194 hz6 o192 => ?_⟩
    have k194 := k174.trans g194
    refine ⟨_, _, _, _, _, _, _, (o1.ext k194).all rfl, Plus_put (t := Tal.zero) (x := .nilslice) (.nil _ _) (hx.ext k194) Tal.zero_rng ht fun z7 m212 s214 g214 hz7 o212 => ?_⟩
    have k214 := k194.trans g214
    have e3 : plusR (plusR t u).1 v = ((t.plus u).plus v, 0) := by rw [e1]; unfold plusR; rw [if_pos ⟨Tal.plus_ok, cv⟩]
    have e4 : plusR u v = (u.plus v, 0) := by unfold plusR; rw [if_pos ⟨cu, cv⟩]
    have e5 : plusR t (plusR u v).1 = (t.plus (u.plus v), 0) := by rw [e4]; unfold plusR; rw [if_pos ⟨ct, Tal.plus_ok⟩]
    have e6 : plusR t .zero = (t, 0) := by unfold plusR; rw [if_pos ⟨ct, Tal.zero_ok⟩, Tal.plus_zero ht ct]
    have e7 : plusR .zero t = (t, 0) := by unfold plusR; rw [if_pos ⟨Tal.zero_ok, ct⟩, Tal.zero_plus ht ct]
    -- all as it stood at the end
    have hz1 := hz1.ext k214
    have hz2 := hz2.ext k214
    have l174 := g194.trans g214
    have l147 := g174.trans l174
    have l120 := g147.trans l147
    have hz3 := hz3.ext l120
    have hz5 := hz5.ext l174
    have hz6 := hz6.ext g214
    have hx := hx.ext k214
    have o64 := o64.ext k214
    have o91 := o91.ext k214
    have o118 := o118.ext l120
    have o172 := o172.ext l174
    have o192 := o192.ext g214
    have o1 := o1.ext k214
    refine ⟨_, _, _, _, _, _, _, o64.all rfl, _, _, _, _, _, _, _, o91.all rfl, (sameTally_ok hz1 hz2 (by rw [e1]; exact .of Tal.plus_ok)).mono ?_⟩
    rintro _ s231 ⟨⟨⟨c1, rfl, hc1⟩, g231⟩, _⟩
    refine ⟨_, rfl, _, _, _, _, _, _, _, (o118.ext g231).all rfl, _, _, _, _, _, _, _, (o172.ext g231).all rfl, (sameTally_ok (hz3.ext g231) (hz5.ext g231) (by rw [e3]; exact .of Tal.plus_ok)).mono ?_⟩
    rintro _ s248 ⟨⟨⟨c2, rfl, hc2⟩, g248⟩, _⟩
    have g248 := g231.trans g248
    refine ⟨_, rfl, _, _, _, _, _, _, _, (o192.ext g248).all rfl, _, _, _, _, _, _, _, (o1.ext g248).all rfl, (sameTally_ok (hz6.ext g248) (hx.ext g248) (by rw [e6]; exact .of ct)).mono ?_⟩
    rintro _ s265 ⟨⟨⟨c3, rfl, hc3⟩, g265⟩, _⟩
    have g265 := g248.trans g265
    refine ⟨_, rfl, _, _, _, _, _, _, _, (o212.ext g265).all rfl, _, _, _, _, _, _, _, (o1.ext g265).all rfl, (sameTally_ok (hz7.ext g265) (hx.ext g265) (by rw [e7]; exact .of ct)).mono ?_⟩
    rintro _ s282 ⟨⟨⟨c4, rfl, hc4⟩, g282⟩, _⟩
    have hc1 := hc1.2 (by rw [e1, e2]; exact Tal.plus_comm ht hu ct cu)
    have hc2 := hc2.2 (by rw [e3, e5]; exact Tal.plus_assoc ht hu hv ct cu cv)
    have hc3 := hc3.2 (by rw [e6])
    have hc4 := hc4.2 (by rw [e7])
    refine ⟨_, rfl, bsel_of (fun _ => bsel_of (fun _ => bsel_of (fun _ => bsel_of (fun _ => bsel_of (fun _ => bsel_of (fun _ => bsel_of (fun _ => bsel_of (fun _ => ?_) fun c => ?_) fun c => ?_) fun c => ?_) fun c => ?_) fun c => ?_) fun c => ?_) fun c => ?_) fun c => ?_⟩
    · rw [e7]; rfl
    · simp [e6] at c
    · simp [e5] at c
    · simp [e4] at c
    · simp [e3] at c
    · simp [hc4] at c
    · simp [hc3] at c
    · simp [hc2] at c
    · simp [hc1] at c
  · refine bsel_of (fun c => ?_) fun _ => bsel_of (fun c => ?_) fun _ => bsel_of (fun c => rfl) fun c => ?_
    · exfalso
      unfold plusR at c
      simp [ct] at c
    · exfalso
      simp [ee] at c
    · simp [ct] at c
end
end Go.Eng.S

namespace Go.Eng.S
open Go Go.Eng Go.Proofs
set_option linter.constructorNameAsVariable false
noncomputable section

theorem bars_read {H : Type} {enc : TypeId × Value → H} {w : World} {base : Nat} {held : Bool} {fuel : Nat} {v : Value} {x : DataW H × List MemPlace} (h : DataW.trod enc P w base (fun _ => true) held fuel T.sl_api_Bar [v] = some x) :
    ∃ (a : AV) (l : List Bar), absV w.heap.size v = some a ∧ Sl barE (stW w) a l ∧ RngB l ∧ l.length ≤ maxLen := by
  refine slice_read barE RngP h Tryd.underlying25 (by kernel_rfl) fun n cs y hy hl => ?_
  obtain ⟨a, b, rfl, wa, wb⟩ := pair_read hy Tryd.underlying56 rfl rfl rfl rfl Tryd.underlying3 Tryd.underlying22 (by kernel_rfl) (by kernel_rfl) (by kernel_rfl)
  have h1 := bounds_i64 wa
  have h2 := bounds_u64 wb
  refine ⟨(a, b), ⟨h1.1, by omega, h2.1, h2.2⟩, fun j hj => ?_⟩
  match j, hj with
  | 0, _ => exact ⟨_, _, rfl, rfl, rfl⟩
  | 1, _ => exact ⟨_, _, rfl, rfl, rfl⟩

set_option maxRecDepth 100000 in
theorem tal_read {H : Type} {enc : TypeId × Value → H} {w : World} {base : Nat} {held : Bool} {v : Value} {d : DataW H} {p : List MemPlace} {r : Reach} {b0 : Nat} (hval : Value.okWide P w r b0 T.api_Tally v) (h : DataW.Trod enc P w base (fun _ => true) held T.api_Tally v d p) :
    ∃ (x : AV) (t : Tal), VR (phiW w) (t.V x) v ∧ Sl barE (stW w) x t.l ∧ t.Rng ∧ t.l.length ≤ maxLen := by
  simp only [Value.okWide, show P.underlying T.api_Tally = some _ from Tryd.underlying27] at hval
  obtain ⟨cs, rfl, hsz, _⟩ := hval
  obtain ⟨fuel, h⟩ := h
  obtain ⟨xs, n, _, _, hl, hx, hf⟩ := DataW.trod_struct Tryd.underlying27 h
  rw [show P.cellsOf T.api_Tally = 7 by kernel_rfl] at hl
  have hl : cs.toList.length = 7 := hl
  have hf' := fun i f (hf0 : _) => hf i f hf0
  change xs.length = 4 at hx
  have g0 := hf' 0 _ rfl
  have g1 := hf' 1 _ rfl
  have g2 := hf' 2 _ rfl
  have g3 := hf' 3 _ rfl
  rw [List.getElem?_eq_getElem (by omega)] at g0 g1 g2 g3
  have pr : ∀ {n : Nat} {cs : List Value} {y : DataW H × List MemPlace}, DataW.trod enc P w base (fun _ => true) held n T.api_Nat cs = some y → ∃ a b, cs = [.int .u64 a, .int .u64 b] ∧ Rng2 (a, b) := by
    intro n cs y hy
    obtain ⟨a, b, rfl, wa, wb⟩ := pair_read hy Tryd.underlying24 rfl rfl rfl rfl Tryd.underlying22 Tryd.underlying22 (by kernel_rfl) (by kernel_rfl) (by kernel_rfl)
    exact ⟨a, b, rfl, bounds_u64 wa, bounds_u64 wb⟩
  obtain ⟨a1, a2, e0, r0⟩ := pr g0
  obtain ⟨b1, b2, e1, r1⟩ := pr g1
  obtain ⟨c1, c2, e2, r2⟩ := pr g2
  obtain ⟨v0, v1, v2, v3, v4, v5, v6, hc⟩ : ∃ v0 v1 v2 v3 v4 v5 v6, cs.toList = [v0, v1, v2, v3, v4, v5, v6] := by
    match cs.toList, hl with
    | [v0, v1, v2, v3, v4, v5, v6], _ => exact ⟨v0, v1, v2, v3, v4, v5, v6, rfl⟩
  have hcs : (Value.agg cs).cells.toList = [v0, v1, v2, v3, v4, v5, v6] := hc
  rw [hcs] at e0 e1 e2 g3
  change List.take (P.cellsOf T.api_Nat) (List.drop 0 [v0, v1, v2, v3, v4, v5, v6]) = _ at e0
  change List.take (P.cellsOf T.api_Nat) (List.drop 2 [v0, v1, v2, v3, v4, v5, v6]) = _ at e1
  change List.take (P.cellsOf T.api_Nat) (List.drop 4 [v0, v1, v2, v3, v4, v5, v6]) = _ at e2
  change DataW.trod enc P w base (fun _ => true) held n T.sl_api_Bar (List.take (P.cellsOf T.sl_api_Bar) (List.drop 6 [v0, v1, v2, v3, v4, v5, v6])) = _ at g3
  rw [show P.cellsOf T.api_Nat = 2 by kernel_rfl] at e0 e1 e2
  rw [show P.cellsOf T.sl_api_Bar = 1 by kernel_rfl] at g3
  simp at e0 e1 e2
  obtain ⟨rfl, rfl⟩ := e0
  obtain ⟨rfl, rfl⟩ := e1
  obtain ⟨rfl, rfl⟩ := e2
  obtain ⟨x, l, q1, q2, q3, q4⟩ := bars_read (v := v6) g3
  refine ⟨x, ⟨(a1, a2), (b1, b2), (c1, c2), l⟩, ?_, q2, ⟨r0, r1, r2, q3⟩, q4⟩
  have : cs = ([.int .u64 a1, .int .u64 a2, .int .u64 b1, .int .u64 b2, .int .u64 c1, .int .u64 c2, v6] : List Value).toArray := by rw [← hc]
  rw [this]
  exact .agg (.cons (.int _ _) (.cons (.int _ _) (.cons (.int _ _) (.cons (.int _ _) (.cons (.int _ _) (.cons (.int _ _) (.cons (absV_ok q1) .nil)))))))

end
end Go.Eng.S

namespace Go.Eng.S
open Go Go.Eng Go.Proofs
set_option linter.constructorNameAsVariable false
noncomputable section
set_option maxRecDepth 100000 in
/-- The walk. -/
theorem CallsPlus_walk {H : Type} {enc : TypeId × Value → H} {w : World} {base b0 : Nat} {held : Bool} {r : Reach} {v1 v2 v3 : Value} {d1 d2 d3 : DataW H} {p1 p2 p3 : List MemPlace} (hv1 : Value.okWide P w r b0 T.api_Tally v1) (h1 : DataW.Trod enc P w base (fun _ => true) held T.api_Tally v1 d1 p1)
    (hv2 : Value.okWide P w r b0 T.api_Tally v2) (h2 : DataW.Trod enc P w base (fun _ => true) held T.api_Tally v2 d2 p2) (hv3 : Value.okWide P w r b0 T.api_Tally v3) (h3 : DataW.Trod enc P w base (fun _ => true) held T.api_Tally v3 d3 p3) :
    Calls P F.spoorlaw14_CallsPlus #[v1, v2, v3] w fun e w' => e = .returned (.bool true) ∧ Kept w w' := by
  obtain ⟨x, t, q1, q2, q3, _⟩ := tal_read hv1 h1
  obtain ⟨y, u, g1, g2, g3, _⟩ := tal_read hv2 h2
  obtain ⟨z, v, k1, k2, k3, _⟩ := tal_read hv3 h3
  exact CallsA.top (CallsPlus_ok q2 g2 k2 q3 g3 k3) (.cons q1 (.cons g1 (.cons k1 .nil)))
end
end Go.Eng.S

