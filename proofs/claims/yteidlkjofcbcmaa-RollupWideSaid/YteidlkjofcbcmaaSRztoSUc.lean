/-
  'RollupCover': plain laws, and the walk.
  'RollupCover': the walk.
  'RollupCover': puts as a row hands them in.
  'RollupBack': is there room; what is put, what is taken.
  What is taken from a rollup.
  The hours that a rollup has something of.
  Sorting in place: less, insertion, sifting down, a heap.
  Sorting in place: parting.
  Sorting in place: what is nearly sorted.
  Sorting in place: pivots, numbers by chance.
  Sorting in place: patterns are broken; the whole sort.
  Sorting in place: the whole sort.
  'slices.Compact'.
  The windows of a level.
  Windows are held against one another; one rollup is put into another one.
  What is put, summed up; windows that are alike.
-/
import Derived.Test.YteidlkjofcbcmaaSRptoSRy
import Derived.Test.YteidlkjofcbcmaaSKr
import Derived.Test.YteidlkjofcbcmaaW13to14
import Derived.Test.YteidlkjofcbcmaaSVr4to2
import Derived.Test.YteidlkjofcbcmaaSPatoSRe
import Derived.Test.YteidlkjofcbcmaaSRstoSRo
import Derived.Test.YteidlkjofcbcmaaW15to23
import Derived.Test.YteidlkjofcbcmaaSVs3to3
namespace Go.Eng.S
open Go Go.Eng Go.Proofs
set_option linter.constructorNameAsVariable false
set_option maxRecDepth 4000
noncomputable section
attribute [local irreducible] bsel barsOf mergeB
theorem filter_key {L : List (Edge × Tal)} {e : Edge} {t : Tal} : (L.map (·.1)).Nodup → (e, t) ∈ L → L.filter (fun y => decide (y.1 = e)) = [(e, t)] := by
 induction L with
 | nil => intro _ h; simp at h
 | cons p r ih =>
  intro hn h
  simp only [List.map_cons, List.nodup_cons] at hn
  rcases List.mem_cons.1 h with h1 | h1
  ·subst h1
   rw [List.filter_cons_of_pos (by simp)]
   congr 1
   refine List.filter_eq_nil_iff.2 fun y hy c => hn.1 ?_
   have c : y.1 = e := by simpa using c
   exact List.mem_map.2 ⟨y, hy, c⟩
  ·have : p.1 ≠ e := fun c => hn.1 (List.mem_map.2 ⟨(e, t), h1, c.symm⟩)
   rw [List.filter_cons_of_neg (by simpa using this)]
   exact ih hn.2 h1
theorem told_sum {S : Edge → GT} {L : List (Edge × Tal)} (h : ToldL S L) : sumE L = S := by
 funext e
 by_cases c : S e = .zero
 ·rw [c]
  unfold sumE
  refine gsum_zero fun x hx => ?_
  obtain ⟨y, hy, rfl⟩ := List.mem_map.1 hx
  obtain ⟨h1, h2⟩ := List.mem_filter.1 hy
  have h2 : y.1 = e := by simpa using h2
  have := h.at h1
  rw [h2, c] at this
  exact absurd this.1 this.2
 ·have hm := (h.mem e _).2 ⟨rfl, GT.val_ne.2 c⟩
  unfold sumE
  rw [filter_key h.nodup hm]
  simp only [List.map_cons, List.map_nil, gsum]
  rw [toGT_of, GT.plus_zero]
theorem sumE_append (a b : List (Edge × Tal)) (e : Edge) : sumE (a ++ b) e = (sumE a e).plus (sumE b e) := by
 unfold sumE
 rw [List.filter_append, List.map_append, gsum_append]
theorem sumH_ne {G : RollF} {hG : RollG G} {a b : Int} {E0 : List Edge} (hE : ∀ h e, G h e ≠ .zero → e ∈ E0) (e : Edge) (h : sumH G hG a b e ≠ .zero) : e ∈ E0 := by
 refine Classical.byContradiction fun hn => h ?_
 refine gsum_zero fun x hx => ?_
 obtain ⟨h', _, rfl⟩ := List.mem_map.1 hx
 exact Subtype.ext (Classical.byContradiction fun h0 => hn (hE h' e h0))
theorem told_lenS {S : Edge → GT} {L : List (Edge × Tal)} {E0 : List Edge} (h : ToldL S L) (hE : ∀ e, S e ≠ .zero → e ∈ E0) : L.length ≤ E0.length := by
 have := nodup_length_le (a := L.map (·.1)) (b := E0) h.nodup fun e he => by
  obtain ⟨p, hp, rfl⟩ := List.mem_map.1 he
  refine hE _ fun h0 => ?_
  have := h.at hp
  rw [h0] at this
  exact this.2 this.1
 simpa using this
theorem told_fine {S : Edge → GT} {L : List ET} (h : ToldL S (etP L)) {s : St} (hb : ∀ y, y ∈ L → Sl barE s y.2.2 y.2.1.l) : ∀ y, y ∈ L → FineE s y := fun y hy => by
 have := h.at (p := (y.1, y.2.1)) (List.mem_map.2 ⟨y, hy, rfl⟩)
 simp only at this
 exact ⟨hb y hy, by rw [this.1]; exact (S y.1).2.1, by rw [this.1]; exact (S y.1).2.2, this.2⟩
theorem told_bars {S : Edge → GT} {L : List ET} (h : ToldL S (etP L)) : ∀ y, y ∈ L → y.2.1.l.length < 4611686018427387904 := fun y hy => by
 have := (h.at (p := (y.1, y.2.1)) (List.mem_map.2 ⟨y, hy, rfl⟩)).1
 simp only at this
 have ho := (S y.1).2.1
 rw [← this] at ho
 have := okB_len' ho
 omega
theorem told_key {S : Edge → GT} {L : List ET} {E0 : List Edge} (h : ToldL S (etP L)) (hE : ∀ e, S e ≠ .zero → e ∈ E0) : ∀ y, y ∈ L → y.1 ∈ E0 := fun y hy => by
 refine hE _ fun h0 => ?_
 have := h.at (p := (y.1, y.2.1)) (List.mem_map.2 ⟨y, hy, rfl⟩)
 simp only at this
 rw [h0] at this
 exact this.2 this.1
end
end Go.Eng.S

namespace Go.Eng.S
open Go Go.Eng Go.Proofs
set_option linter.constructorNameAsVariable false
set_option maxRecDepth 4000
noncomputable section
attribute [local irreducible] bsel barsOf mergeB
end
end Go.Eng.S

namespace Go.Eng.S
open Go Go.Eng Go.Proofs
set_option linter.constructorNameAsVariable false
noncomputable section
instance : Inhabited PutR := ⟨⟨0, (ByteArray.empty, ByteArray.empty), .zero, .nilslice⟩⟩
variable {H : Type} {enc : TypeId × Value → H} {w : World} {base : Nat} {held : Bool} {fuel : Nat}
theorem bars_read {v : Value} {x : DataW H × List MemPlace} (h : DataW.trod enc P w base (fun _ => true) held fuel T.sl_api_Bar [v] = some x) :
  ∃ (a : AV) (l : List Bar), absV w.heap.size v = some a ∧ Sl barE (stW w) a l ∧ RngB l ∧ l.length ≤ maxLen := by
 refine slice_read barE RngP h Try.underlying49 (by kernel_rfl) fun n cs y hy hl => ?_
 obtain ⟨a, b, rfl, wa, wb⟩ := pair_read hy Try.underlying80 rfl rfl rfl rfl Try.underlying3 Try.underlying46 (by kernel_rfl) (by kernel_rfl) (by kernel_rfl)
 have h1 := bounds_i64 wa
 have h2 := bounds_u64 wb
 refine ⟨(a, b), ⟨h1.1, by omega, h2.1, h2.2⟩, fun j hj => ?_⟩
 match j, hj with
 | 0, _ => exact ⟨_, _, rfl, rfl, rfl⟩
 | 1, _ => exact ⟨_, _, rfl, rfl, rfl⟩
set_option maxRecDepth 100000 in
theorem tal_cells {cs : List Value} {y : DataW H × List MemPlace} (h : DataW.trod enc P w base (fun _ => true) held fuel T.api_Tally cs = some y) :
  ∃ (t : Tal) (x : AV) (v6 : Value), cs = [.int .u64 t.a.1, .int .u64 t.a.2, .int .u64 t.b.1, .int .u64 t.b.2, .int .u64 t.c.1, .int .u64 t.c.2, v6] ∧ absV w.heap.size v6 = some x ∧ Sl barE (stW w) x t.l ∧ t.Rng ∧ t.l.length ≤ maxLen := by
 obtain ⟨xs, n, _, _, hl, hx, hf⟩ := DataW.trod_struct Try.underlying51 h
 rw [show P.cellsOf T.api_Tally = 7 by kernel_rfl] at hl
 have hf' := fun i f (hf0 : _) => hf i f hf0
 change xs.length = 4 at hx
 have g0 := hf' 0 _ rfl
 have g1 := hf' 1 _ rfl
 have g2 := hf' 2 _ rfl
 have g3 := hf' 3 _ rfl
 rw [List.getElem?_eq_getElem (by omega)] at g0 g1 g2 g3
 have pr : ∀ {n : Nat} {cs : List Value} {y : DataW H × List MemPlace}, DataW.trod enc P w base (fun _ => true) held n T.api_Nat cs = some y → ∃ a b, cs = [.int .u64 a, .int .u64 b] ∧ Rng2 (a, b) := by
  intro n cs y hy
  obtain ⟨a, b, rfl, wa, wb⟩ := pair_read hy Try.underlying48 rfl rfl rfl rfl Try.underlying46 Try.underlying46 (by kernel_rfl) (by kernel_rfl) (by kernel_rfl)
  exact ⟨a, b, rfl, bounds_u64 wa, bounds_u64 wb⟩
 obtain ⟨a1, a2, e0, r0⟩ := pr g0
 obtain ⟨b1, b2, e1, r1⟩ := pr g1
 obtain ⟨c1, c2, e2, r2⟩ := pr g2
 obtain ⟨v0, v1, v2, v3, v4, v5, v6, rfl⟩ : ∃ v0 v1 v2 v3 v4 v5 v6, cs = [v0, v1, v2, v3, v4, v5, v6] := by
  match cs, hl with
  | [v0, v1, v2, v3, v4, v5, v6], _ => exact ⟨v0, v1, v2, v3, v4, v5, v6, rfl⟩
 change List.take (P.cellsOf T.api_Nat) (List.drop 0 [v0, v1, v2, v3, v4, v5, v6]) = _ at e0
 change List.take (P.cellsOf T.api_Nat) (List.drop 2 [v0, v1, v2, v3, v4, v5, v6]) = _ at e1
 change List.take (P.cellsOf T.api_Nat) (List.drop 4 [v0, v1, v2, v3, v4, v5, v6]) = _ at e2
 change DataW.trod enc P w base (fun _ => true) held n T.sl_api_Bar (List.take (P.cellsOf T.sl_api_Bar) (List.drop 6 [v0, v1, v2, v3, v4, v5, v6])) = _ at g3
 rw [show P.cellsOf T.api_Nat = 2 by kernel_rfl] at e0 e1 e2
 rw [show P.cellsOf T.sl_api_Bar = 1 by kernel_rfl] at g3
 simp at e0 e1 e2
 obtain ⟨rfl, rfl⟩ := e0
 obtain ⟨rfl, rfl⟩ := e1
 obtain ⟨rfl, rfl⟩ := e2
 obtain ⟨x, l, q1, q2, q3, q4⟩ := bars_read (v := v6) g3
 exact ⟨⟨(a1, a2), (b1, b2), (c1, c2), l⟩, x, v6, rfl, q1, q2, ⟨r0, r1, r2, q3⟩, q4⟩
set_option maxRecDepth 100000 in
theorem edge_cells {cs : List Value} {y : DataW H × List MemPlace} (h : DataW.trod enc P w base (fun _ => true) held fuel T.api_Edge cs = some y) :
  ∃ s0 s1 : ByteArray, cs = [.string s0, .string s1] := by
 obtain ⟨xs1, n1, _, _, hl1, hx1, hf1⟩ := DataW.trod_struct Try.underlying45 h
 rw [show P.cellsOf T.api_Edge = 2 by kernel_rfl] at hl1
 change xs1.length = 2 at hx1
 have k0 := hf1 0 _ rfl
 have k1 := hf1 1 _ rfl
 rw [List.getElem?_eq_getElem (by omega)] at k0 k1
 change DataW.trod enc P w base (fun _ => true) held n1 T.ystring_9 (List.take (P.cellsOf T.ystring_9) (List.drop 0 cs)) = _ at k0
 change DataW.trod enc P w base (fun _ => true) held n1 T.ystring_9 (List.take (P.cellsOf T.ystring_9) (List.drop 1 cs)) = _ at k1
 obtain ⟨s0, e4, _, _⟩ := DataW.trod_string Try.underlying9 k0
 obtain ⟨s1, e5, _, _⟩ := DataW.trod_string Try.underlying9 k1
 rw [show P.cellsOf T.ystring_9 = 1 by kernel_rfl] at e4 e5
 obtain ⟨v0, v1, rfl⟩ : ∃ v0 v1, cs = [v0, v1] := by
  match cs, hl1 with
  | [v0, v1], _ => exact ⟨v0, v1, rfl⟩
 simp at e4 e5
 exact ⟨s0, s1, by rw [e4, e5]⟩
set_option maxRecDepth 100000 in
theorem puts_read {v : Value} {x : DataW H × List MemPlace} (h : DataW.trod enc P w base (fun _ => true) held fuel T.sl_spoorlaw15_Put [v] = some x) :
  ∃ (a : AV) (l : List PutR), absV w.heap.size v = some a ∧ Sl putE (stW w) a l ∧ (∀ p, p ∈ l → FineP (stW w) p) ∧ l.length ≤ slcLen x.1 ∧ l.length ≤ maxLen ∧ ∀ p, p ∈ l → p.tal.l.length ≤ maxLen := by
 obtain ⟨a, l, h1, h2, h3, h4, h5⟩ := slice_read2 putE (fun p => FineP (stW w) p ∧ p.tal.l.length ≤ maxLen) h Try.underlying22 (by kernel_rfl) fun n cs y hy hl => by
  have hl : cs.length = 10 := hl
  obtain ⟨xs, n, _, _, _, hx, hf⟩ := DataW.trod_struct Try.underlying53 hy
  change xs.length = 3 at hx
  have hf' := fun i f (hf0 : _) => hf i f hf0
  have g0 := hf' 0 _ rfl
  have g1 := hf' 1 _ rfl
  have g2 := hf' 2 _ rfl
  rw [List.getElem?_eq_getElem (by omega)] at g0 g1 g2
  change DataW.trod enc P w base (fun _ => true) held n T.int64 (List.take (P.cellsOf T.int64) (List.drop 0 cs)) = _ at g0
  change DataW.trod enc P w base (fun _ => true) held n T.api_Edge (List.take (P.cellsOf T.api_Edge) (List.drop 1 cs)) = _ at g1
  change DataW.trod enc P w base (fun _ => true) held n T.api_Tally (List.take (P.cellsOf T.api_Tally) (List.drop 3 cs)) = _ at g2
  obtain ⟨hr, e0, _, w0⟩ := DataW.trod_int Try.underlying2 g0
  obtain ⟨s0, s1, e1⟩ := edge_cells g1
  obtain ⟨t, z, v6, e2, q1, q2, q3, q4⟩ := tal_cells g2
  rw [show P.cellsOf T.int64 = 1 by kernel_rfl] at e0
  rw [show P.cellsOf T.api_Edge = 2 by kernel_rfl] at e1
  rw [show P.cellsOf T.api_Tally = 7 by kernel_rfl] at e2
  obtain ⟨c0, c1, c2, c3, c4, c5, c6, c7, c8, c9, rfl⟩ : ∃ c0 c1 c2 c3 c4 c5 c6 c7 c8 c9, cs = [c0, c1, c2, c3, c4, c5, c6, c7, c8, c9] := by
   match cs, hl with
   | [c0, c1, c2, c3, c4, c5, c6, c7, c8, c9], _ => exact ⟨c0, c1, c2, c3, c4, c5, c6, c7, c8, c9, rfl⟩
  simp at e0 e1 e2
  obtain ⟨rfl, rfl⟩ := e1
  obtain ⟨rfl, rfl, rfl, rfl, rfl, rfl, rfl⟩ := e2
  subst e0
  refine ⟨⟨hr, (s0, s1), t, z⟩, ⟨⟨q2, q3⟩, q4⟩, fun j hj => ?_⟩
  match j, hj with
  | 0, _ => exact ⟨_, _, rfl, rfl, rfl⟩
  | 1, _ => exact ⟨_, _, rfl, rfl, rfl⟩
  | 2, _ => exact ⟨_, _, rfl, rfl, rfl⟩
  | 3, _ => exact ⟨_, _, rfl, rfl, rfl⟩
  | 4, _ => exact ⟨_, _, rfl, rfl, rfl⟩
  | 5, _ => exact ⟨_, _, rfl, rfl, rfl⟩
  | 6, _ => exact ⟨_, _, rfl, rfl, rfl⟩
  | 7, _ => exact ⟨_, _, rfl, rfl, rfl⟩
  | 8, _ => exact ⟨_, _, rfl, rfl, rfl⟩
  | 9, _ => exact ⟨_, _, rfl, rfl, q1⟩
 exact ⟨a, l, h1, h2, fun p hp => (h3 p hp).1, h5, h4, fun p hp => (h3 p hp).2⟩
end
end Go.Eng.S

namespace Go.Eng.S
open Go Go.Eng Go.Proofs
set_option linter.constructorNameAsVariable false
set_option maxRecDepth 4000
noncomputable section
attribute [local irreducible] bsel barsOf mergeB
end
end Go.Eng.S

namespace Go.Eng.S
open Go Go.Eng Go.Proofs
set_option linter.constructorNameAsVariable false
set_option maxRecDepth 4000
noncomputable section
attribute [local irreducible] bsel barsOf mergeB lessB
section
attribute [local semireducible] lessB
end
end
end Go.Eng.S

namespace Go.Eng.S
open Go Go.Eng Go.Proofs
set_option linter.constructorNameAsVariable false
set_option maxRecDepth 4000
noncomputable section
attribute [local irreducible] bsel barsOf mergeB
def Has (G : RollF) (h : Int) : Prop := ∃ e, G h e ≠ .zero
def HoursP (G : RollF) (lo hi : Int) : Prop := (lo = 0 ∧ hi = 0 ∧ ∀ h, ¬ Has G h) ∨ (Has G lo ∧ Has G (hi - 1) ∧ ∀ h, Has G h → lo ≤ h ∧ h < hi)
theorem HoursP.unique {G : RollF} {a b a' b' : Int} (h : HoursP G a b) (h' : HoursP G a' b') : a = a' ∧ b = b' := by
 rcases h with ⟨h1, h2, h3⟩ | ⟨h1, h2, h3⟩ <;> rcases h' with ⟨g1, g2, g3⟩ | ⟨g1, g2, g3⟩
 ·exact ⟨by omega, by omega⟩
 ·exact absurd g1 (h3 _)
 ·exact absurd h1 (g3 _)
 ·have k1 := h3 _ g1
  have k2 := g3 _ h1
  have k3 := h3 _ g2
  have k4 := g3 _ h2
  exact ⟨by omega, by omega⟩
def HrI (vis : List Int) (lo hi : Int) : Prop := (vis = [] ∧ lo = 0 ∧ hi = 0) ∨ (0 < hi ∧ lo ∈ vis ∧ hi - 1 ∈ vis ∧ ∀ h, h ∈ vis → lo ≤ h ∧ h < hi)
theorem HrI.next {vis : List Int} {lo hi h : Int} (hI : HrI vis lo hi) (h0 : 0 ≤ h) (hn : hi = 0 ∨ h < lo) : HrI (vis ++ [h]) h (if h + 1 > hi then h + 1 else hi) := by
 refine .inr ?_
 rcases hI with ⟨rfl, rfl, rfl⟩ | ⟨h1, h2, h3, h4⟩
 ·rw [if_pos (by omega)]
  refine ⟨by omega, by simp, by simp, fun x hx => ?_⟩
  have : x = h := by simpa using hx
  omega
 ·have hlt : h < lo := by omega
  have h5 := h4 lo h2
  rw [if_neg (by omega)]
  refine ⟨h1, by simp, List.mem_append_left _ h3, fun x hx => ?_⟩
  rcases List.mem_append.1 hx with hx | hx
  ·have := h4 x hx; omega
  ·have : x = h := by simpa using hx
   omega
theorem HrI.same {vis : List Int} {lo hi h : Int} (hI : HrI vis lo hi) (h0 : 0 ≤ h) (hn : hi ≠ 0) (hl : lo ≤ h) : HrI (vis ++ [h]) lo (if h + 1 > hi then h + 1 else hi) := by
 refine .inr ?_
 rcases hI with ⟨rfl, rfl, rfl⟩ | ⟨h1, h2, h3, h4⟩
 ·exact absurd rfl hn
 ·split
  ·refine ⟨by omega, List.mem_append_left _ h2, by simp, fun x hx => ?_⟩
   rcases List.mem_append.1 hx with hx | hx
   ·have := h4 x hx; omega
   ·have : x = h := by simpa using hx
    omega
  ·refine ⟨h1, List.mem_append_left _ h2, List.mem_append_left _ h3, fun x hx => ?_⟩
   rcases List.mem_append.1 hx with hx | hx
   ·exact h4 x hx
   ·have : x = h := by simpa using hx
    omega
end
end Go.Eng.S

namespace Go.Eng.S
open Go Go.Eng Go.Proofs
set_option linter.constructorNameAsVariable false
noncomputable section
attribute [local irreducible] bsel
abbrev mkE (n : Int) : AV := .int .i64 n
def ltE (a b : Int) : Bool := decide (a < b)
theorem ltE_o : LtO ltE := ⟨fun x => by simp [ltE], fun x y h => by simp [ltE] at *; omega, fun x y z h1 h2 => by simp [ltE] at *; omega⟩
theorem mkE_one : ∀ x, ones [mkE x] = true := fun _ => rfl
theorem isNaNI_ok (a : Int) (s : St) : CallsD P F.cmp_isNaN_int64 [mkE a] s fun v s' => v = .bool false ∧ s' = s :=
 CallsD.pure (fun s => (vc.cmp_isNaN_int64_ok (Q := fun v _ => v = .bool false) (by show AV.bool (a != a) = .bool false; simp)).a) rfl s
theorem LessI_ok (a b : Int) (s : St) : CallsD P F.cmp_Less_int64 [mkE a, mkE b] s fun v s' => v = .bool (ltE a b) ∧ s' = s := by
 refine CallsD.pure (fun s => (vc.cmp_Less_int64_ok ((isNaNI_ok a s).mono ?_)).a) rfl s
 rintro _ _ ⟨rfl, rfl⟩
 exact ⟨false, rfl, bsel_of (fun c => by simp at c) fun _ => rfl⟩
def SortQ (s0 : St) (x : AV) (l : List Int) (a b : Nat) (v : AV) (s' : St) : Prop := v = .tuple [] ∧ ∃ l', Row mkE s0 x s' l' ∧ RP a b l l' ∧ Rise ltE a b l'
theorem Insertion_ok {s0 s : St} {x : AV} {l : List Int} (h : Row mkE s0 x s l) {a b : Nat} (hab : a ≤ b) (hb : b ≤ l.length) (hsz : l.length < 4611686018427387904) :
  CallsD P F.slices_insertionSortOrdered_int64 [x, .int .i64 (a : Int), .int .i64 (b : Int)] s (SortQ s0 x l a b) := by
 refine vc.slices_insertionSortOrdered_int64_ok ⟨fun n3 s4 m => ∃ (i : Nat) (l1 : List Int), n3 = i ∧ m = b - i ∧ a + 1 ≤ i ∧ i ≤ max (a + 1) b ∧ Row mkE s0 x s4 l1 ∧ RP a b l l1 ∧ Rise ltE a i l1, ⟨_, a + 1, l, wr_succ (by omega), rfl, Nat.le_refl _, by omega, h, .refl _ _ _, .small (Nat.le_refl _)⟩, ?_⟩
 rintro _ s4 _ ⟨i, l1, rfl, rfl, hi, hi2, hR, hP, hS⟩
 refine bsel_of (fun c => ?_) fun c => ?_
 ·have c : i < b := by simpa using c
  have hl1 := hP.len
  refine ⟨fun n8 s9 m => ∃ (j : Nat) (l2 : List Int), n8 = j ∧ m = j + 1 ∧ a ≤ j ∧ j ≤ i ∧ Row mkE s0 x s9 l2 ∧ RP a b l l2 ∧ ∀ p q, a ≤ p → p < q → q ≤ i → q ≠ j → ltE (at' l2 q) (at' l2 p) = false, ⟨_, i, l1, rfl, rfl, by omega, Nat.le_refl _, hR, hP, fun p q h1 h2 h3 h4 => hS p q h1 h2 (by omega)⟩, ?_⟩
  rintro _ s9 _ ⟨j, l2, rfl, rfl, hj, hj2, hR2, hP2, hS2⟩
  have hl2 := hP2.len
  refine ⟨fun c s25 _ => c = (decide (a < j) && ltE (at' l2 j) (at' l2 (j - 1))) ∧ Row mkE s0 x s25 l2, ?_, ?_⟩
  ·intro s12 hB
   have hR3 := hR2.bump hB
   refine bsel_of (fun c1 => ?_) fun c1 => ?_
   ·have c1 : a < j := by simpa using c1
    refine hR3.rd rfl (by omega) (hR3.rd (k := j - 1) (wr_pred (by omega) (by omega)) (by omega) ((LessI_ok _ _ _).mono ?_))
    rintro _ _ ⟨rfl, rfl⟩
    exact ⟨_, rfl, 0, by simp [c1], hR3⟩
   ·have c1 : ¬ a < j := by simpa using c1
    exact ⟨0, by simp [c1], hR3⟩
  ·rintro c24 s25 _ ⟨rfl, hR3⟩
   refine bsel_of (fun c1 => ?_) fun c1 => ?_
   ·obtain ⟨c1, c2⟩ : a < j ∧ ltE (at' l2 j) (at' l2 (j - 1)) = true := by simpa using c1
    intro s27 hB
    have w1 := wr_pred (a := j) (by omega) (by omega)
    refine (hR3.bump hB).swap mkE_one w1 rfl (by omega) (by omega) fun s39 hR4 => ⟨j - 1 + 1, by omega, j - 1, _, w1, rfl, by omega, by omega, hR4, hP2.trans (.sw (by omega) (by omega) (by omega) (by omega)), ?_⟩
    intro p q h1 h2 h3 h4
    have gg := fun k => at_sw (l := l2) (i := j) (j := j - 1) (k := k) (by omega) (by omega)
    rw [gg, gg, if_neg (show ¬ q = j - 1 by omega)]
    by_cases e1 : q = j
    ·rw [if_pos e1]
     by_cases e2 : p = j - 1
     ·rw [if_pos e2]; exact ltE_o.asym _ _ c2
     ·rw [if_neg e2, if_neg (by omega)]; exact hS2 p (j - 1) h1 (by omega) (by omega) (by omega)
    ·rw [if_neg e1]
     by_cases e2 : p = j - 1
     ·rw [if_pos e2]; exact hS2 j q (by omega) (by omega) h3 e1
     ·rw [if_neg e2]
      by_cases e3 : p = j
      ·rw [if_pos e3]; exact hS2 (j - 1) q (by omega) (by omega) h3 e1
      ·rw [if_neg e3]; exact hS2 p q h1 h2 h3 e1
   ·refine ⟨b - (i + 1), by omega, i + 1, l2, wr_succ (by omega), rfl, by omega, by omega, hR3, hP2, fun p q h1 h2 h3 => ?_⟩
    by_cases e1 : q = j
    ·subst e1
     have c2 : ltE (at' l2 q) (at' l2 (q - 1)) = false := by
      simp only [Bool.and_eq_false_iff, decide_eq_false_iff_not] at c1
      rcases c1 with c1 | c1
      ·omega
      ·exact c1
     by_cases e2 : p = q - 1
     ·rw [e2]; exact c2
     ·exact ltE_o.ntrans _ _ _ (hS2 p (q - 1) h1 (by omega) (by omega) (by omega)) c2
    ·exact hS2 p q h1 h2 (by omega) e1
 ·have c : ¬ i < b := by simpa using c
  refine ⟨rfl, l1, hR, hP, fun p q h1 h2 h3 => hS p q h1 h2 (by omega)⟩
def Hp (f lo hi : Nat) (l : List Int) : Prop := ∀ k c, lo ≤ k → c < hi → (c = 2 * k + 1 ∨ c = 2 * k + 2) → ltE (at' l (f + k)) (at' l (f + c)) = false
theorem Sift_ok {s0 s : St} {x : AV} {l : List Int} (h : Row mkE s0 x s l) {lo hi f : Nat} (hb : f + hi ≤ l.length) (hlo : lo ≤ hi) (hsz : l.length < 2305843009213693952) (hH : Hp f (lo + 1) hi l) :
  CallsD P F.slices_siftDownOrdered_int64 [x, .int .i64 (lo : Int), .int .i64 (hi : Int), .int .i64 (f : Int)] s fun v s' => v = .tuple [] ∧ ∃ l', Row mkE s0 x s' l' ∧ RP (f + lo) (f + hi) l l' ∧ Hp f lo hi l' := by
 refine vc.slices_siftDownOrdered_int64_ok ⟨fun n3 s4 m => ∃ (r : Nat) (l1 : List Int), n3 = r ∧ m = hi - r ∧ lo ≤ r ∧ r ≤ hi ∧ Row mkE s0 x s4 l1 ∧ RP (f + lo) (f + hi) l l1 ∧ (∀ k c, lo ≤ k → k ≠ r → c < hi → (c = 2 * k + 1 ∨ c = 2 * k + 2) → ltE (at' l1 (f + k)) (at' l1 (f + c)) = false) ∧ (∀ k c, lo ≤ k → (r = 2 * k + 1 ∨ r = 2 * k + 2) → c < hi → (c = 2 * r + 1 ∨ c = 2 * r + 2) → ltE (at' l1 (f + k)) (at' l1 (f + c)) = false), ⟨_, lo, l, rfl, rfl, Nat.le_refl _, hlo, h, .refl _ _ _, fun k c h1 h2 h3 h4 => hH k c (by omega) h3 h4, fun k c h1 h2 => by omega⟩, ?_⟩
 rintro _ s4 _ ⟨r, l1, rfl, rfl, hr, hr2, hR, hP, hS, hG⟩
 have hl1 := hP.len
 rw [wr_dbl (a := r) (by omega), wr_succ (a := 2 * r) (by omega)]
 refine bsel_of (fun c1 => ?_) fun c1 => ?_
 ·have c1 : hi ≤ 2 * r + 1 := by simp only [decide_eq_true_eq, decide_eq_false_iff_not] at c1; omega
  refine ⟨rfl, l1, hR, hP, fun k c h1 h2 h3 => ?_⟩
  by_cases e : k = r
  ·omega
  ·exact hS k c h1 e h2 h3
 ·have c1 : 2 * r + 1 < hi := by simp only [decide_eq_true_eq, decide_eq_false_iff_not] at c1; omega
  refine ⟨fun n s21 _ => ∃ c : Nat, n = c ∧ (c = 2 * r + 1 ∨ c = 2 * r + 2) ∧ c < hi ∧ (∀ d, (d = 2 * r + 1 ∨ d = 2 * r + 2) → d < hi → ltE (at' l1 (f + c)) (at' l1 (f + d)) = false) ∧ Row mkE s0 x s21 l1, ?_, ?_⟩
  ·intro s7 hB
   have hR2 := hR.bump hB
   rw [wr_succ (a := 2 * r + 1) (by omega)]
   refine bsel_of (fun c2 => ?_) fun c2 => ?_
   ·have c2 : 2 * r + 1 + 1 < hi := by simp only [decide_eq_true_eq, decide_eq_false_iff_not] at c2; omega
    rw [wr_add (a := f) (b := 2 * r + 1) (by omega), wr_succ (a := f + (2 * r + 1)) (by omega)]
    refine hR2.rd rfl (by omega) (hR2.rd rfl (by omega) ((LessI_ok _ _ _).mono ?_))
    rintro _ _ ⟨rfl, rfl⟩
    refine ⟨_, rfl, bsel_of (fun c3 => ?_) fun c3 => ?_⟩
    ·refine ⟨0, 2 * r + 1 + 1, rfl, by omega, c2, fun d h1 h2 => ?_, hR2⟩
     rcases h1 with rfl | rfl
     ·exact ltE_o.asym _ _ c3
     ·exact ltE_o.irrefl _
    ·refine ⟨0, 2 * r + 1, rfl, by omega, c1, fun d h1 h2 => ?_, hR2⟩
     rcases h1 with rfl | rfl
     ·exact ltE_o.irrefl _
     ·exact c3
   ·have c2 : ¬ 2 * r + 1 + 1 < hi := by simp only [decide_eq_true_eq, decide_eq_false_iff_not] at c2; omega
    refine ⟨0, 2 * r + 1, rfl, by omega, c1, fun d h1 h2 => ?_, hR2⟩
    rcases h1 with rfl | rfl
    ·exact ltE_o.irrefl _
    ·omega
  ·rintro _ s21 _ ⟨c, rfl, hc, hch, hmax, hR2⟩
   intro s23 hB
   have hR3 := hR2.bump hB
   rw [wr_add (a := f) (b := r) (by omega), wr_add (a := f) (b := c) (by omega)]
   refine hR3.rd rfl (by omega) (hR3.rd rfl (by omega) ((LessI_ok _ _ _).mono ?_))
   rintro _ _ ⟨rfl, rfl⟩
   refine ⟨_, rfl, bsel_of (fun c3 => ?_) fun c3 => ?_⟩
   ·have c3 : ltE (at' l1 (f + r)) (at' l1 (f + c)) = false := by simpa using c3
    refine ⟨rfl, l1, hR3, hP, fun k d h1 h2 h3 => ?_⟩
    by_cases e : k = r
    ·subst e; exact ltE_o.ntrans _ _ _ (hmax d h3 h2) c3
    ·exact hS k d h1 e h2 h3
   ·have c3 : ltE (at' l1 (f + r)) (at' l1 (f + c)) = true := by simpa using c3
    intro s33 hB2
    refine (hR3.bump hB2).swap mkE_one rfl rfl (by omega) (by omega) fun s45 hR4 => ⟨hi - c, by omega, c, _, rfl, rfl, by omega, by omega, hR4, hP.trans (.sw (by omega) (by omega) (by omega) (by omega)), fun k d h1 h2 h3 h4 => ?_, fun k d h1 h2 h3 h4 => ?_⟩
    ·have gg := fun k => at_sw (l := l1) (i := f + r) (j := f + c) (k := k) (by omega) (by omega)
     rw [gg, gg, if_neg (show ¬ f + k = f + c by omega)]
     by_cases e1 : k = r
     ·subst e1
      rw [if_pos rfl]
      by_cases e2 : d = c
      ·rw [e2, if_pos rfl]; exact ltE_o.asym _ _ c3
      ·rw [if_neg (by omega), if_neg (by omega)]; exact hmax d h4 h3
     ·rw [if_neg (by omega)]
      by_cases e2 : d = r
      ·subst e2
       rw [if_neg (by omega), if_pos rfl]
       exact hG k c h1 h4 hch hc
      ·rw [if_neg (by omega), if_neg (by omega)]; exact hS k d h1 e1 h3 h4
    ·have gg := fun k => at_sw (l := l1) (i := f + r) (j := f + c) (k := k) (by omega) (by omega)
     have e : k = r := by omega
     subst e
     rw [gg, gg, if_neg (by omega), if_pos rfl, if_neg (by omega), if_neg (by omega)]
     exact hS c d (by omega) (by omega) h3 h4
theorem Hp.top {f hi : Nat} {l : List Int} (h : Hp f 0 hi l) : ∀ k, k < hi → ltE (at' l f) (at' l (f + k)) = false := by
 intro k
 induction k using Nat.strongRecOn with
 | _ k ih =>
  intro hk
  by_cases e : k = 0
  ·subst e; exact ltE_o.irrefl _
  ·have h1 := ih ((k - 1) / 2) (by omega) (by omega)
   have h2 := h ((k - 1) / 2) k (by omega) hk (by omega)
   exact ltE_o.ntrans _ _ _ (by
    have : ltE (at' l (f + (k - 1) / 2)) (at' l (f + k)) = false := h2
    exact this) h1
theorem Heap_ok {s0 s : St} {x : AV} {l : List Int} (h : Row mkE s0 x s l) {a b : Nat} (hab : a ≤ b) (hb : b ≤ l.length) (hsz : l.length < 2305843009213693952) :
  CallsD P F.slices_heapSortOrdered_int64 [x, .int .i64 (a : Int), .int .i64 (b : Int)] s (SortQ s0 x l a b) := by
 obtain ⟨hi, rfl⟩ : ∃ hi, b = a + hi := ⟨b - a, by omega⟩
 refine vc.slices_heapSortOrdered_int64_ok ⟨by decide, ?_⟩
 rw [wr_sub (a := a + hi) (b := a) (by omega) (by omega), Nat.add_sub_cancel_left]
 refine ⟨fun n3 s4 m => ∃ (j : Nat) (l1 : List Int), n3 = (j : Int) - 1 ∧ m = j + 1 ∧ j ≤ hi + 1 ∧ Row mkE s0 x s4 l1 ∧ RP a (a + hi) l l1 ∧ Hp a j hi l1, ⟨_, (hi - 1) / 2 + 1, l, ?_, rfl, by omega, h, .refl _ _ _, fun k c h1 h2 h3 => by omega⟩, ?_⟩
 ·by_cases e : hi = 0
  ·subst e; decide
  ·rw [wr_pred (a := hi) (by omega) (by omega)]
   have := wr_half (a := hi - 1) (b := 2) (by omega) (by omega)
   rw [show ((2 : Nat) : Int) = 2 from rfl] at this
   rw [this]; omega
 rintro _ s4 _ ⟨j, l1, rfl, rfl, hj, hR, hP, hH⟩
 have hl1 := hP.len
 refine bsel_of (fun c => ?_) fun c => ?_
 ·have c : 1 ≤ j := by simp at c; omega
  obtain ⟨i, rfl⟩ : ∃ i, j = i + 1 := ⟨j - 1, by omega⟩
  rw [show ((i + 1 : Nat) : Int) - 1 = (i : Int) by omega]
  refine (Sift_ok hR (lo := i) (hi := hi) (f := a) (by omega) (by omega) (by omega) hH).mono ?_
  rintro _ s7 ⟨rfl, l2, hR2, hP2, hH2⟩
  exact ⟨rfl, i + 1, by omega, i, l2, by rw [wrap_i64 (by omega) (by omega)], rfl, by omega, hR2, hP.trans (hP2.mono (by omega) (Nat.le_refl _)), hH2⟩
 ·have c : j = 0 := by simp at c; omega
  subst c
  refine ⟨fun n11 s12 m => ∃ (j : Nat) (l2 : List Int), n11 = (j : Int) - 1 ∧ m = j + 1 ∧ j ≤ hi ∧ Row mkE s0 x s12 l2 ∧ RP a (a + hi) l l2 ∧ Hp a 0 j l2 ∧ Rise ltE (a + j) (a + hi) l2 ∧ (∀ p q, p < j → j ≤ q → q < hi → ltE (at' l2 (a + q)) (at' l2 (a + p)) = false), ⟨_, hi, l1, by rw [wrap_i64 (by omega) (by omega)], rfl, Nat.le_refl _, hR, hP, hH, .small (by omega), fun p q h1 h2 h3 => by omega⟩, ?_⟩
  rintro _ s12 _ ⟨j, l2, rfl, rfl, hj, hR2, hP2, hH2, hS2, hA2⟩
  have hl2 := hP2.len
  refine bsel_of (fun c => ?_) fun c => ?_
  ·have c : 1 ≤ j := by simp at c; omega
   obtain ⟨i, rfl⟩ : ∃ i, j = i + 1 := ⟨j - 1, by omega⟩
   rw [show ((i + 1 : Nat) : Int) - 1 = (i : Int) by omega]
   intro s14 hB
   refine (hR2.bump hB).swap mkE_one (wr_add (by omega)) rfl (by omega) (by omega) fun s26 hR3 => ?_
   have gg := fun k => at_sw (l := l2) (i := a) (j := a + i) (k := k) (by omega) (by omega)
   have hold : ∀ k, k < i + 1 → ∃ k', k' < i + 1 ∧ at' (sw l2 a (a + i)) (a + k) = at' l2 (a + k') := fun k hk => by
    rw [gg]
    split
    ·exact ⟨0, by omega, by simp⟩
    ·split
     ·exact ⟨i, by omega, rfl⟩
     ·exact ⟨k, hk, rfl⟩
   refine (Sift_ok hR3 (lo := 0) (hi := i) (f := a) (by simp; omega) (by omega) (by simp; omega) fun k c h1 h2 h3 => ?_).mono ?_
   ·rw [gg, gg, if_neg (by omega), if_neg (by omega), if_neg (by omega), if_neg (by omega)]
    exact hH2 k c (by omega) (by omega) h3
   ·rintro _ s28 ⟨rfl, l4, hR4, hP4, hH4⟩
    rw [Nat.add_zero] at hP4
    have htop : at' l4 (a + i) = at' l2 a := by rw [hP4.out _ (.inr (Nat.le_refl _)), gg, if_pos rfl]
    have hkeep : ∀ q, i + 1 ≤ q → at' l4 (a + q) = at' l2 (a + q) := fun q hq => by rw [hP4.out _ (.inr (by omega)), gg, if_neg (by omega), if_neg (by omega)]
    refine ⟨rfl, i + 1, by omega, i, l4, by rw [wrap_i64 (by omega) (by omega)], rfl, by omega, hR4, hP2.trans ((RP.sw (by omega) (by omega) (by omega) (by omega)).trans (hP4.mono (Nat.le_refl _) (by omega))), hH4, fun p q h1 h2 h3 => ?_, fun p q h1 h2 h3 => ?_⟩
    ·obtain ⟨q', rfl⟩ : ∃ q', q = a + q' := ⟨q - a, by omega⟩
     obtain ⟨p', rfl⟩ : ∃ p', p = a + p' := ⟨p - a, by omega⟩
     rw [hkeep q' (by omega)]
     by_cases e : p' = i
     ·rw [e, htop]; exact hA2 0 q' (by omega) (by omega) (by omega)
     ·rw [hkeep p' (by omega)]; exact hS2 _ _ (by omega) h2 h3
    ·by_cases e : q = i
     ·subst e
      rw [htop]
      refine hP4.all (p := fun y => ltE (at' l2 a) y = false) (by simp; omega) (fun k g1 g2 => ?_) (a + p) (by omega) (by omega)
      obtain ⟨k', rfl⟩ : ∃ k', k = a + k' := ⟨k - a, by omega⟩
      obtain ⟨k2, e1, e2⟩ := hold k' (by omega)
      rw [e2]
      exact hH2.top k2 e1
     ·rw [hkeep q (by omega)]
      refine hP4.all (p := fun y => ltE (at' l2 (a + q)) y = false) (by simp; omega) (fun k g1 g2 => ?_) (a + p) (by omega) (by omega)
      obtain ⟨k', rfl⟩ : ∃ k', k = a + k' := ⟨k - a, by omega⟩
      obtain ⟨k2, e1, e2⟩ := hold k' (by omega)
      rw [e2]
      exact hA2 k2 q e1 (by omega) h3
  ·have c : j = 0 := by simp at c; omega
   subst c
   exact ⟨rfl, l2, hR2, hP2, by simpa using hS2⟩
theorem Reverse_ok {s0 s : St} {x : AV} {l : List Int} (h : Row mkE s0 x s l) {a b : Nat} (hab : a ≤ b) (hb : b ≤ l.length) (hsz : l.length < 2305843009213693952) :
  CallsD P F.slices_reverseRangeOrdered_int64 [x, .int .i64 (a : Int), .int .i64 (b : Int)] s fun v s' => v = .tuple [] ∧ ∃ l', Row mkE s0 x s' l' ∧ RP a b l l' := by
 refine vc.slices_reverseRangeOrdered_int64_ok ⟨fun n3 n4 s5 m => ∃ (i j : Nat) (l1 : List Int), n3 = i ∧ n4 = (j : Int) - 1 ∧ m = j ∧ a ≤ i ∧ j ≤ b ∧ Row mkE s0 x s5 l1 ∧ RP a b l l1, ⟨_, a, b, l, rfl, by rw [wrap_i64 (by omega) (by omega)], rfl, Nat.le_refl _, Nat.le_refl _, h, .refl _ _ _⟩, ?_⟩
 rintro _ _ s5 m ⟨i, j, l1, rfl, rfl, hm, hi, hj, hR, hP⟩
 have hl1 := hP.len
 refine bsel_of (fun c => ?_) fun c => ⟨rfl, l1, hR, hP⟩
 have c : i + 1 < j := by simp at c; omega
 obtain ⟨j, rfl⟩ : ∃ j', j = j' + 1 := ⟨j - 1, by omega⟩
 rw [show ((j + 1 : Nat) : Int) - 1 = (j : Int) by omega]
 intro s7 hB
 refine (hR.bump hB).swap mkE_one rfl rfl (by omega) (by omega) fun s19 hR3 => ?_
 exact ⟨j, by omega, i + 1, j, _, wr_succ (by omega), by rw [wrap_i64 (by omega) (by omega)], rfl, by omega, by omega, hR3, hP.trans (.sw (by omega) (by omega) (by omega) (by omega))⟩
end
end Go.Eng.S

namespace Go.Eng.S
open Go Go.Eng Go.Proofs
set_option linter.constructorNameAsVariable false
noncomputable section
attribute [local irreducible] bsel
structure Pt (g : Int → Int → Bool) (s0 : St) (x : AV) (l : List Int) (a b i j : Nat) (s : St) (l1 : List Int) : Prop where
 row : Row mkE s0 x s l1
 rp : RP a b l l1
 ha : a + 1 ≤ i
 hij : i ≤ j + 1
 hb : j + 1 ≤ b
 lo : ∀ k, a + 1 ≤ k → k < i → g (at' l1 a) (at' l1 k) = true
 hi : ∀ k, j < k → k < b → g (at' l1 a) (at' l1 k) = false
variable {g : Int → Int → Bool} {s0 s s' : St} {x : AV} {l l1 : List Int} {a b i j : Nat}
theorem Pt.at (h : Pt g s0 x l a b i j s l1) (hR : Row mkE s0 x s' l1) : Pt g s0 x l a b i j s' l1 := ⟨hR, h.rp, h.ha, h.hij, h.hb, h.lo, h.hi⟩
theorem Pt.up (h : Pt g s0 x l a b i j s l1) (hR : Row mkE s0 x s' l1) (hij : i ≤ j) (hg : g (at' l1 a) (at' l1 i) = true) : Pt g s0 x l a b (i + 1) j s' l1 :=
 ⟨hR, h.rp, by have := h.ha; omega, by omega, h.hb, fun k h1 h2 => by
  by_cases e : k = i
  ·rw [e]; exact hg
  ·exact h.lo k h1 (by omega), h.hi⟩
theorem Pt.down (h : Pt g s0 x l a b i j s l1) (hR : Row mkE s0 x s' l1) (hij : i ≤ j) (hg : g (at' l1 a) (at' l1 j) = false) : Pt g s0 x l a b i (j - 1) s' l1 :=
 ⟨hR, h.rp, h.ha, by have := h.ha; omega, by have := h.hb; omega, h.lo, fun k h1 h2 => by
  by_cases e : k = j
  ·rw [e]; exact hg
  ·exact h.hi k (by have := h.ha; omega) h2⟩
theorem Pt.step (h : Pt g s0 x l a b i j s l1) (hbl : b ≤ l.length) (hij : i ≤ j) (h1 : g (at' l1 a) (at' l1 i) = false) (h2 : g (at' l1 a) (at' l1 j) = true) (hR : Row mkE s0 x s' (sw l1 i j)) : Pt g s0 x l a b (i + 1) (j - 1) s' (sw l1 i j) := by
 have hne : i ≠ j := by rintro rfl; rw [h1] at h2; simp at h2
 have hl := h.rp.len
 have ha := h.ha
 have hb := h.hb
 have gg := fun k => at_sw (l := l1) (i := i) (j := j) (k := k) (by omega) (by omega)
 refine ⟨hR, h.rp.trans (.sw (by omega) (by omega) (by omega) (by omega)), by omega, by omega, by omega, fun k g1 g2 => ?_, fun k g1 g2 => ?_⟩
 ·rw [gg, gg, if_neg (show ¬ a = j by omega), if_neg (show ¬ a = i by omega), if_neg (show ¬ k = j by omega)]
  by_cases e : k = i
  ·rw [if_pos e]; exact h2
  ·rw [if_neg e]; exact h.lo k g1 (by omega)
 ·rw [gg, gg, if_neg (show ¬ a = j by omega), if_neg (show ¬ a = i by omega)]
  by_cases e : k = j
  ·rw [if_pos e]; exact h1
  ·rw [if_neg e, if_neg (by omega)]; exact h.hi k (by omega) g2
def PartQ (s0 : St) (x : AV) (l : List Int) (a b : Nat) (v : AV) (s' : St) : Prop :=
 ∃ (mid : Nat) (c : Bool) (l' : List Int), v = .tuple [.int .i64 (mid : Int), .bool c] ∧ a ≤ mid ∧ mid < b ∧ Row mkE s0 x s' l' ∧ RP a b l l' ∧ (∀ k, a ≤ k → k < mid → ltE (at' l' k) (at' l' mid) = true) ∧ (∀ k, mid < k → k < b → ltE (at' l' k) (at' l' mid) = false)
abbrev gP (p y : Int) : Bool := ltE y p
abbrev gE (p y : Int) : Bool := !ltE p y
theorem Pt.fin (h : Pt gP s0 x l a b i j s l1) (hbl : b ≤ l.length) (hij : j < i) (c : Bool) (hR : Row mkE s0 x s' (sw l1 j a)) : PartQ s0 x l a b (.tuple [.int .i64 (j : Int), .bool c]) s' := by
 have hl := h.rp.len
 have ha := h.ha
 have hb := h.hb
 have hi := h.hij
 have gg := fun k => at_sw (l := l1) (i := j) (j := a) (k := k) (by omega) (by omega)
 refine ⟨j, c, _, rfl, by omega, by omega, hR, h.rp.trans (.sw (by omega) (by omega) (by omega) (by omega)), fun k g1 g2 => ?_, fun k g1 g2 => ?_⟩
 ·rw [gg, gg, if_neg (show ¬ j = a by omega), if_pos rfl]
  by_cases e : k = a
  ·rw [if_pos e]; exact h.lo j (by omega) (by omega)
  ·rw [if_neg e, if_neg (by omega)]; exact h.lo k (by omega) (by omega)
 ·have hja : at' (sw l1 j a) j = at' l1 a := by
   rw [gg]
   by_cases e : j = a
   ·rw [if_pos e, e]
   ·rw [if_neg e, if_pos rfl]
  rw [hja, gg, if_neg (by omega), if_neg (by omega)]
  exact h.hi k g1 g2
theorem Partition_ok (h : Row mkE s0 x s l) {p : Nat} (hp : a ≤ p ∧ p < b) (hb : b ≤ l.length) (hsz : l.length < 2305843009213693952) :
  CallsD P F.slices_partitionOrdered_int64 [x, .int .i64 (a : Int), .int .i64 (b : Int), .int .i64 (p : Int)] s (PartQ s0 x l a b) := by
 refine vc.slices_partitionOrdered_int64_ok fun s1 hB => (h.bump hB).swap mkE_one rfl rfl (by omega) (by omega) fun s13 hR0 => ?_
 have hP0 : RP a b l (sw l a p) := .sw (by omega) (by omega) (by omega) (by omega)
 generalize sw l a p = l0 at hR0 hP0
 rw [wr_succ (a := a) (by omega), wr_pred (a := b) (by omega) (by omega)]
 refine ⟨fun n16 s17 m => ∃ i : Nat, n16 = i ∧ m = b - i ∧ Pt gP s0 x l a b i (b - 1) s17 l0, ⟨_, a + 1, rfl, rfl, hR0, hP0, Nat.le_refl _, by omega, by omega, fun k h1 h2 => by omega, fun k h1 h2 => by omega⟩, ?_⟩
 rintro _ s17 _ ⟨i, rfl, rfl, hT⟩
 have hl0 := hP0.len
 have hi1 := hT.ha
 have hi2 := hT.hij
 refine ⟨fun c s33 _ => c = (decide (i ≤ b - 1) && ltE (at' l0 i) (at' l0 a)) ∧ Row mkE s0 x s33 l0, ?_, ?_⟩
 ·intro s20 hB
  have hR3 := hT.row.bump hB
  refine bsel_of (fun c1 => ?_) fun c1 => ?_
  ·have c1 : i ≤ b - 1 := by simp only [decide_eq_true_eq] at c1; omega
   refine hR3.rd rfl (by omega) (hR3.rd rfl (by omega) ((LessI_ok _ _ _).mono ?_))
   rintro _ _ ⟨rfl, rfl⟩
   exact ⟨_, rfl, 0, by simp [c1], hR3⟩
  ·have c1 : ¬ i ≤ b - 1 := by simp only [decide_eq_false_iff_not] at c1; omega
   exact ⟨0, by simp [c1], hR3⟩
 rintro c32 s33 _ ⟨rfl, hR3⟩
 refine bsel_of (fun c1 => ?_) fun c1 => ?_
 ·simp only [Bool.and_eq_true, decide_eq_true_eq] at c1
  exact ⟨b - (i + 1), by omega, i + 1, wr_succ (by omega), rfl, hT.up hR3 c1.1 c1.2⟩
 have hex : i ≤ b - 1 → ltE (at' l0 i) (at' l0 a) = false := fun c2 => by simpa [c2] using c1
 clear c1
 refine ⟨fun n38 s39 m => ∃ j : Nat, n38 = j ∧ m = j ∧ Pt gP s0 x l a b i j s39 l0, ⟨_, b - 1, rfl, rfl, hT.at hR3⟩, ?_⟩
 rintro _ s39 m ⟨j, rfl, hm, hT2⟩
 have hj1 := hT2.hb
 have hj2 := hT2.hij
 refine ⟨fun c s55 _ => c = (decide (i ≤ j) && !ltE (at' l0 j) (at' l0 a)) ∧ Row mkE s0 x s55 l0, ?_, ?_⟩
 ·intro s42 hB
  have hR4 := hT2.row.bump hB
  refine bsel_of (fun c1 => ?_) fun c1 => ?_
  ·have c1 : i ≤ j := by simp only [decide_eq_true_eq] at c1; omega
   refine hR4.rd rfl (by omega) (hR4.rd rfl (by omega) ((LessI_ok _ _ _).mono ?_))
   rintro _ _ ⟨rfl, rfl⟩
   exact ⟨_, rfl, 0, by simp [c1], hR4⟩
  ·have c1 : ¬ i ≤ j := by simp only [decide_eq_false_iff_not] at c1; omega
   exact ⟨0, by simp [c1], hR4⟩
 rintro c54 s55 _ ⟨rfl, hR4⟩
 refine bsel_of (fun c1 => ?_) fun c1 => ?_
 ·simp only [Bool.and_eq_true, decide_eq_true_eq, Bool.not_eq_true'] at c1
  exact ⟨j - 1, by omega, j - 1, wr_pred (by omega) (by omega), rfl, hT2.down hR4 c1.1 c1.2⟩
 have hex2 : i ≤ j → ltE (at' l0 j) (at' l0 a) = true := fun c2 => by simpa [c2] using c1
 clear c1
 refine bsel_of (fun c1 => ?_) fun c1 => ?_
 ·have c1 : j < i := by simp only [decide_eq_true_eq] at c1; omega
  intro s58 hB
  exact (hR4.bump hB).swap mkE_one rfl rfl (by omega) (by omega) fun s70 hR5 => hT2.fin hb c1 true hR5
 have c1 : i ≤ j := by simp only [decide_eq_false_iff_not] at c1; omega
 intro s71 hB
 refine (hR4.bump hB).swap mkE_one rfl rfl (by omega) (by omega) fun s83 hR5 => ?_
 have hT3 := hT2.step hb c1 (hex (by omega)) (hex2 c1) hR5
 generalize sw l0 i j = l5 at hR5 hT3
 rw [wr_succ (a := i) (by omega), wr_pred (a := j) (by omega) (by omega)]
 have hj4 := hT3.ha
 generalize i + 1 = i3 at hT3 hj4
 have hj5 := hT3.hb
 generalize j - 1 = j3 at hT3 hj5
 refine ⟨fun n86 n87 s88 m => ∃ (i j : Nat) (l1 : List Int), n86 = i ∧ n87 = j ∧ m = j + 1 - i ∧ Pt gP s0 x l a b i j s88 l1, ⟨_, i3, j3, l5, rfl, rfl, rfl, hT3⟩, ?_⟩
 clear hex hex2 c1 hT hT2 hT3 hR0 hR3 hR4 hR5 hP0 hl0 hi1 hi2 hj1 hj2 hj4 hj5 hm m
 rintro _ _ s88 m89 ⟨i, j, l1, rfl, rfl, hm89, hT⟩
 have hl1 := hT.rp.len
 refine ⟨fun n92 s93 m => ∃ i1 : Nat, n92 = i1 ∧ m = j + 1 - i1 ∧ i ≤ i1 ∧ Pt gP s0 x l a b i1 j s93 l1, ⟨_, i, rfl, rfl, Nat.le_refl _, hT⟩, ?_⟩
 rintro _ s93 m94 ⟨i1, rfl, hm94, hii, hT1⟩
 have hi1 := hT1.ha
 have hi2 := hT1.hij
 have hi3 := hT1.hb
 refine ⟨fun c s33 _ => c = (decide (i1 ≤ j) && ltE (at' l1 i1) (at' l1 a)) ∧ Row mkE s0 x s33 l1, ?_, ?_⟩
 ·intro s20 hB
  have hR3 := hT1.row.bump hB
  refine bsel_of (fun c1 => ?_) fun c1 => ?_
  ·have c1 : i1 ≤ j := by simp only [decide_eq_true_eq] at c1; omega
   refine hR3.rd rfl (by omega) (hR3.rd rfl (by omega) ((LessI_ok _ _ _).mono ?_))
   rintro _ _ ⟨rfl, rfl⟩
   exact ⟨_, rfl, 0, by simp [c1], hR3⟩
  ·have c1 : ¬ i1 ≤ j := by simp only [decide_eq_false_iff_not] at c1; omega
   exact ⟨0, by simp [c1], hR3⟩
 rintro c108 s109 _ ⟨rfl, hR3⟩
 refine bsel_of (fun c1 => ?_) fun c1 => ?_
 ·simp only [Bool.and_eq_true, decide_eq_true_eq] at c1
  exact ⟨j + 1 - (i1 + 1), by omega, i1 + 1, wr_succ (by omega), rfl, by omega, hT1.up hR3 c1.1 c1.2⟩
 have hex : i1 ≤ j → ltE (at' l1 i1) (at' l1 a) = false := fun c2 => by simpa [c2] using c1
 clear c1
 refine ⟨fun n38 s39 m => ∃ j1 : Nat, n38 = j1 ∧ m = j1 ∧ j1 ≤ j ∧ Pt gP s0 x l a b i1 j1 s39 l1, ⟨_, j, rfl, rfl, Nat.le_refl _, hT1.at hR3⟩, ?_⟩
 rintro _ s115 m116 ⟨j1, rfl, hm116, hjj, hT2⟩
 have hj1 := hT2.hb
 have hj2 := hT2.hij
 refine ⟨fun c s55 _ => c = (decide (i1 ≤ j1) && !ltE (at' l1 j1) (at' l1 a)) ∧ Row mkE s0 x s55 l1, ?_, ?_⟩
 ·intro s42 hB
  have hR4 := hT2.row.bump hB
  refine bsel_of (fun c1 => ?_) fun c1 => ?_
  ·have c1 : i1 ≤ j1 := by simp only [decide_eq_true_eq] at c1; omega
   refine hR4.rd rfl (by omega) (hR4.rd rfl (by omega) ((LessI_ok _ _ _).mono ?_))
   rintro _ _ ⟨rfl, rfl⟩
   exact ⟨_, rfl, 0, by simp [c1], hR4⟩
  ·have c1 : ¬ i1 ≤ j1 := by simp only [decide_eq_false_iff_not] at c1; omega
   exact ⟨0, by simp [c1], hR4⟩
 rintro c130 s131 _ ⟨rfl, hR4⟩
 refine bsel_of (fun c1 => ?_) fun c1 => ?_
 ·simp only [Bool.and_eq_true, decide_eq_true_eq, Bool.not_eq_true'] at c1
  exact ⟨j1 - 1, by omega, j1 - 1, wr_pred (by omega) (by omega), rfl, by omega, hT2.down hR4 c1.1 c1.2⟩
 have hex2 : i1 ≤ j1 → ltE (at' l1 j1) (at' l1 a) = true := fun c2 => by simpa [c2] using c1
 clear c1
 refine bsel_of (fun c1 => ?_) fun c1 => ?_
 ·have c1 : j1 < i1 := by simp only [decide_eq_true_eq] at c1; omega
  intro s58 hB
  exact (hR4.bump hB).swap mkE_one rfl rfl (by omega) (by omega) fun s70 hR5 => hT2.fin hb c1 false hR5
 have c1 : i1 ≤ j1 := by simp only [decide_eq_false_iff_not] at c1; omega
 intro s147 hB
 refine (hR4.bump hB).swap mkE_one rfl rfl (by omega) (by omega) fun s159 hR5 => ?_
 exact ⟨j1 - 1 + 1 - (i1 + 1), by omega, i1 + 1, j1 - 1, _, wr_succ (by omega), wr_pred (by omega) (by omega), rfl, hT2.step hb c1 (hex (by omega)) (hex2 c1) hR5⟩
def PartEQ (s0 : St) (x : AV) (l : List Int) (a b : Nat) (pv : Int) (v : AV) (s' : St) : Prop :=
 ∃ (mid : Nat) (l' : List Int), v = .int .i64 (mid : Int) ∧ a < mid ∧ mid ≤ b ∧ Row mkE s0 x s' l' ∧ RP a b l l' ∧ (∀ k, a ≤ k → k < mid → ltE pv (at' l' k) = false) ∧ (∀ k, mid ≤ k → k < b → ltE pv (at' l' k) = true)
theorem PartitionEqual_ok (h : Row mkE s0 x s l) {p : Nat} (hp : a ≤ p ∧ p < b) (hb : b ≤ l.length) (hsz : l.length < 2305843009213693952) :
  CallsD P F.slices_partitionEqualOrdered_int64 [x, .int .i64 (a : Int), .int .i64 (b : Int), .int .i64 (p : Int)] s (PartEQ s0 x l a b (at' l p)) := by
 refine vc.slices_partitionEqualOrdered_int64_ok fun s1 hB => (h.bump hB).swap mkE_one rfl rfl (by omega) (by omega) fun s13 hR0 => ?_
 have hP0 : RP a b l (sw l a p) := .sw (by omega) (by omega) (by omega) (by omega)
 have hpv : at' (sw l a p) a = at' l p := by
  rw [at_sw (by omega) (by omega)]
  by_cases e : a = p
  ·rw [if_pos e, e]
  ·rw [if_neg e, if_pos rfl]
 generalize sw l a p = l0 at hR0 hP0 hpv
 rw [wr_succ (a := a) (by omega), wr_pred (a := b) (by omega) (by omega)]
 refine ⟨fun n86 n87 s88 m => ∃ (i j : Nat) (l1 : List Int), n86 = i ∧ n87 = j ∧ m = j + 1 - i ∧ at' l1 a = at' l p ∧ Pt gE s0 x l a b i j s88 l1, ⟨_, a + 1, b - 1, l0, rfl, rfl, rfl, hpv, hR0, hP0, Nat.le_refl _, by omega, by omega, fun k h1 h2 => by omega, fun k h1 h2 => by omega⟩, ?_⟩
 clear hpv
 rintro _ _ s88 m89 ⟨i, j, l1, rfl, rfl, hm89, hpv, hT⟩
 have hl1 := hT.rp.len
 refine ⟨fun n92 s93 m => ∃ i1 : Nat, n92 = i1 ∧ m = j + 1 - i1 ∧ i ≤ i1 ∧ Pt gE s0 x l a b i1 j s93 l1, ⟨_, i, rfl, rfl, Nat.le_refl _, hT⟩, ?_⟩
 rintro _ s93 m94 ⟨i1, rfl, hm94, hii, hT1⟩
 have hi1 := hT1.ha
 have hi2 := hT1.hij
 have hi3 := hT1.hb
 refine ⟨fun c s33 _ => c = (decide (i1 ≤ j) && !ltE (at' l1 a) (at' l1 i1)) ∧ Row mkE s0 x s33 l1, ?_, ?_⟩
 ·intro s20 hB
  have hR3 := hT1.row.bump hB
  refine bsel_of (fun c1 => ?_) fun c1 => ?_
  ·have c1 : i1 ≤ j := by simp only [decide_eq_true_eq] at c1; omega
   refine hR3.rd rfl (by omega) (hR3.rd rfl (by omega) ((LessI_ok _ _ _).mono ?_))
   rintro _ _ ⟨rfl, rfl⟩
   exact ⟨_, rfl, 0, by simp [c1], hR3⟩
  ·have c1 : ¬ i1 ≤ j := by simp only [decide_eq_false_iff_not] at c1; omega
   exact ⟨0, by simp [c1], hR3⟩
 rintro c108 s109 _ ⟨rfl, hR3⟩
 refine bsel_of (fun c1 => ?_) fun c1 => ?_
 ·simp only [Bool.and_eq_true, decide_eq_true_eq] at c1
  exact ⟨j + 1 - (i1 + 1), by omega, i1 + 1, wr_succ (by omega), rfl, by omega, hT1.up hR3 c1.1 c1.2⟩
 have hex : i1 ≤ j → gE (at' l1 a) (at' l1 i1) = false := fun c2 => by simpa [c2] using c1
 clear c1
 refine ⟨fun n38 s39 m => ∃ j1 : Nat, n38 = j1 ∧ m = j1 ∧ j1 ≤ j ∧ Pt gE s0 x l a b i1 j1 s39 l1, ⟨_, j, rfl, rfl, Nat.le_refl _, hT1.at hR3⟩, ?_⟩
 rintro _ s115 m116 ⟨j1, rfl, hm116, hjj, hT2⟩
 have hj1 := hT2.hb
 have hj2 := hT2.hij
 refine ⟨fun c s55 _ => c = (decide (i1 ≤ j1) && ltE (at' l1 a) (at' l1 j1)) ∧ Row mkE s0 x s55 l1, ?_, ?_⟩
 ·intro s42 hB
  have hR4 := hT2.row.bump hB
  refine bsel_of (fun c1 => ?_) fun c1 => ?_
  ·have c1 : i1 ≤ j1 := by simp only [decide_eq_true_eq] at c1; omega
   refine hR4.rd rfl (by omega) (hR4.rd rfl (by omega) ((LessI_ok _ _ _).mono ?_))
   rintro _ _ ⟨rfl, rfl⟩
   exact ⟨_, rfl, 0, by simp [c1], hR4⟩
  ·have c1 : ¬ i1 ≤ j1 := by simp only [decide_eq_false_iff_not] at c1; omega
   exact ⟨0, by simp [c1], hR4⟩
 rintro c130 s131 _ ⟨rfl, hR4⟩
 refine bsel_of (fun c1 => ?_) fun c1 => ?_
 ·simp only [Bool.and_eq_true, decide_eq_true_eq] at c1
  exact ⟨j1 - 1, by omega, j1 - 1, wr_pred (by omega) (by omega), rfl, by omega, hT2.down hR4 c1.1 (by simp [gE, c1.2])⟩
 have hex2 : i1 ≤ j1 → gE (at' l1 a) (at' l1 j1) = true := fun c2 => by simpa [c2] using c1
 clear c1
 refine bsel_of (fun c1 => ?_) fun c1 => ?_
 ·have c1 : j1 < i1 := by simp only [decide_eq_true_eq] at c1; omega
  refine ⟨i1, l1, rfl, by omega, by omega, hR4, hT2.rp, fun k g1 g2 => ?_, fun k g1 g2 => ?_⟩
  ·rw [← hpv]
   by_cases e : k = a
   ·rw [e]; exact ltE_o.irrefl _
   ·have := hT2.lo k (by omega) g2
    simpa [gE] using this
  ·rw [← hpv]
   have := hT2.hi k (by omega) g2
   simpa [gE] using this
 have c1 : i1 ≤ j1 := by simp only [decide_eq_false_iff_not] at c1; omega
 intro s147 hB
 refine (hR4.bump hB).swap mkE_one rfl rfl (by omega) (by omega) fun s159 hR5 => ?_
 exact ⟨j1 - 1 + 1 - (i1 + 1), by omega, i1 + 1, j1 - 1, _, wr_succ (by omega), wr_pred (by omega) (by omega), rfl, by rw [at_sw (by omega) (by omega), if_neg (by omega), if_neg (by omega)]; exact hpv, hT2.step hb c1 (hex (by omega)) (hex2 c1) hR5⟩
end
end Go.Eng.S

namespace Go.Eng.S
open Go Go.Eng Go.Proofs
set_option linter.constructorNameAsVariable false
noncomputable section
attribute [local irreducible] bsel
def Above (l : List Int) (a b : Nat) : Prop := 0 < a → ∀ k, a ≤ k → k < b → ltE (at' l k) (at' l (a - 1)) = false
theorem Above.rp {l l' : List Int} {a b : Nat} (h : Above l a b) (hP : RP a b l l') (hb : b ≤ l.length) : Above l' a b := fun h0 => by
 rw [hP.out (a - 1) (by omega)]
 exact hP.all (p := fun y => ltE y (at' l (a - 1)) = false) hb (h h0)
set_option maxHeartbeats 1000000 in
theorem Partial_ok {s0 s : St} {x : AV} {l : List Int} (h : Row mkE s0 x s l) {a b : Nat} (hab : a < b) (hb : b ≤ l.length) (hsz : l.length < 2305843009213693952) (hA : Above l a b) :
  CallsD P F.slices_partialInsertionSortOrdered_int64 [x, .int .i64 (a : Int), .int .i64 (b : Int)] s fun v s' => ∃ (c : Bool) (l' : List Int), v = .bool c ∧ Row mkE s0 x s' l' ∧ RP a b l l' ∧ (c = true → Rise ltE a b l') := by
 refine vc.slices_partialInsertionSortOrdered_int64_ok ⟨fun n3 n4 s5 m => ∃ (i t : Nat) (l1 : List Int), n3 = i ∧ n4 = t ∧ m = 5 - t ∧ a + 1 ≤ i ∧ i ≤ b ∧ Row mkE s0 x s5 l1 ∧ RP a b l l1 ∧ Rise ltE a i l1, ⟨_, a + 1, 0, l, wr_succ (by omega), rfl, rfl, Nat.le_refl _, hab, h, .refl _ _ _, .small (Nat.le_refl _)⟩, ?_⟩
 rintro _ _ s5 m6 ⟨i, t, l1, rfl, rfl, hm6, hi, hi2, hR, hP, hS⟩
 have hl1 := hP.len
 refine bsel_of (fun ct => ?_) fun _ => ⟨false, l1, rfl, hR, hP, fun c => by simp at c⟩
 have ct : t < 5 := by simp only [decide_eq_true_eq] at ct; omega
 refine ⟨fun n9 s10 m => ∃ i1 : Nat, n9 = i1 ∧ m = b - i1 ∧ i ≤ i1 ∧ i1 ≤ b ∧ Row mkE s0 x s10 l1 ∧ Rise ltE a i1 l1, ⟨_, i, rfl, rfl, Nat.le_refl _, hi2, hR, hS⟩, ?_⟩
 rintro _ s10 m11 ⟨i1, rfl, hm11, hi3, hi4, hR1, hS1⟩
 refine ⟨fun c s33 _ => c = (decide (i1 < b) && !ltE (at' l1 i1) (at' l1 (i1 - 1))) ∧ Row mkE s0 x s33 l1, ?_, ?_⟩
 ·intro s20 hB
  have hR3 := hR1.bump hB
  refine bsel_of (fun c1 => ?_) fun c1 => ?_
  ·have c1 : i1 < b := by simp only [decide_eq_true_eq] at c1; omega
   refine hR3.rd rfl (by omega) (hR3.rd (wr_pred (by omega) (by omega)) (by omega) ((LessI_ok _ _ _).mono ?_))
   rintro _ _ ⟨rfl, rfl⟩
   exact ⟨_, rfl, 0, by simp [c1], hR3⟩
  ·have c1 : ¬ i1 < b := by simp only [decide_eq_false_iff_not] at c1; omega
   exact ⟨0, by simp [c1], hR3⟩
 rintro c25 s26 _ ⟨rfl, hR3⟩
 refine bsel_of (fun c1 => ?_) fun c1 => ?_
 ·simp only [Bool.and_eq_true, decide_eq_true_eq, Bool.not_eq_true'] at c1
  exact ⟨b - (i1 + 1), by omega, i1 + 1, wr_succ (by omega), rfl, by omega, by omega, hR3, hS1.snoc ltE_o (by omega) c1.2⟩
 clear c1
 refine bsel_of (fun c2 => ?_) fun c2 => bsel_of (fun _ => ⟨false, l1, rfl, hR3, hP, fun c => by simp at c⟩) fun _ => ?_
 ·have c2 : i1 = b := by simp at c2; omega
  subst c2
  exact ⟨true, l1, rfl, hR3, hP, fun _ => hS1⟩
 have c2 : i1 < b := by simp at c2; omega
 intro s29 hB
 refine (hR3.bump hB).swap mkE_one (wr_pred (by omega) (by omega)) rfl (by omega) (by omega) fun s41 hR4 => ?_
 have gg := fun k => at_sw (l := l1) (i := i1) (j := i1 - 1) (k := k) (by omega) (by omega)
 have hP4 : RP a b l (sw l1 i1 (i1 - 1)) := hP.trans (.sw (by omega) (by omega) (by omega) (by omega))
 have hS4 : Rise ltE a (i1 - 1) (sw l1 i1 (i1 - 1)) := (hS1.less (by omega)).same fun k h1 h2 => by rw [gg, if_neg (by omega), if_neg (by omega)]
 clear gg
 generalize sw l1 i1 (i1 - 1) = l2 at hR4 hP4 hS4
 have hl2 := hP4.len
 refine ⟨fun s _ => ∃ l3, Row mkE s0 x s l3 ∧ RP a b l l3 ∧ Rise ltE a i1 l3, ?_, ?_⟩
 ·refine bsel_of (fun c3 => ?_) fun c3 => ?_
  ·rw [wr_pred (a := i1) (by omega) (by omega)]
   refine ⟨fun n45 s46 m => ∃ (j : Nat) (l3 : List Int), n45 = j ∧ m = j ∧ a ≤ j ∧ j ≤ i1 - 1 ∧ Row mkE s0 x s46 l3 ∧ RP a b l l3 ∧ ∀ p q, a ≤ p → p < q → q ≤ i1 - 1 → q ≠ j → ltE (at' l3 q) (at' l3 p) = false, ⟨_, i1 - 1, l2, rfl, rfl, by omega, Nat.le_refl _, hR4, hP4, fun p q h1 h2 h3 h4 => hS4 p q h1 h2 (by omega)⟩, ?_⟩
   rintro _ s46 m47 ⟨j, l3, rfl, hm47, hj, hj2, hR5, hP5, hS5⟩
   have hl3 := hP5.len
   have done : (a < j → ltE (at' l3 j) (at' l3 (j - 1)) = false) → Rise ltE a i1 l3 := fun hd p q h1 h2 h3 => by
    by_cases e : q = j
    ·subst e
     by_cases e2 : p = q - 1
     ·rw [e2]; exact hd (by omega)
     ·exact ltE_o.ntrans _ _ _ (hS5 p (q - 1) h1 (by omega) (by omega) (by omega)) (hd (by omega))
    ·exact hS5 p q h1 h2 (by omega) e
   refine bsel_of (fun c4 => ?_) fun c4 => ?_
   ·have c4 : 1 ≤ j := by simp only [decide_eq_true_eq] at c4; omega
    intro s48 hB
    have hR6 := hR5.bump hB
    refine hR6.rd rfl (by omega) (hR6.rd (wr_pred (by omega) (by omega)) (by omega) ((LessI_ok _ _ _).mono ?_))
    rintro _ _ ⟨rfl, rfl⟩
    refine ⟨_, rfl, bsel_of (fun c5 => ?_) fun c5 => ?_⟩
    ·have c5 : ltE (at' l3 j) (at' l3 (j - 1)) = false := by simpa using c5
     exact ⟨0, l3, hR6, hP5, done fun _ => c5⟩
    ·have c5 : ltE (at' l3 j) (at' l3 (j - 1)) = true := by simpa using c5
     have haj : a < j := by
      refine Classical.byContradiction fun hn => ?_
      have e : j = a := by omega
      subst e
      have := (hA.rp hP5 hb) (by omega) j (Nat.le_refl _) hab
      rw [this] at c5; simp at c5
     intro s59 hB
     refine (hR6.bump hB).swap mkE_one (wr_pred (by omega) (by omega)) rfl (by omega) (by omega) fun s71 hR7 => ⟨j - 1, by omega, j - 1, _, wr_pred (by omega) (by omega), rfl, by omega, by omega, hR7, hP5.trans (.sw (by omega) (by omega) (by omega) (by omega)), ?_⟩
     intro p q h1 h2 h3 h4
     have gg := fun k => at_sw (l := l3) (i := j) (j := j - 1) (k := k) (by omega) (by omega)
     rw [gg, gg, if_neg (show ¬ q = j - 1 by omega)]
     by_cases e1 : q = j
     ·rw [if_pos e1]
      by_cases e2 : p = j - 1
      ·rw [if_pos e2]; exact ltE_o.asym _ _ c5
      ·rw [if_neg e2, if_neg (by omega)]; exact hS5 p (j - 1) h1 (by omega) (by omega) (by omega)
     ·rw [if_neg e1]
      by_cases e2 : p = j - 1
      ·rw [if_pos e2]; exact hS5 j q (by omega) (by omega) h3 e1
      ·rw [if_neg e2]
       by_cases e3 : p = j
       ·rw [if_pos e3]; exact hS5 (j - 1) q (by omega) (by omega) h3 e1
       ·rw [if_neg e3]; exact hS5 p q h1 h2 h3 e1
   ·have c4 : j = 0 := by simp only [decide_eq_false_iff_not] at c4; omega
    exact ⟨0, l3, hR5, hP5, done fun h => by omega⟩
  ·have c3 : i1 < a + 2 := by
    rw [wr_sub (a := i1) (b := a) (by omega) (by omega)] at c3
    simp only [decide_eq_false_iff_not] at c3; omega
   exact ⟨0, l2, hR4, hP4, .small (by omega)⟩
 rintro s75 _ ⟨l3, hR5, hP5, hS5⟩
 have hl3 := hP5.len
 refine bsel_of (fun c3 => ?_) fun c3 => ⟨5 - (t + 1), by omega, i1, t + 1, l3, rfl, wr_succ (by omega), rfl, by omega, hi4, hR5, hP5, hS5⟩
 rw [wr_succ (a := i1) (by omega)]
 refine ⟨fun n79 s80 m => ∃ (j : Nat) (l4 : List Int), n79 = j ∧ m = b - j ∧ i1 + 1 ≤ j ∧ j ≤ b ∧ Row mkE s0 x s80 l4 ∧ RP a b l l4 ∧ Rise ltE a i1 l4, ⟨_, i1 + 1, l3, rfl, rfl, Nat.le_refl _, by omega, hR5, hP5, hS5⟩, ?_⟩
 rintro _ s80 m81 ⟨j, l4, rfl, hm81, hj, hj2, hR6, hP6, hS6⟩
 have hl4 := hP6.len
 refine bsel_of (fun c4 => ?_) fun c4 => ⟨5 - (t + 1), by omega, i1, t + 1, l4, rfl, wr_succ (by omega), rfl, by omega, hi4, hR6, hP6, hS6⟩
 have c4 : j < b := by simp only [decide_eq_true_eq] at c4; omega
 intro s82 hB
 have hR7 := hR6.bump hB
 refine hR7.rd rfl (by omega) (hR7.rd (wr_pred (by omega) (by omega)) (by omega) ((LessI_ok _ _ _).mono ?_))
 rintro _ _ ⟨rfl, rfl⟩
 refine ⟨_, rfl, bsel_of (fun c5 => ?_) fun c5 => ?_⟩
 ·exact ⟨5 - (t + 1), by omega, i1, t + 1, l4, rfl, wr_succ (by omega), rfl, by omega, hi4, hR7, hP6, hS6⟩
 ·intro s93 hB
  refine (hR7.bump hB).swap mkE_one (wr_pred (by omega) (by omega)) rfl (by omega) (by omega) fun s105 hR8 => ⟨b - (j + 1), by omega, j + 1, _, wr_succ (by omega), rfl, by omega, by omega, hR8, hP6.trans (.sw (by omega) (by omega) (by omega) (by omega)), hS6.same fun k h1 h2 => ?_⟩
  rw [at_sw (by omega) (by omega), if_neg (by omega), if_neg (by omega)]
end
end Go.Eng.S

namespace Go.Eng.S
open Go Go.Eng Go.Proofs
set_option linter.constructorNameAsVariable false
noncomputable section
attribute [local irreducible] bsel
structure RowR (s0 : St) (x : AV) (s : St) (l : List Int) (r : Nat) (v : AV) : Prop where
 row : Row mkE s0 x s l
 own : Own s r [v]
 new : s0.h.get r = none
 off : r ∉ blkOf x
variable {s0 s s' : St} {x : AV} {l : List Int} {r : Nat} {v : AV}
theorem RowR.ext (h : RowR s0 x s l r v) (hf : Frw [] s s') (hfr : Fr s') : RowR s0 x s' l r v := ⟨h.row.ext hf hfr, h.own.ext hf, h.new, h.off⟩
theorem RowR.bump {n : Nat} (h : RowR s0 x s l r v) (hB : Bump s n s') : RowR s0 x s' l r v := h.ext hB.fwd hB.fr
theorem Frw.besides {s0 s s' : St} {M : List Nat} {r : Nat} (h : Frw M s0 s) (h' : Frw [r] s s') (hr : s0.h.get r = none) : Frw M s0 s' :=
 ⟨fun c o hc ho => h'.1 c o (by
  rintro hcr
  have : c = r := by simpa using hcr
  rw [this, hr] at ho; simp at ho) (h.1 c o hc ho), Nat.le_trans h.2.1 h'.2.1, h'.2.2.trans h.2.2⟩
theorem RowR.set (h : RowR s0 x s l r v) (u : AV) (hu : ones [u] = true) {R : St → Prop} (hR : ∀ s', RowR s0 x s' l r u → R s') : ∃ s', wrN s (.ptr r 0) [u] = some s' ∧ R s' := by
 obtain ⟨s', w1, w2, w3, w4, w5, w6⟩ := h.own.wrAll [u] hu rfl
 have hoff : ∀ c, c ∈ [r] → c ∉ blkOf x := fun c hc => by
  have : c = r := by simpa using hc
  rw [this]; exact h.off
 exact ⟨s', w1, hR s' ⟨⟨h.row.so.beside w3 hoff, Frw.besides h.row.frw w3 h.new, h.row.fr.wr h.own.there w4 w6⟩, w2, h.new, h.off⟩⟩
theorem RowR.go {l' : List Int} (h : RowR s0 x s l r v) (h' : Row mkE s x s' l') : RowR s0 x s' l' r v := ⟨h.row.from h', h.own.fwd h'.frw h.off, h.new, h.off⟩
theorem RowR.new' {m : Nat} {u : AV} (h : Row mkE s0 x s l) (hN : NewO s (cellsO [u]) m s') : RowR s0 x s' l m u := by
 have hoff : m ∉ blkOf x := fun hc => absurd hN.gone (h.so.there m hc)
 exact ⟨h.ext hN.fwd hN.fr, hN.own, h.frw.none hN.gone hoff, hoff⟩
theorem Order2_ok {a b : Nat} {n : Int} (h : RowR s0 x s l r (.int .i64 n)) (ha : a < l.length) (hb : b < l.length) :
  CallsD P F.slices_order2Ordered_int64 [x, .int .i64 (a : Int), .int .i64 (b : Int), .ptr r 0] s fun v s' => ∃ (i j : Nat) (n' : Int), v = .tuple [.int .i64 (i : Int), .int .i64 (j : Int)] ∧ (∀ p : Nat → Prop, p a → p b → p i ∧ p j) ∧ RowR s0 x s' l r (.int .i64 n') := by
 refine vc.slices_order2Ordered_int64_ok fun s1 hB => ?_
 have h1 := h.bump hB
 refine h1.row.rd rfl hb (h1.row.rd rfl ha ((LessI_ok _ _ _).mono ?_))
 rintro _ _ ⟨rfl, rfl⟩
 refine ⟨_, rfl, bsel_of (fun _ => ?_) fun _ => ⟨a, b, n, rfl, fun p pa pb => ⟨pa, pb⟩, h1⟩⟩
 exact ⟨n, h1.own.ld1 0 rfl, h1.set _ rfl fun s2 h2 => ⟨b, a, _, rfl, fun p pa pb => ⟨pb, pa⟩, h2⟩⟩
theorem Median_ok {a b c : Nat} {n : Int} (h : RowR s0 x s l r (.int .i64 n)) (ha : a < l.length) (hb : b < l.length) (hc : c < l.length) :
  CallsD P F.slices_medianOrdered_int64 [x, .int .i64 (a : Int), .int .i64 (b : Int), .int .i64 (c : Int), .ptr r 0] s fun v s' => ∃ (i : Nat) (n' : Int), v = .int .i64 (i : Int) ∧ (∀ p : Nat → Prop, p a → p b → p c → p i) ∧ RowR s0 x s' l r (.int .i64 n') := by
 refine vc.slices_medianOrdered_int64_ok ((Order2_ok h ha hb).mono ?_)
 rintro _ s1 ⟨i1, j1, n1, rfl, hp1, h1⟩
 obtain ⟨g1, g2⟩ := hp1 (fun k => k < l.length) ha hb
 refine ⟨_, _, rfl, (Order2_ok h1 g2 hc).mono ?_⟩
 rintro _ s2 ⟨i2, j2, n2, rfl, hp2, h2⟩
 obtain ⟨g3, g4⟩ := hp2 (fun k => k < l.length) g2 hc
 refine ⟨_, _, rfl, (Order2_ok h2 g1 g3).mono ?_⟩
 rintro _ s3 ⟨i3, j3, n3, rfl, hp3, h3⟩
 exact ⟨_, _, rfl, j3, n3, rfl, fun p pa pb pc => (hp3 p (hp1 p pa pb).1 (hp2 p (hp1 p pa pb).2 pc).1).2, h3⟩
theorem MedianAdjacent_ok {a : Nat} {n : Int} (h : RowR s0 x s l r (.int .i64 n)) (h0 : 0 < a) (ha : a + 1 < l.length) (hsz : l.length < 2305843009213693952) :
  CallsD P F.slices_medianAdjacentOrdered_int64 [x, .int .i64 (a : Int), .ptr r 0] s fun v s' => ∃ (i : Nat) (n' : Int), v = .int .i64 (i : Int) ∧ (∀ p : Nat → Prop, p (a - 1) → p a → p (a + 1) → p i) ∧ RowR s0 x s' l r (.int .i64 n') := by
 refine vc.slices_medianAdjacentOrdered_int64_ok ?_
 unfold vc.slices_medianAdjacentOrdered_int64
 rw [wr_succ (a := a) (by omega), wr_pred (a := a) (by omega) (by omega)]
 refine (Median_ok h (a := a - 1) (b := a) (c := a + 1) (by omega) (by omega) ha).mono ?_
 rintro _ s1 ⟨i1, n1, rfl, hp1, h1⟩
 exact ⟨_, rfl, i1, n1, rfl, hp1, h1⟩
theorem ChoosePivot_ok (h : Row mkE s0 x s l) {a b : Nat} (hab : a + 12 < b) (hb : b ≤ l.length) (hsz : l.length < 2305843009213693952) :
  CallsD P F.slices_choosePivotOrdered_int64 [x, .int .i64 (a : Int), .int .i64 (b : Int)] s fun v s' => ∃ (i : Nat) (n : Int), v = .tuple [.int .i64 (i : Int), .int .i64 n] ∧ a ≤ i ∧ i < b ∧ Row mkE s0 x s' l := by
 refine vc.slices_choosePivotOrdered_int64_ok fun m1 s2 hN => ⟨by decide, by decide, by decide, ?_⟩
 have hR : RowR s0 x s2 l m1 (.int .i64 0) := RowR.new' h hN
 have w0 := wr_sub (a := b) (b := a) (by omega) (by omega)
 have w1 := wr_half (a := b - a) (b := 4) (by omega) (by omega)
 rw [show ((4 : Nat) : Int) = 4 from rfl] at w1
 rw [w0, w1]
 have wq : ∀ k : Nat, k ≤ 3 → IntKind.wrap .i64 ((a : Int) + IntKind.wrap .i64 ((((b - a) / 4 : Nat) : Int) * (k : Int))) = ((a + (b - a) / 4 * k : Nat) : Int) := fun k hk => by
  have : (b - a) / 4 * k ≤ (b - a) / 4 * 3 := Nat.mul_le_mul_left _ hk
  have e : (((b - a) / 4 : Nat) : Int) * (k : Int) = (((b - a) / 4 * k : Nat) : Int) := by push_cast; rfl
  rw [e, wr_nat (by omega), wr_add (by omega)]
 have wq1 := wq 1 (by omega)
 have wq2 := wq 2 (by omega)
 have wq3 := wq 3 (by omega)
 simp only [show ((1 : Nat) : Int) = 1 from rfl, show ((2 : Nat) : Int) = 2 from rfl, show ((3 : Nat) : Int) = 3 from rfl] at wq1 wq2 wq3
 rw [wq1, wq2, wq3]
 clear wq wq1 wq2 wq3
 refine ⟨fun n26 s27 _ => ∃ (i : Nat) (n : Int), n26 = i ∧ a ≤ i ∧ i < b ∧ RowR s0 x s27 l m1 (.int .i64 n), ?_, ?_⟩
 ·refine bsel_of (fun c1 => ?_) fun c1 => ⟨0, _, 0, rfl, by omega, by omega, hR⟩
  refine ⟨fun n16 n17 n18 s19 _ => ∃ (i j k : Nat) (n : Int), n16 = i ∧ n17 = j ∧ n18 = k ∧ (a ≤ i ∧ i < b) ∧ (a ≤ j ∧ j < b) ∧ (a ≤ k ∧ k < b) ∧ RowR s0 x s19 l m1 (.int .i64 n), ?_, ?_⟩
  ·refine bsel_of (fun c2 => ?_) fun c2 => ⟨0, _, _, _, 0, rfl, rfl, rfl, by omega, by omega, by omega, hR⟩
   have c2 : 50 ≤ b - a := by simp only [decide_eq_true_eq] at c2; omega
   refine (MedianAdjacent_ok hR (a := a + (b - a) / 4 * 1) (by omega) (by omega) hsz).mono ?_
   rintro _ s6 ⟨i, n1, rfl, hp1, h1⟩
   refine ⟨_, rfl, (MedianAdjacent_ok h1 (a := a + (b - a) / 4 * 2) (by omega) (by omega) hsz).mono ?_⟩
   rintro _ s9 ⟨j, n2, rfl, hp2, h2⟩
   refine ⟨_, rfl, (MedianAdjacent_ok h2 (a := a + (b - a) / 4 * 3) (by omega) (by omega) hsz).mono ?_⟩
   rintro _ s12 ⟨k, n3, rfl, hp3, h3⟩
   exact ⟨_, rfl, 0, i, j, k, n3, rfl, rfl, rfl, hp1 (fun i => a ≤ i ∧ i < b) (by omega) (by omega) (by omega), hp2 (fun i => a ≤ i ∧ i < b) (by omega) (by omega) (by omega), hp3 (fun i => a ≤ i ∧ i < b) (by omega) (by omega) (by omega), h3⟩
  ·rintro _ _ _ s19 _ ⟨i, j, k, n, rfl, rfl, rfl, hi, hj, hk, h3⟩
   refine (Median_ok h3 (a := i) (b := j) (c := k) (by omega) (by omega) (by omega)).mono ?_
   rintro _ s22 ⟨p, n4, rfl, hp, h4⟩
   have := hp (fun i => a ≤ i ∧ i < b) hi hj hk
   exact ⟨_, rfl, 0, p, n4, rfl, this.1, this.2, h4⟩
 ·rintro _ s27 _ ⟨i, n, rfl, g1, g2, h5⟩
  exact ⟨n, h5.own.ld1 0 rfl, bsel_of (fun _ => ⟨i, _, rfl, g1, g2, h5.row⟩) fun _ => bsel_of (fun _ => ⟨i, _, rfl, g1, g2, h5.row⟩) fun _ => ⟨i, _, rfl, g1, g2, h5.row⟩⟩
end
end Go.Eng.S

namespace Go.Eng.S
open Go Go.Eng Go.Proofs
set_option linter.constructorNameAsVariable false
noncomputable section
attribute [local irreducible] bsel
variable {s0 s s' : St} {x : AV} {l : List Int} {r : Nat} {v : AV}
set_option maxRecDepth 100000 in
theorem Len64_ok {y : Nat} (hy : y < 18446744073709551616) (s : St) : CallsD P F.math_bits_Len64 [.int .u64 (y : Int)] s fun v s' => ∃ n : Nat, v = .int .i64 (n : Int) ∧ LenP y n ∧ n ≤ 64 ∧ s' = s := by
 refine vc.math_bits_Len64_ok ⟨fun n4 n5 s6 _ => s6 = s ∧ ∃ a k : Nat, n4 = a ∧ n5 = k ∧ a < 4294967296 ∧ k ≤ 32 ∧ ∀ m, LenP a m → LenP y (m + k), ?_, ?_⟩
 ·refine bsel_of (fun c => ?_) fun c => ?_
  ·have c : 2 ^ 32 ≤ y := by simp only [decide_eq_true_eq] at c; omega
   exact ⟨by decide, 0, rfl, y / 2 ^ 32, 32, fdiv_pow y 32, rfl, by omega, by omega, fun m h => h.shift c⟩
  ·have c : y < 4294967296 := by simp only [decide_eq_false_iff_not] at c; omega
   exact ⟨0, rfl, y, 0, rfl, rfl, c, by omega, fun m h => h⟩
 rintro _ _ s6 _ ⟨rfl, a, k, rfl, rfl, ha, hk, hL⟩
 refine ⟨fun n4 n5 s7 _ => s7 = s6 ∧ ∃ a k : Nat, n4 = a ∧ n5 = k ∧ a < 65536 ∧ k ≤ 48 ∧ ∀ m, LenP a m → LenP y (m + k), ?_, ?_⟩
 ·refine bsel_of (fun c => ?_) fun c => ?_
  ·have c : 2 ^ 16 ≤ a := by simp only [decide_eq_true_eq] at c; omega
   refine ⟨by decide, 0, rfl, a / 2 ^ 16, k + 16, fdiv_pow a 16, wr_add (a := k) (b := 16) (by omega), by omega, by omega, fun m h => ?_⟩
   have := hL _ (h.shift c)
   rwa [show m + 16 + k = m + (k + 16) by omega] at this
  ·have c : a < 65536 := by simp only [decide_eq_false_iff_not] at c; omega
   exact ⟨0, rfl, a, k, rfl, rfl, c, by omega, hL⟩
 clear hL ha hk a k
 rintro _ _ s7 _ ⟨rfl, a, k, rfl, rfl, ha, hk, hL⟩
 refine ⟨fun n4 n5 s8 _ => s8 = s7 ∧ ∃ a k : Nat, n4 = a ∧ n5 = k ∧ a < 256 ∧ k ≤ 56 ∧ ∀ m, LenP a m → LenP y (m + k), ?_, ?_⟩
 ·refine bsel_of (fun c => ?_) fun c => ?_
  ·have c : 2 ^ 8 ≤ a := by simp only [decide_eq_true_eq] at c; omega
   refine ⟨by decide, 0, rfl, a / 2 ^ 8, k + 8, fdiv_pow a 8, wr_add (a := k) (b := 8) (by omega), by omega, by omega, fun m h => ?_⟩
   have := hL _ (h.shift c)
   rwa [show m + 8 + k = m + (k + 8) by omega] at this
  ·have c : a < 256 := by simp only [decide_eq_false_iff_not] at c; omega
   exact ⟨0, rfl, a, k, rfl, rfl, c, by omega, hL⟩
 clear hL ha hk a k
 rintro _ _ s8 _ ⟨rfl, a, k, rfl, rfl, ha, hk, hL⟩
 refine byteK_len (by decide +kernel) ha (wrap_u8 (by omega) (by omega)) fun c h1 h2 => ⟨c.toNat + k, ?_, hL _ h1, by omega, rfl⟩
 rw [wr_nat (a := c.toNat) (by omega), wr_add (a := k) (b := c.toNat) (by omega), Nat.add_comm]
theorem Len_ok {y : Nat} (hy : y < 18446744073709551616) (s : St) : CallsD P F.math_bits_Len [.int .u64 (y : Int)] s fun v s' => ∃ n : Nat, v = .int .i64 (n : Int) ∧ LenP y n ∧ n ≤ 64 ∧ s' = s := by
 refine vc.math_bits_Len_ok ((Len64_ok hy s).mono ?_)
 rintro _ _ ⟨n, rfl, h1, h2, rfl⟩
 exact ⟨_, rfl, n, rfl, h1, h2, rfl⟩
theorem PowerOfTwo_ok {y : Nat} (hy0 : 0 < y) (hy : y < 4611686018427387904) (s : St) : CallsD P F.slices_nextPowerOfTwo [.int .i64 (y : Int)] s fun v s' => ∃ M : Nat, v = .int .u64 (M : Int) ∧ 0 < M ∧ M ≤ 2 * y ∧ s' = s := by
 refine vc.slices_nextPowerOfTwo_ok ?_
 unfold vc.slices_nextPowerOfTwo
 rw [wrap_u64 (a := (y : Int)) (by omega) (by omega)]
 refine (Len_ok (by omega) s).mono ?_
 rintro _ _ ⟨n, rfl, h1, h2, rfl⟩
 have hn : 0 < n := by
  refine Nat.pos_of_ne_zero fun e => ?_
  subst e
  have := h1.1
  simp at this; omega
 have h3 := h1.2 hn
 have e : 2 ^ n = 2 * 2 ^ (n - 1) := by
  rw [← Nat.pow_succ']; congr 1; omega
 refine ⟨_, rfl, by omega, 2 ^ n, ?_, Nat.pow_pos (by omega), by omega, rfl⟩
 rw [Int.toNat_natCast, Nat.min_eq_left h2, Int.one_mul, show ((2 : Int) ^ n) = ((2 ^ n : Nat) : Int) by push_cast; rfl, wrap_u64 (by omega) (by omega)]
theorem Next_ok {n : Int} (h : RowR s0 x s l r (.int .u64 n)) : CallsD P F.p_slices_xorshift_Next [.ptr r 0] s fun v s' => ∃ n' : Int, v = .int .u64 n' ∧ RowR s0 x s' l r (.int .u64 n') := by
 refine vc.p_slices_xorshift_Next_ok fun s1 hB => ?_
 have h1 := h.bump hB
 refine ⟨n, h1.own.ld1 0 rfl, n, h1.own.ld1 0 rfl, by decide, h1.set _ rfl fun s2 h2 s3 hB2 => ?_⟩
 have h3 := h2.bump hB2
 refine ⟨_, h3.own.ld1 0 rfl, _, h3.own.ld1 0 rfl, by decide, h3.set _ rfl fun s4 h4 s5 hB3 => ?_⟩
 have h5 := h4.bump hB3
 refine ⟨_, h5.own.ld1 0 rfl, _, h5.own.ld1 0 rfl, by decide, h5.set _ rfl fun s6 h6 => ?_⟩
 exact ⟨_, h6.own.ld1 0 rfl, _, rfl, h6⟩
theorem BreakPatterns_ok (h : Row mkE s0 x s l) {a b : Nat} (hab : a ≤ b) (hb : b ≤ l.length) (hsz : l.length < 2305843009213693952) :
  CallsD P F.slices_breakPatternsOrdered_int64 [x, .int .i64 (a : Int), .int .i64 (b : Int)] s fun v s' => v = .tuple [] ∧ ∃ l', Row mkE s0 x s' l' ∧ RP a b l l' := by
 refine vc.slices_breakPatternsOrdered_int64_ok ?_
 unfold vc.slices_breakPatternsOrdered_int64
 have w1 := wr_half (a := b - a) (b := 4) (by omega) (by omega)
 rw [show ((4 : Nat) : Int) = 4 from rfl] at w1
 rw [wr_sub (a := b) (b := a) (by omega) (by omega), w1]
 refine bsel_of (fun c => ?_) fun c => ⟨rfl, l, h, .refl _ _ _⟩
 have c : 8 ≤ b - a := by simp only [decide_eq_true_eq] at c; omega
 intro m1 s2 hN
 refine (RowR.new' h hN).set _ rfl fun s3 h3 => (PowerOfTwo_ok (y := b - a) (by omega) (by omega) s3).mono ?_
 rintro _ _ ⟨M, rfl, hM0, hM, rfl⟩
 have wq : IntKind.wrap .i64 ((a : Int) + IntKind.wrap .i64 ((((b - a) / 4 : Nat) : Int) * 2)) = ((a + (b - a) / 4 * 2 : Nat) : Int) := by
  have e : (((b - a) / 4 : Nat) : Int) * 2 = (((b - a) / 4 * 2 : Nat) : Int) := by push_cast; rfl
  rw [e, wr_nat (by omega), wr_add (by omega)]
 rw [wq]
 rw [wr_pred (a := a + (b - a) / 4 * 2) (by omega) (by omega), wr_succ (a := a + (b - a) / 4 * 2) (by omega)]
 refine ⟨_, rfl, by decide, fun n9 s10 m => ∃ (i : Nat) (l1 : List Int) (n : Int), n9 = i ∧ m = a + (b - a) / 4 * 2 + 2 - i ∧ a ≤ i ∧ RowR s0 x s10 l1 m1 (.int .u64 n) ∧ RP a b l l1, ⟨_, a + (b - a) / 4 * 2 - 1, l, _, rfl, rfl, by omega, h3, .refl _ _ _⟩, ?_⟩
 rintro _ s10 m11 ⟨i, l1, n, rfl, hm11, hi, hR, hP⟩
 have hl1 := hP.len
 refine ⟨by decide, bsel_of (fun c1 => ?_) fun c1 => ⟨rfl, l1, hR.row, hP⟩⟩
 have c1 : i ≤ a + (b - a) / 4 * 2 + 1 := by simp only [decide_eq_true_eq] at c1; omega
 refine (Next_ok hR).mono ?_
 rintro _ s13 ⟨n14, rfl, hR2⟩
 have hw := and_lt n14 (M := M) hM0 (by omega)
 refine ⟨_, rfl, ?_⟩
 generalize (BitVec.ofInt 64 n14 &&& BitVec.ofInt 64 (IntKind.wrap .u64 ((M : Int) - 1))).toNat = w at hw
 rw [wrap_u64 (a := (w : Int)) (by omega) (by omega), wr_nat (a := w) (by omega)]
 refine bsel_of (fun c2 => ?_) fun c2 => ?_
 ·have c2 : b - a ≤ w := by simp only [decide_eq_true_eq] at c2; omega
  intro s15 hB
  rw [wr_sub (a := w) (b := b - a) c2 (by omega), wr_add (a := a) (b := w - (b - a)) (by omega)]
  have hX := hR2.bump hB
  exact (Row.refl hX.row.so hX.row.fr).swap mkE_one rfl rfl (by omega) (by omega) fun s27 hR3 => ⟨a + (b - a) / 4 * 2 + 2 - (i + 1), by omega, i + 1, _, _, wr_succ (by omega), rfl, by omega, hX.go hR3, hP.trans (.sw (by omega) (by omega) (by omega) (by omega))⟩
 ·have c2 : w < b - a := by simp only [decide_eq_false_iff_not] at c2; omega
  intro s15 hB
  rw [wr_add (a := a) (b := w) (by omega)]
  have hX := hR2.bump hB
  exact (Row.refl hX.row.so hX.row.fr).swap mkE_one rfl rfl (by omega) (by omega) fun s27 hR3 => ⟨a + (b - a) / 4 * 2 + 2 - (i + 1), by omega, i + 1, _, _, wr_succ (by omega), rfl, by omega, hX.go hR3, hP.trans (.sw (by omega) (by omega) (by omega) (by omega))⟩
end
end Go.Eng.S

namespace Go.Eng.S
open Go Go.Eng Go.Proofs
set_option linter.constructorNameAsVariable false
noncomputable section
attribute [local irreducible] bsel
variable {s0 s s' : St} {x : AV} {l : List Int}
theorem glue {l4 : List Int} {a b mid : Nat} {pv : Int} (hm : at' l4 mid = pv) (h1 : ∀ k, a ≤ k → k < mid → ltE (at' l4 k) pv = true) (h2 : ∀ k, mid < k → k < b → ltE (at' l4 k) pv = false) (g1 : Rise ltE a mid l4) (g2 : Rise ltE (mid + 1) b l4) : Rise ltE a b l4 := by
 intro i j hi hij hj
 by_cases c1 : j < mid
 ·exact g1 i j hi hij c1
 by_cases c2 : mid < i
 ·exact g2 i j c2 hij hj
 by_cases c3 : i = mid
 ·rw [c3, hm]; exact h2 j (by omega) hj
 have hi2 := ltE_o.asym _ _ (h1 i hi (by omega))
 by_cases c4 : j = mid
 ·rw [c4, hm]; exact hi2
 ·exact ltE_o.ntrans _ _ _ hi2 (h2 j (by omega) hj)
structure Lft (s0 : St) (x : AV) (l : List Int) (a b a' b' : Nat) (s : St) (l1 : List Int) : Prop where
 row : Row mkE s0 x s l1
 rp : RP a b l l1
 ha : a ≤ a'
 hab : a' ≤ b'
 hb : b' ≤ b
 above : Above l1 a' b'
 rest : ∀ l2, RP a' b' l1 l2 → Rise ltE a' b' l2 → Rise ltE a b l2
theorem Lft.go {a b a' b' : Nat} {l1 l2 : List Int} (h : Lft s0 x l a b a' b' s l1) (hbl : b ≤ l.length) (hR : Row mkE s0 x s' l2) (hP : RP a' b' l1 l2) : Lft s0 x l a b a' b' s' l2 :=
 ⟨hR, h.rp.trans (hP.mono h.ha h.hb), h.ha, h.hab, h.hb, h.above.rp hP (by have := h.rp.len; have := h.hb; omega), fun l3 q1 q2 => h.rest l3 (hP.trans q1) q2⟩
theorem Lft.equal {a b a' b' mid : Nat} {l1 l2 : List Int} {pv : Int} (h : Lft s0 x l a b a' b' s l1) (hbl : b ≤ l.length) (h0 : 0 < a') (hpv : ltE (at' l1 (a' - 1)) pv = false) (hm : a' < mid ∧ mid ≤ b') (hR : Row mkE s0 x s' l2) (hP : RP a' b' l1 l2)
  (h1 : ∀ k, a' ≤ k → k < mid → ltE pv (at' l2 k) = false) (h2 : ∀ k, mid ≤ k → k < b' → ltE pv (at' l2 k) = true) : Lft s0 x l a b mid b' s' l2 := by
 have hl := h.rp.len
 have hl2 := hP.len
 have hb := h.hb
 have ha := h.ha
 have hA2 := h.above.rp hP (by omega)
 have hpv2 : ltE (at' l2 (a' - 1)) pv = false := by rw [hP.out _ (.inl (by omega))]; exact hpv
 refine ⟨hR, h.rp.trans (hP.mono h.ha h.hb), by omega, by omega, h.hb, fun _ k g1 g2 => ?_, fun l3 q1 q2 => h.rest l3 (hP.trans (q1.mono (by omega) (Nat.le_refl _))) fun i j g1 g2 g3 => ?_⟩
 ·exact ltE_o.ntrans _ _ _ (h1 (mid - 1) (by omega) (by omega)) (ltE_o.asym _ _ (h2 k g1 g2))
 ·by_cases c1 : mid ≤ i
  ·exact q2 i j c1 g2 g3
  ·rw [q1.out i (.inl (by omega))]
   have e1 := h1 i g1 (by omega)
   by_cases c2 : mid ≤ j
   ·have := q1.all (p := fun y => ltE pv y = true) (by omega) h2 j c2 g3
    exact ltE_o.ntrans _ _ _ e1 (ltE_o.asym _ _ this)
   ·rw [q1.out j (.inl (by omega))]
    exact ltE_o.ntrans _ _ _ e1 (ltE_o.ntrans _ _ _ hpv2 (hA2 h0 j (by omega) g3))
theorem Lft.left {a b a' b' mid : Nat} {l2 l3 : List Int} (h : Lft s0 x l a b a' b' s l2) (hbl : b ≤ l.length) (hm : a' ≤ mid ∧ mid < b') (h1 : ∀ k, a' ≤ k → k < mid → ltE (at' l2 k) (at' l2 mid) = true) (h2 : ∀ k, mid < k → k < b' → ltE (at' l2 k) (at' l2 mid) = false)
  (hR : Row mkE s0 x s' l3) (hP : RP a' mid l2 l3) (hS : Rise ltE a' mid l3) : Lft s0 x l a b (mid + 1) b' s' l3 := by
 have hl := h.rp.len
 have hl3 := hP.len
 have hb := h.hb
 have ha := h.ha
 refine ⟨hR, h.rp.trans (hP.mono h.ha (by omega)), by omega, by omega, h.hb, fun _ k g1 g2 => ?_, fun l4 q1 q2 => h.rest l4 ((hP.mono (Nat.le_refl _) (by omega)).trans (q1.mono (by omega) (Nat.le_refl _))) ?_⟩
 ·rw [hP.out k (.inr (by omega)), Nat.add_sub_cancel, hP.out mid (.inr (Nat.le_refl _))]; exact h2 k (by omega) g2
 ·refine glue (mid := mid) (pv := at' l2 mid) (by rw [q1.out mid (.inl (by omega)), hP.out mid (.inr (Nat.le_refl _))]) (fun k g1 g2 => ?_) (fun k g1 g2 => ?_) (hS.of_out q1 (.inl (by omega))) q2
  ·rw [q1.out k (.inl (by omega))]
   exact hP.all (p := fun y => ltE y (at' l2 mid) = true) (by omega) h1 k g1 g2
  ·exact q1.all (p := fun y => ltE y (at' l2 mid) = false) (by omega) (fun k g1 g2 => by rw [hP.out k (.inr (by omega))]; exact h2 k (by omega) g2) k (by omega) g2
theorem Lft.right {a b a' b' mid : Nat} {l2 l3 : List Int} (h : Lft s0 x l a b a' b' s l2) (hbl : b ≤ l.length) (hm : a' ≤ mid ∧ mid < b') (h1 : ∀ k, a' ≤ k → k < mid → ltE (at' l2 k) (at' l2 mid) = true) (h2 : ∀ k, mid < k → k < b' → ltE (at' l2 k) (at' l2 mid) = false)
  (hR : Row mkE s0 x s' l3) (hP : RP (mid + 1) b' l2 l3) (hS : Rise ltE (mid + 1) b' l3) : Lft s0 x l a b a' mid s' l3 := by
 have hl := h.rp.len
 have hl3 := hP.len
 have hb := h.hb
 have ha := h.ha
 refine ⟨hR, h.rp.trans (hP.mono (by omega) h.hb), h.ha, hm.1, by omega, fun h0 k g1 g2 => ?_, fun l4 q1 q2 => h.rest l4 ((hP.mono (by omega) (Nat.le_refl _)).trans (q1.mono (Nat.le_refl _) (by omega))) ?_⟩
 ·rw [hP.out k (.inl (by omega)), hP.out _ (.inl (by omega))]; exact h.above h0 k g1 (by omega)
 ·refine glue (mid := mid) (pv := at' l2 mid) (by rw [q1.out mid (.inr (by omega)), hP.out mid (.inl (by omega))]) (fun k g1 g2 => ?_) (fun k g1 g2 => ?_) q2 (hS.of_out q1 (.inr (by omega)))
  ·exact q1.all (p := fun y => ltE y (at' l2 mid) = true) (by omega) (fun k g1 g2 => by rw [hP.out k (.inl (by omega))]; exact h1 k g1 g2) k g1 g2
  ·rw [q1.out k (.inr (by omega))]
   exact hP.all (p := fun y => ltE y (at' l2 mid) = false) (by omega) (fun k g1 g2 => h2 k (by omega) g2) k (by omega) g2
set_option maxHeartbeats 1000000 in
theorem Pdq_ok : ∀ (N : Nat) {s0 s : St} {x : AV} {l : List Int} (_ : Row mkE s0 x s l) {a b : Nat} (_ : a ≤ b) (_ : b ≤ l.length) (_ : l.length < 2305843009213693952) (_ : Above l a b) (_ : b - a ≤ N) (lim : Int),
  CallsD P F.slices_pdqsortOrdered_int64 [x, .int .i64 (a : Int), .int .i64 (b : Int), .int .i64 lim] s (SortQ s0 x l a b) := by
 intro N
 induction N using Nat.strongRecOn with
 | _ N ih =>
  intro s0 s x l h a b hab hb hsz hA hN lim
  refine vc.slices_pdqsortOrdered_int64_ok ⟨fun n3 n4 _ _ _ s8 m => ∃ (a' b' : Nat) (l1 : List Int), n3 = a' ∧ n4 = b' ∧ m = b' - a' ∧ Lft s0 x l a b a' b' s8 l1, ⟨_, a, b, l, rfl, rfl, rfl, h, .refl _ _ _, Nat.le_refl _, hab, Nat.le_refl _, hA, fun l2 _ h2 => h2⟩, ?_⟩
  rintro _ _ n5 c6 c7 s8 m9 ⟨a', b', l1, rfl, rfl, hm9, hL⟩
  have hl1 := hL.rp.len
  have ha1 := hL.ha
  have hab1 := hL.hab
  have hb1 := hL.hb
  have fin : ∀ {s' : St} {l2 : List Int}, Row mkE s0 x s' l2 → RP a' b' l1 l2 → Rise ltE a' b' l2 → SortQ s0 x l a b (.tuple []) s' := fun hR hP hS => ⟨rfl, _, hR, hL.rp.trans (hP.mono ha1 hb1), hL.rest _ hP hS⟩
  rw [wr_sub (a := b') (b := a') (by omega) (by omega)]
  refine bsel_of (fun _ => ?_) fun c1 => bsel_of (fun _ => ?_) fun _ => ?_
  ·refine (Insertion_ok hL.row hab1 (by omega) (by omega)).mono ?_
   rintro _ s11 ⟨rfl, l2, q1, q2, q3⟩
   exact ⟨rfl, fin q1 q2 q3⟩
  ·refine (Heap_ok hL.row hab1 (by omega) (by omega)).mono ?_
   rintro _ s11 ⟨rfl, l2, q1, q2, q3⟩
   exact ⟨rfl, fin q1 q2 q3⟩
  have c1 : a' + 12 < b' := by simp only [decide_eq_false_iff_not] at c1; omega
  refine ⟨fun _ s20 _ => ∃ l2, Lft s0 x l a b a' b' s20 l2, ?_, ?_⟩
  ·refine bsel_of (fun _ => ?_) fun _ => ⟨0, l1, hL⟩
   refine (BreakPatterns_ok hL.row hab1 (by omega) (by omega)).mono ?_
   rintro _ s16 ⟨rfl, l2, q1, q2⟩
   exact ⟨rfl, 0, l2, hL.go hb q1 q2⟩
  clear fin hL hl1
  rintro n19 s20 _ ⟨l2, hL⟩
  have hl2 := hL.rp.len
  refine (ChoosePivot_ok hL.row c1 (by omega) (by omega)).mono ?_
  rintro _ s23 ⟨p, hint, rfl, hp1, hp2, hR⟩
  have hL := hL.go hb hR (.refl _ _ _)
  refine ⟨_, _, rfl, fun n31 _ s33 _ => ∃ (p : Nat) (l3 : List Int), n31 = p ∧ a' ≤ p ∧ p < b' ∧ Lft s0 x l a b a' b' s33 l3, ?_, ?_⟩
  ·refine bsel_of (fun _ => ?_) fun _ => ⟨0, p, l2, rfl, hp1, hp2, hL⟩
   refine (Reverse_ok hL.row hab1 (by omega) (by omega)).mono ?_
   rintro _ s28 ⟨rfl, l3, q1, q2⟩
   exact ⟨rfl, 0, b' - 1 - (p - a'), l3, by rw [wr_pred (a := b') (by omega) (by omega), wr_sub (a := p) (b := a') (by omega) (by omega), wr_sub (by omega) (by omega)], by omega, by omega, hL.go hb q1 q2⟩
  clear hp1 hp2
  rintro _ n32 s33 _ ⟨p, l3, rfl, hp1, hp2, hL⟩
  have hl3 := hL.rp.len
  refine ⟨fun s43 _ => ∃ l4, Lft s0 x l a b a' b' s43 l4, ?_, ?_⟩
  ·refine bsel_of (fun _ => bsel_of (fun _ => bsel_of (fun _ => ?_) fun _ => ⟨0, l3, hL⟩) fun _ => ⟨0, l3, hL⟩) fun _ => ⟨0, l3, hL⟩
   refine (Partial_ok hL.row (by omega) (by omega) (by omega) hL.above).mono ?_
   rintro _ s37 ⟨c, l4, rfl, q1, q2, q3⟩
   refine ⟨c, rfl, bsel_of (fun cc => ?_) fun _ => ⟨0, l4, hL.go hb q1 q2⟩⟩
   exact ⟨rfl, l4, q1, hL.rp.trans (q2.mono ha1 hb1), hL.rest _ q2 (q3 cc)⟩
  rintro s43 _ ⟨l4, hL⟩
  intro s45 hB
  have hl4 := hL.rp.len
  have hL := hL.go hb (hL.row.bump hB) (.refl _ _ _)
  have hleft : ∀ {s : St} {l2 : List Int} {mid : Nat} (lim : Int), Lft s0 x l a b a' b' s l2 → a' ≤ mid → mid < b' → (∀ k, a' ≤ k → k < mid → ltE (at' l2 k) (at' l2 mid) = true) → (∀ k, mid < k → k < b' → ltE (at' l2 k) (at' l2 mid) = false) →
    CallsD P F.slices_pdqsortOrdered_int64 [x, .int .i64 (a' : Int), .int .i64 (mid : Int), .int .i64 lim] s fun v s' => v = .tuple [] ∧ ∃ l3, Lft s0 x l a b (mid + 1) b' s' l3 := by
   intro s l2 mid lim hL h1 h2 h3 h4
   have hl := hL.rp.len
   refine (ih (mid - a') (by omega) hL.row (a := a') (b := mid) h1 (by omega) (by omega) (fun h0 k g1 g2 => hL.above h0 k g1 (by omega)) (Nat.le_refl _) lim).mono ?_
   rintro _ s' ⟨rfl, l3, q1, q2, q3⟩
   exact ⟨rfl, l3, hL.left hb ⟨h1, h2⟩ h3 h4 q1 q2 q3⟩
  have hright : ∀ {s : St} {l2 : List Int} {mid : Nat} (lim : Int), Lft s0 x l a b a' b' s l2 → a' ≤ mid → mid < b' → (∀ k, a' ≤ k → k < mid → ltE (at' l2 k) (at' l2 mid) = true) → (∀ k, mid < k → k < b' → ltE (at' l2 k) (at' l2 mid) = false) →
    CallsD P F.slices_pdqsortOrdered_int64 [x, .int .i64 (IntKind.wrap .i64 ((mid : Int) + 1)), .int .i64 (b' : Int), .int .i64 lim] s fun v s' => v = .tuple [] ∧ ∃ l3, Lft s0 x l a b a' mid s' l3 := by
   intro s l2 mid lim hL h1 h2 h3 h4
   have hl := hL.rp.len
   rw [wr_succ (a := mid) (by omega)]
   refine (ih (b' - (mid + 1)) (by omega) hL.row (a := mid + 1) (b := b') (by omega) (by omega) (by omega) (fun h0 k g1 g2 => by rw [Nat.add_sub_cancel]; exact h4 k (by omega) g2) (Nat.le_refl _) lim).mono ?_
   rintro _ s' ⟨rfl, l3, q1, q2, q3⟩
   exact ⟨rfl, l3, hL.right hb ⟨h1, h2⟩ h3 h4 q1 q2 q3⟩
  refine bsel_of (fun c2 => ?_) fun c2 => ?_
  ·have c2 : 0 < a' := by simp only [decide_eq_true_eq] at c2; omega
   refine hL.row.rd (wr_pred (by omega) (by omega)) (by omega) (hL.row.rd rfl (by omega) ((LessI_ok _ _ _).mono ?_))
   rintro _ _ ⟨rfl, rfl⟩
   refine ⟨_, rfl, bsel_of (fun c3 => ?_) fun _ => ?_⟩
   ·have c3 : ltE (at' l4 (a' - 1)) (at' l4 p) = false := by simpa using c3
    refine (PartitionEqual_ok hL.row ⟨hp1, hp2⟩ (by omega) (by omega)).mono ?_
    rintro _ s56 ⟨mid, l5, rfl, q1, q2, q3, q4, q5, q6⟩
    exact ⟨_, rfl, b' - mid, by omega, mid, b', l5, rfl, rfl, rfl, hL.equal hb c2 c3 ⟨q1, q2⟩ q3 q4 q5 q6⟩
   ·refine (Partition_ok hL.row ⟨hp1, hp2⟩ (by omega) (by omega)).mono ?_
    rintro _ s60 ⟨mid, c62, l5, rfl, q1, q2, q3, q4, q5, q6⟩
    have hL5 := hL.go hb q3 q4
    refine ⟨_, _, rfl, by decide, bsel_of (fun _ => ?_) fun _ => ?_⟩
    ·refine (hleft n19 hL5 q1 q2 q5 q6).mono ?_
     rintro _ s64 ⟨rfl, l6, hL6⟩
     exact ⟨rfl, b' - (mid + 1), by omega, mid + 1, b', l6, wr_succ (by omega), rfl, rfl, hL6⟩
    ·refine (hright n19 hL5 q1 q2 q5 q6).mono ?_
     rintro _ s64 ⟨rfl, l6, hL6⟩
     exact ⟨rfl, mid - a', by omega, a', mid, l6, rfl, rfl, rfl, hL6⟩
  ·refine (Partition_ok hL.row ⟨hp1, hp2⟩ (by omega) (by omega)).mono ?_
   rintro _ s60 ⟨mid, c62, l5, rfl, q1, q2, q3, q4, q5, q6⟩
   have hL5 := hL.go hb q3 q4
   refine ⟨_, _, rfl, by decide, bsel_of (fun _ => ?_) fun _ => ?_⟩
   ·refine (hleft n19 hL5 q1 q2 q5 q6).mono ?_
    rintro _ s64 ⟨rfl, l6, hL6⟩
    exact ⟨rfl, b' - (mid + 1), by omega, mid + 1, b', l6, wr_succ (by omega), rfl, rfl, hL6⟩
   ·refine (hright n19 hL5 q1 q2 q5 q6).mono ?_
    rintro _ s64 ⟨rfl, l6, hL6⟩
    exact ⟨rfl, mid - a', by omega, a', mid, l6, rfl, rfl, rfl, hL6⟩
theorem SortI_ok (hx : So (oneE mkE) s x l) (hsz : l.length < 2305843009213693952) (hfr : Fr s) :
  CallsD P F.slices_Sort_sl_int64_int64 [x] s fun v s' => v = .tuple [] ∧ ∃ l', l'.Perm l ∧ l'.Pairwise (· ≤ ·) ∧ So (oneE mkE) s' x l' ∧ Frw (blkOf x) s s' ∧ Fr s' := by
 refine vc.slices_Sort_sl_int64_int64_ok (hx.sl.slen ?_)
 rw [wrap_u64 (a := ((l.length : Nat) : Int)) (by omega) (by omega)]
 refine (Len_ok (by omega) s).mono ?_
 rintro _ _ ⟨n, rfl, _, _, rfl⟩
 refine ⟨_, rfl, (Pdq_ok l.length (Row.refl hx hfr) (a := 0) (b := l.length) (by omega) (Nat.le_refl _) hsz (fun h => by omega) (by omega) _).mono ?_⟩
 rintro _ s6 ⟨rfl, l', q1, q2, q3⟩
 refine ⟨rfl, rfl, l', q2.perm, ?_, q1.so, q1.frw, q1.fr⟩
 rw [List.pairwise_iff_getElem]
 intro i j hi hj hij
 have := q3 i j (Nat.zero_le _) hij (by have := q2.len; omega)
 rw [at_eq hi, at_eq hj]
 simpa [ltE] using this
end
end Go.Eng.S

namespace Go.Eng.S
open Go Go.Eng Go.Proofs
set_option linter.constructorNameAsVariable false
noncomputable section
attribute [local irreducible] bsel
variable {s : St} {x : AV} {l : List Int}
theorem ty.sl_int64 : D.ty.get T.sl_int64 = some { d := .slice 2, size := 1, bytes := 24, zero := (some .nilslice), held := false } := by kernel_rfl
theorem drop_at' {l : List Int} {k j : Nat} (h : j < (l.drop k).length) : (l.drop k)[j] = at' l (k + j) := by
 rw [List.getElem_drop, at_eq]
set_option maxHeartbeats 1000000 in
theorem Compact_ok (hx : So (oneE mkE) s x l) (hsz : l.length < 2305843009213693952) (hfr : Fr s) :
  CallsD P F.slices_Compact_sl_int64_int64 [x] s fun v s' => Sl (oneE mkE) s' v (cpt l) ∧ (∀ c, c ∈ blkOf v → c ∈ blkOf x) ∧ Frw (blkOf x) s s' ∧ Fr s' := by
 refine vc.slices_Compact_sl_int64_int64_ok (hx.sl.slen (bsel_of (fun c => ?_) fun c => ?_))
 ·have c : l.length < 2 := by simp only [decide_eq_true_eq] at c; omega
  have e : cpt l = l := by
   match l, c with
   | [], _ => rfl
   | [a], _ => rfl
  rw [e]
  exact ⟨hx.sl, fun c h => h, .refl _ _, hfr⟩
 have c : 2 ≤ l.length := by simp only [decide_eq_false_iff_not] at c; omega
 refine ⟨fun n4 s5 m => ∃ k : Nat, n4 = k ∧ m = l.length - k ∧ 1 ≤ k ∧ k ≤ l.length ∧ Row mkE s x s5 l ∧ cpt (l.take k) = l.take k, ⟨_, 1, rfl, rfl, Nat.le_refl _, by omega, .refl hx hfr, by
  obtain ⟨a, r, rfl⟩ : ∃ a r, l = a :: r := by
   match l, c with
   | a :: r, _ => exact ⟨a, r, rfl⟩
  rfl⟩, ?_⟩
 rintro _ s5 m6 ⟨k, rfl, hm6, hk1, hk2, hR, hC⟩
 refine hR.so.sl.slen (bsel_of (fun c1 => ?_) fun c1 => ?_)
 ·have c1 : k < l.length := by simp only [decide_eq_true_eq] at c1; omega
  intro s8 hB
  have hR8 := hR.bump hB
  refine hR8.rd rfl c1 (hR8.rd (wr_pred (by omega) (by omega)) (by omega) (bsel_of (fun c2 => ?_) fun c2 => ?_))
  ·have c2 : at' l k = at' l (k - 1) := by simpa using c2
   obtain ⟨y, y1, y2, y3⟩ := So.drop hR8.so (k := k) (by omega)
   refine optK_mk y1 ⟨fun n18 n19 s20 m => ∃ (i j : Nat) (l1 : List Int), n18 = i ∧ n19 = j ∧ m = l.length - k - j ∧ 1 ≤ j ∧ k + j ≤ l.length ∧ i + 1 ≤ k + j ∧ l1.length = l.length ∧ Row mkE s x s20 l1 ∧ l1.take i = cpt (l.take (k + j)) ∧ ∀ p, k + j ≤ p + 1 → at' l1 p = at' l p, ⟨_, k, 1, l, rfl, rfl, rfl, Nat.le_refl _, by omega, by omega, rfl, hR8, by rw [cpt_step (by omega) c1, if_pos c2.symm, hC], fun p _ => rfl⟩, ?_⟩
   rintro _ _ s20 m21 ⟨i, j, l1, rfl, rfl, hm21, hj1, hj2, hij, hl1, hR9, hT, hA⟩
   obtain ⟨y', z1, z2, z3⟩ := So.drop hR9.so (k := k) (by omega)
   have : y' = y := by
    have := y1.symm.trans z1
    simpa using this.symm
   subst this
   have hdl : (l1.drop k).length = l.length - k := by simp [hl1]
   refine z2.slen (bsel_of (fun c3 => ?_) fun c3 => ?_)
   ·have c3 : j < (l1.drop k).length := by simp only [decide_eq_true_eq] at c3; omega
    intro s23 hB2
    have hR10 := hR9.bump hB2
    have z4 := z2.ext hB2.fwd
    refine z4.ixs rfl rfl c3 fun b1 o1 hR1 => ⟨at' l1 (k + j), by have := hR1.ld1 0 rfl; rw [drop_at'] at this; exact this, ?_⟩
    refine z4.ixs rfl (wr_pred (by omega) (by omega)) (k := j - 1) (by omega) fun b2 o2 hR2 => ⟨at' l1 (k + (j - 1)), by have := hR2.ld1 0 rfl; rw [drop_at'] at this; exact this, ?_⟩
    have e1 : at' l1 (k + j) = at' l (k + j) := hA _ (by omega)
    have e2 : at' l1 (k + (j - 1)) = at' l (k + j - 1) := by rw [hA _ (by omega)]; congr 1; omega
    rw [e1, e2]
    have hst := cpt_step (l := l) (k := k + j) (by omega) (by omega)
    refine bsel_of (fun c4 => ?_) fun c4 => ?_
    ·have c4 : ¬ at' l (k + j) = at' l (k + j - 1) := by simpa using c4
     refine z4.ixs rfl rfl c3 fun b3 o3 hR3 => ⟨at' l1 (k + j), by have := hR3.ld1 0 rfl; rw [drop_at'] at this; exact this, ?_⟩
     refine hR10.wr mkE_one rfl (by omega) _ fun s35 hR11 => ⟨l.length - k - (j + 1), by omega, i + 1, j + 1, _, wr_succ (by omega), wr_succ (by omega), rfl, by omega, by omega, by omega, by simpa using hl1, hR11, ?_, fun p hp => ?_⟩
     ·rw [show k + (j + 1) = k + j + 1 by omega, hst, if_neg (fun h => c4 h.symm), ← hT, List.take_succ_eq_append_getElem (by simp; omega), List.take_set_of_le (Nat.le_refl _), List.getElem_set_self, e1]
     ·rw [at_set (by omega), if_neg (by omega)]; exact hA p (by omega)
    ·have c4 : at' l (k + j) = at' l (k + j - 1) := by simpa using c4
     exact ⟨l.length - k - (j + 1), by omega, i, j + 1, l1, rfl, wr_succ (by omega), rfl, by omega, by omega, by omega, hl1, hR10, by rw [show k + (j + 1) = k + j + 1 by omega, hst, if_pos c4.symm, hT], fun p hp => hA p (by omega)⟩
   ·have c3 : j = l.length - k := by simp only [decide_eq_false_iff_not] at c3; omega
    obtain ⟨w, w1, s39, w2, w3, w4, w5, w6⟩ := So.clear (z0 := (0 : Int)) (t := T.sl_int64) (et := T.int64) hR9.so (k := i) (by omega) ty.sl_int64 rfl ty.int64 rfl rfl (fun n => by
     induction n with
     | zero => rfl
     | succ n ih => rw [List.replicate_succ, List.flatMap_cons]; exact ih)
    refine optK_mk w1 ⟨s39, w2, ?_⟩
    have hil : i ≤ (l1.take i ++ List.replicate (l1.length - i) (0 : Int)).length := by simp; omega
    obtain ⟨u, u1, u2, u3⟩ := So.take w3 hil
    refine optK_mk u1 ⟨?_, u3, hR9.frw.trans w4, ?_⟩
    ·rw [List.take_append_of_le_length (by simp; omega), List.take_take, Nat.min_self, hT, show k + j = l.length by omega, List.take_length] at u2
     exact u2
    ·intro d hd
     rw [w5] at hd
     by_cases e : d ∈ blkOf x
     ·exact absurd (hR9.fr d hd) (hR9.so.there d e)
     ·rw [w6 d e]; exact hR9.fr d hd
  ·have c2 : ¬ at' l k = at' l (k - 1) := by simpa using c2
   exact ⟨l.length - (k + 1), by omega, k + 1, wr_succ (by omega), rfl, by omega, by omega, hR8, by rw [cpt_step (by omega) c1, if_neg (fun h => c2 h.symm), hC, ← at_eq c1, List.take_append_getElem c1]⟩
 ·have c1 : k = l.length := by simp only [decide_eq_false_iff_not] at c1; omega
  rw [c1, List.take_length] at hC
  rw [hC]
  exact ⟨hR.so.sl, fun c h => h, hR.frw, hR.fr⟩
end
end Go.Eng.S

namespace Go.Eng.S
open Go Go.Eng Go.Proofs
set_option linter.constructorNameAsVariable false
set_option maxRecDepth 4000
noncomputable section
attribute [local irreducible] bsel barsOf mergeB
def wideN (fan : Int) : Nat → Option Int
 | 0 => some 1
 | k + 1 => (match wideN fan k with | some m => (if 2097152 ≤ m then none else some (m * fan)) | none => none)
def wideI (fan lev : Int) : Option Int := if lev < 0 then none else wideN fan lev.toNat
theorem wideN_none {fan : Int} {k : Nat} (h : wideN fan k = none) : ∀ d, wideN fan (k + d) = none
 | 0 => h
 | d + 1 => by
  have := wideN_none h d
  show wideN fan (k + d + 1) = none
  simp only [wideN, this]
theorem wideN_some {fan : Int} (hf : 2 ≤ fan ∧ fan ≤ 16) : ∀ {k : Nat} {m : Int}, wideN fan k = some m → ((2 ^ k : Nat) : Int) ≤ m ∧ m ≤ 33554432 ∧ k ≤ 21
 | 0, m, h => by simp [wideN] at h; subst h; simp
 | k + 1, m, h => by
  simp only [wideN] at h
  split at h
  ·rename_i m' hm
   split at h
   ·simp at h
   ·rename_i hlt
    simp at h
    obtain ⟨h1, h2, h3⟩ := wideN_some hf hm
    have hp : 0 < 2 ^ k := Nat.pow_pos (by omega)
    have g1 : m' * 2 ≤ m' * fan := Int.mul_le_mul_of_nonneg_left hf.1 (by omega)
    have g2 : m' * fan ≤ m' * 16 := Int.mul_le_mul_of_nonneg_left hf.2 (by omega)
    have hk : k < 21 := by
     refine Classical.byContradiction fun hn => ?_
     have : 2 ^ 21 ≤ 2 ^ k := Nat.pow_le_pow_right (by omega) (by omega)
     omega
    refine ⟨?_, by omega, by omega⟩
    rw [Nat.pow_succ]; omega
  ·simp at h
theorem wideX_ok {s : St} {r : Nat} {fan : Int} {G : RollF} {fp : List Nat} (hR : Roll s r fan G fp) (hfan : 2 ≤ fan ∧ fan ≤ 16) (lev : Int) (hl : lev < 9223372036854775808) :
  CallsD P F.p_rollup_Rollup_wide [.ptr r 0, .int .i64 lev] s fun v s' => v = (match wideI fan lev with | some w => .tuple [.int .i64 w, .bool true] | none => .tuple [.int .i64 0, .bool false]) ∧ s' = s := by
 obtain ⟨m, M, h⟩ := hR
 refine vc.p_rollup_Rollup_wide_ok (bsel_of (fun c => ?_) fun c => ?_)
 ·have c : lev < 0 := by simpa using c
  exact ⟨by simp only [wideI, if_pos c], rfl⟩
 have c : ¬ lev < 0 := by simpa using c
 have hw : wideI fan lev = wideN fan lev.toNat := if_neg c
 obtain ⟨k, rfl⟩ : ∃ k : Nat, lev = k := ⟨lev.toNat, by omega⟩
 rw [hw, Int.toNat_natCast]
 refine ⟨fun n3 n4 s5 m => ∃ i : Nat, n4 = i ∧ m = 30 - i ∧ i ≤ k ∧ wideN fan i = some n3 ∧ s5 = s, ⟨_, 0, rfl, rfl, by omega, rfl, rfl⟩, ?_⟩
 rintro n3 _ _ _ ⟨i, rfl, rfl, hi, hn, rfl⟩
 obtain ⟨h1, h2, h3⟩ := wideN_some hfan hn
 have hp : 0 < 2 ^ i := Nat.pow_pos (by omega)
 refine bsel_of (fun c => ?_) fun c => ?_
 ·have c : i < k := by simpa using c
  refine bsel_of (fun c2 => ?_) fun c2 => ?_
  ·have c2 : 2097152 ≤ n3 := by simpa using c2
   have : wideN fan (i + 1) = none := by simp only [wideN, hn, if_pos c2]
   have e := wideN_none this (k - (i + 1))
   rw [show i + 1 + (k - (i + 1)) = k by omega] at e
   rw [e]
   exact ⟨rfl, rfl⟩
  ·have c2 : ¬ 2097152 ≤ n3 := by simpa using c2
   have hs : wideN fan (i + 1) = some (n3 * fan) := by simp only [wideN, hn, if_neg c2]
   obtain ⟨g1, g2, g3⟩ := wideN_some hfan hs
   exact ptrK_of ⟨fan, h.own.ld1 0 rfl, 30 - (i + 1), by omega, i + 1, wr_succ (by omega), rfl, by omega, by rw [wrap_i64 (by omega) (by omega)]; exact hs, rfl⟩
 ·have c : i = k := by simp at c; omega
  subst c
  rw [hn]
  exact ⟨rfl, rfl⟩
structure WinL (G : RollF) (w : Int) (W : List WinR) : Prop where
 width : ∀ v, v ∈ W → v.width = w
 rise : (W.map (·.at_)).Pairwise (· < ·)
 mem : ∀ a, a ∈ W.map (·.at_) ↔ ∃ h, Has G h ∧ a = h - Int.tmod h w
theorem WinS.base {s0 s1 s : St} {G : RollF} {hG : RollG G} {x : AV} {W : List WinR} (h : WinS s1 s G hG x W) (f : Frw [] s0 s1) : WinS s0 s G hG x W := ⟨h.so, fun c hc => f.none (h.new c hc) (by simp), h.each⟩
theorem tmod_rng {h w : Int} (h0 : 0 ≤ h) (hw : 1 ≤ w) : 0 ≤ Int.tmod h w ∧ Int.tmod h w ≤ h := by
 obtain ⟨n, rfl⟩ := Int.eq_ofNat_of_zero_le h0
 obtain ⟨m, rfl⟩ := Int.eq_ofNat_of_zero_le (show 0 ≤ w by omega)
 have e : Int.tmod (n : Int) (m : Int) = ((n % m : Nat) : Int) := rfl
 have := Nat.mod_le n m
 rw [e]; omega
theorem sz8 {k : Nat} (h : k ≤ 2097152) : (k + 1 + (k + 1) / 4 + 600) * 8 ≤ pow48 := by unfold pow48; omega
theorem sz8' {k : Nat} (h : k ≤ 2097152) : k + 1 ≤ pow48 := by unfold pow48; omega
theorem hrs_len : (hrs 0 2097152).length = 2097152 := by simp [hrs]
set_option maxHeartbeats 1000000 in
theorem Windows_ok {s : St} {r : Nat} {fan : Int} {G : RollF} {fp : List Nat} (hR : Roll s r fan G fp) (hfan : 2 ≤ fan ∧ fan ≤ 16) {lev : Int} (hlev : lev < 9223372036854775808) {E0 : List Edge} (hE : ∀ h e, G h e ≠ .zero → e ∈ E0) (hb : (E0.length + 1 + (E0.length + 1) / 4 + 600) * 104 ≤ pow48) :
  CallsA P F.p_rollup_Rollup_Windows [.ptr r 0, .int .i64 lev] s fun v s' => (match wideI fan lev with | some w => ∃ x W, v = .tuple [x, .int .i64 0] ∧ WinS s s' G hR.good x W ∧ WinL G w W | none => v = .tuple [.nilslice, .int .i64 1]) ∧ Frw [] s s' ∧ Fr s' := by
 have hG := hR.good
 refine CallsA.fr fun hfr => vc.p_rollup_Rollup_Windows_ok ((wideX_ok hR hfan lev hlev).a.mono ?_)
 rintro v s2 ⟨rfl, rfl⟩
 cases hw : wideI fan lev with
 | none => exact ⟨0, false, rfl, bsel_of (fun _ => ⟨rfl, .refl _ _, hfr⟩) fun c => by simp at c⟩
 | some w =>
 refine ⟨w, true, rfl, bsel_of (fun c => by simp at c) fun _ => ?_⟩
 have hwb : 1 ≤ w ∧ w ≤ 33554432 := by
  unfold wideI at hw
  split at hw
  ·simp at hw
  ·obtain ⟨h1, h2, _⟩ := wideN_some hfan hw
   have : 0 < 2 ^ lev.toNat := Nat.pow_pos (by omega)
   omega
 clear hw
 obtain ⟨m, M, h⟩ := hR
 obtain ⟨it, s5, r1, r2, r3, r4, r5, r6⟩ := h.map.range ty.map_int64_rollup_edges rfl hfr
 have hnd : (M.map (·.1)).Nodup := h.map.nodup
 have hkey : ∀ hh, hh ∈ M.map (·.1) → Has G hh := fun hh hx => by
  obtain ⟨p, hp, rfl⟩ := List.mem_map.1 hx
  obtain ⟨b, N, _, hi, _⟩ := h.inner p.1 p.2 (mget_of_mem hnd hp)
  obtain ⟨q, N', hN⟩ := List.exists_cons_of_ne_nil hi.ne
  have hq : mget N q.1 = some q.2 := by rw [hN]; simp [mget]
  obtain ⟨z, _, _, h3, _⟩ := hi.some q.1 q.2 hq
  exact ⟨q.1, h3⟩
 have hkey' : ∀ hh, Has G hh → hh ∈ M.map (·.1) := fun hh ⟨e, he⟩ => by
  refine Classical.byContradiction fun hn => he ?_
  exact h.none hh (mget_none.2 hn) e
 have hMl : M.length ≤ 2097152 := by
  have := nodup_length_le hnd (b := hrs 0 2097152) fun x hx => by
   obtain ⟨e, he⟩ := hkey x hx
   exact mem_hrs.2 (hG.hour x e he)
  rw [hrs_len, List.length_map] at this
  exact this
 let bg : Int → Int := fun h => h - Int.tmod h w
 refine ptrK_of ⟨_, h.own.ld1 1 rfl, it, s5, r1, fun x12 s10 m11 => ∃ vis rem, m11 = rem.length ∧ IterS hourF s10 it m M rem ∧ (vis ++ rem.map (·.1)).Perm (M.map (·.1)) ∧ So (oneE mkE) s10 x12 (vis.map bg) ∧ (∀ c, c ∈ blkOf x12 → s2.h.get c = none) ∧ Frw [] s2 s10 ∧ Fr s10, ⟨M.length, [], M, rfl, r2, by simp, .nil _ _, by simp [blkOf], r3, r4⟩, ?_⟩
 rintro x12 s10 m11 ⟨vis, rem, rfl, hit, hperm, hso, hnew, hfw, hfr10⟩
 have hvl : vis.length + rem.length = M.length := by
  have := hperm.length_eq
  simpa using this
 obtain ⟨l, n1, n2⟩ := hit.entry
 refine ⟨l, n1, fun x13 s14 hm => ?_⟩
 rcases n2 x13 s14 hm with ⟨rfl, rfl, rfl⟩ | ⟨ra, hh, x, rc, rfl, rfl, hit', w1, w2, w3, w4, hent⟩
 ·refine .inl ⟨rfl, ?_⟩
  have hp : vis.Perm (M.map (·.1)) := by simpa using hperm
  have hvl : vis.length ≤ 2097152 := by simp at hvl; omega
  refine (SortI_ok hso (by rw [List.length_map]; omega) hfr10).a.mono ?_
  rintro _ s19 ⟨rfl, l2, p1, p2, p3, p4, p5⟩
  have hl2 : l2.length = vis.length := by rw [p1.length_eq, List.length_map]
  refine ⟨rfl, (Compact_ok p3 (by omega) p5).a.mono ?_⟩
  rintro y s21 ⟨k1, k2, k3, k4⟩
  refine ⟨y, rfl, k1.slen ?_⟩
  have f21 : Frw [] s2 s21 := (hfw.step p4 hnew).step k3 hnew
  have hBm : ∀ a, a ∈ cpt l2 ↔ ∃ h, Has G h ∧ a = bg h := fun a => by
   rw [cpt_mem, p1.mem_iff, List.mem_map]
   refine ⟨fun ⟨q, q1, q2⟩ => ⟨q, hkey q (hp.mem_iff.1 q1), q2.symm⟩, fun ⟨q, q1, q2⟩ => ⟨q, hp.mem_iff.2 (hkey' q q1), q2.symm⟩⟩
  have hBl := cpt_len l2
  have hBr : (cpt l2).Pairwise (· < ·) := cpt_lt p2
  generalize cpt l2 = B at k1 hBm hBl hBr
  refine ⟨fun x26 n27 s28 m => ∃ (k : Nat) (W : List WinR), n27 = k ∧ m = B.length - k ∧ k ≤ B.length ∧ WinS s21 s28 G hG x26 W ∧ W.map (·.at_) = B.take k ∧ (∀ v, v ∈ W → v.width = w) ∧ Frw [] s21 s28 ∧ Fr s28, ⟨_, 0, [], rfl, rfl, by omega, ⟨.nil _ _, by simp [blkOf], by simp⟩, rfl, by simp, .refl _ _, k4⟩, ?_⟩
  rintro x26 _ s28 m29 ⟨k, W, rfl, hm29, hk, hW, hWB, hWw, f28, hfr28⟩
  have hWl : W.length = k := by
   have := congrArg List.length hWB
   rw [List.length_map, List.length_take] at this; omega
  refine bsel_of (fun c => ?_) fun c => ?_
  ·have c : k < B.length := by simp only [decide_eq_true_eq] at c; omega
   have hy := k1.ext f28
   refine hy.ixs rfl rfl c fun b1 o1 hR1 => ⟨B[k], hR1.ld1 0 rfl, ?_⟩
   have hR28 : Roll s28 r fan G fp := (show Roll s2 r fan G fp from ⟨m, M, h⟩).ext (f21.trans f28)
   have hrng : 0 ≤ B[k] ∧ B[k] ≤ 2097152 := by
    obtain ⟨q, ⟨e, q1⟩, q2⟩ := (hBm B[k]).1 (List.getElem_mem c)
    have q3 := hG.hour q e q1
    have q4 := tmod_rng (h := q) (w := w) q3.1 hwb.1
    rw [q2]
    show 0 ≤ q - Int.tmod q w ∧ q - Int.tmod q w ≤ 2097152
    omega
   refine (window_ok hR28 (a := B[k]) (w := w) hrng (by omega) hE hb).mono ?_
   rintro v s34 ⟨⟨xL, L, rfl, j1, j2⟩, j3, j4⟩
   refine ⟨B[k], w, xL, rfl, fun m38 s39 hN => ?_⟩
   obtain ⟨x', s41, q1, q2, q3, q4⟩ := hW.next (w := ⟨B[k], w, xL, L⟩) f28 hfr28 j1 j2 j3 hN (by omega)
   refine ⟨x', s41, q1, B.length - (k + 1), by omega, k + 1, _, wr_succ (by omega), rfl, by omega, q2, ?_, fun v hv => ?_, q3, q4⟩
   ·rw [List.map_append, hWB, ← List.take_append_getElem c]; rfl
   ·rcases List.mem_append.1 hv with hv | hv
    ·exact hWw v hv
    ·have : v = ⟨B[k], w, xL, L⟩ := by simpa using hv
     rw [this]
  ·have c : k = B.length := by simp only [decide_eq_false_iff_not] at c; omega
   rw [c, List.take_length] at hWB
   exact ⟨⟨x26, W, rfl, hW.base f21, hWw, by rw [hWB]; exact hBr, fun a => by rw [hWB]; exact hBm a⟩, f21.trans f28, hfr28⟩
 ·have hits : s2.h.get it = none := r5
  have hito : s10.h.get it ≠ none := by
   obtain ⟨es, ck, sn, _, _, _, _, g, _⟩ := hit
   rw [g]; simp
  have f14 : Frw [] s2 s14 := hfw.step w1 (fun c hc => by
   have : c = it := by simpa using hc
   rw [this]; exact hits)
  have hfr14 : Fr s14 := hfr10.wr hito w2 w4
  have hperm' : ((vis ++ [hh]) ++ (ra ++ rc).map (·.1)).Perm (M.map (·.1)) := by
   refine List.Perm.trans ?_ hperm
   simp only [List.map_append, List.map_cons, List.append_assoc]
   refine List.Perm.append_left _ ?_
   simpa using List.perm_middle.symm
  have hrng : 0 ≤ hh ∧ hh < 2097152 := by
   obtain ⟨e, he⟩ := hkey hh (hperm.mem_iff.1 (by simp))
   exact hG.hour hh e he
  have hit_nc : NoCells s10 it := hit.noCells
  have hso14 : So (oneE mkE) s14 x12 (vis.map bg) := hso.besideN w1 fun c hc => by
   have : c = it := by simpa using hc
   rw [this]; exact .inl hit_nc
  refine .inr ⟨hh, x, rfl, hh, x, hent, by omega, fun m47 s48 hN => ?_⟩
  have q4 := tmod_rng (h := hh) (w := w) hrng.1 hwb.1
  have ew : IntKind.wrap .i64 (hh - Int.tmod hh w) = bg hh := wrap_i64 (by omega) (by omega)
  rw [ew] at hN
  have hvl : vis.length ≤ 2097152 := by omega
  have hsz8 : vis.length = (vis.map bg).length := (List.length_map ..).symm
  obtain ⟨x49, s50, q1, q2, q3, q4, q5, q6⟩ := So.append' (a := bg hh) (hso14.ext hN.fwd) ty.sl_int64 rfl ty.int64 rfl rfl rfl rfl hN.own.rd rfl (hsz8 ▸ sz8 hvl) (hsz8 ▸ sz8' hvl) hN.fr
  have f48 := f14.trans hN.fwd
  refine ⟨x49, s50, q1, (ra ++ rc).length, by simp, vis ++ [hh], ra ++ rc, rfl, ?_, hperm', by rw [List.map_append]; exact q2, fun c hc => ?_, f48.step q3 hnew, q5⟩
  ·refine (hit'.ext hN.fwd).fwd q3 ?_ ?_
   ·intro hc
    exact absurd (hnew _ hc) h.map.there
   ·intro hc
    have := hso14.there it hc
    obtain ⟨es, ck, sn, _, _, _, _, g, _⟩ := hit
    rcases hso with ⟨rfl, _⟩ | ⟨b, kk, n, cc, rfl, _, g2, _⟩
    ·simp [blkOf] at hc
    ·have e : it = b := by simpa [blkOf] using hc
     rw [← e, g] at g2; simp at g2
  ·rw [q4] at hc
   have : c = s48.nx := by simpa using hc
   rw [this]
   exact f48.none (hN.fr _ (Nat.le_refl _)) (by simp)
end
end Go.Eng.S

namespace Go.Eng.S
open Go Go.Eng Go.Proofs
set_option linter.constructorNameAsVariable false
set_option maxRecDepth 4000
noncomputable section
attribute [local irreducible] bsel barsOf mergeB
structure WinD (s : St) (x : AV) (W : List WinR) : Prop where
 sl : Sl winE s x W
 each : ∀ w, w ∈ W → Sl etE s w.x w.L ∧ (∀ y, y ∈ w.L → Sl barE s y.2.2 y.2.1.l) ∧ w.L.length < 4611686018427387904 ∧ ∀ y, y ∈ w.L → y.2.1.l.length < 4611686018427387904
theorem WinD.ext {s s' : St} {x : AV} {W : List WinR} (h : WinD s x W) (f : Frw [] s s') : WinD s' x W := ⟨h.sl.ext f, fun w hw => by
 obtain ⟨h1, h2, h3, h4⟩ := h.each w hw
 exact ⟨h1.ext f, fun y hy => (h2 y hy).ext f, h3, h4⟩⟩
def rowK (p : PutR) : Int × Edge := (p.hour, p.edge)
structure RowL (s s' : St) (G2 : RollF) (fp2 : List Nat) (x : AV) (R : List PutR) (C : Int → Edge → Prop) : Prop where
 so : So putE s' x R
 new : ∀ c, c ∈ blkOf x → s.h.get c = none
 nd : (R.map rowK).Nodup
 each : ∀ p, p ∈ R → p.tal = G2 p.hour p.edge ∧ Sl barE s p.bars p.tal.l ∧ ∀ c, c ∈ blkOf p.bars → c ∈ fp2
 mem : ∀ h e, (h, e) ∈ R.map rowK ↔ (G2 h e ≠ .zero ∧ C h e)
theorem RowL.ext {s s' s2 : St} {G2 : RollF} {fp2 : List Nat} {x : AV} {R : List PutR} {C : Int → Edge → Prop} (h : RowL s s' G2 fp2 x R C) (f : Frw [] s' s2) : RowL s s2 G2 fp2 x R C := ⟨h.so.ext f, h.new, h.nd, h.each, h.mem⟩
theorem RowL.iter {s s' s2 : St} {G2 : RollF} {fp2 : List Nat} {x : AV} {R : List PutR} {C : Int → Edge → Prop} {it : Nat} (h : RowL s s' G2 fp2 x R C) (f : Frw [it] s' s2) (hn : NoCells s' it) : RowL s s2 G2 fp2 x R C :=
 ⟨h.so.besideN f fun c hc => by
  have : c = it := by simpa using hc
  rw [this]; exact .inl hn, h.new, h.nd, h.each, h.mem⟩
theorem RowL.le {s s' : St} {G2 : RollF} {fp2 : List Nat} {x : AV} {R : List PutR} {C : Int → Edge → Prop} (h : RowL s s' G2 fp2 x R C) {K0 : List (Int × Edge)} (hK : ∀ h e, G2 h e ≠ .zero → (h, e) ∈ K0) : R.length ≤ K0.length := by
 have := nodup_length_le h.nd (b := K0) fun p hp => hK p.1 p.2 ((h.mem p.1 p.2).1 hp).1
 rwa [List.length_map] at this
end
end Go.Eng.S

namespace Go.Eng.S
open Go Go.Eng Go.Proofs
set_option linter.constructorNameAsVariable false
set_option maxRecDepth 4000
noncomputable section
attribute [local irreducible] bsel barsOf mergeB
theorem WinS.d {s0 s : St} {G : RollF} {hG : RollG G} {x : AV} {W : List WinR} (h : WinS s0 s G hG x W) {E0 : List Edge} (hE : ∀ h e, G h e ≠ .zero → e ∈ E0) (hb : E0.length < 4611686018427387904) : WinD s x W := ⟨h.so.sl, fun w hw => by
 obtain ⟨h1, _, h3, h4⟩ := h.each w hw
 have hl := told_lenS h4 (sumH_ne (hG := hG) hE)
 rw [etP_len] at hl
 exact ⟨h1, fun y hy => (h3 y hy).1, by omega, told_bars h4⟩⟩
end
end Go.Eng.S

