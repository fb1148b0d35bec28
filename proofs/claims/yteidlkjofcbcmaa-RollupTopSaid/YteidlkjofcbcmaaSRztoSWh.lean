/-
  'RollupCover': plain laws, and the walk.
  'RollupCover': the walk.
  'RollupCover': puts as a row hands them in.
  Sorting that leaves equals in their order: insertion, parts that are exchanged.
  Sorting that leaves equals in their order: parts are turned about, merged.
  Sorting that leaves equals in their order: the merge.
  'slices.SortStableFunc'.
  The comparison of 'Top'; the end of a slice clipped.
  'Top'; what falls.
  'RollupTop': the walk.
  'RollupTop': the walk, from what a row hands in.
-/
import Derived.Test.YteidlkjofcbcmaaSRstoSRy
import Derived.Test.YteidlkjofcbcmaaSKr
import Derived.Test.YteidlkjofcbcmaaW13to14
import Derived.Test.YteidlkjofcbcmaaW15to25
import Derived.Test.YteidlkjofcbcmaaSVr4to2
import Derived.Test.YteidlkjofcbcmaaSVu3
namespace Go.Eng.S
open Go Go.Eng Go.Proofs
set_option linter.constructorNameAsVariable false
set_option maxRecDepth 4000
noncomputable section
attribute [local irreducible] bsel barsOf mergeB
theorem sumH_ne {G : RollF} {hG : RollG G} {a b : Int} {E0 : List Edge} (hE : ∀ h e, G h e ≠ .zero → e ∈ E0) (e : Edge) (h : sumH G hG a b e ≠ .zero) : e ∈ E0 := by
 refine Classical.byContradiction fun hn => h ?_
 refine gsum_zero fun x hx => ?_
 obtain ⟨h', _, rfl⟩ := List.mem_map.1 hx
 exact Subtype.ext (Classical.byContradiction fun h0 => hn (hE h' e h0))
theorem told_lenS {S : Edge → GT} {L : List (Edge × Tal)} {E0 : List Edge} (h : ToldL S L) (hE : ∀ e, S e ≠ .zero → e ∈ E0) : L.length ≤ E0.length := by
 have := nodup_length_le (a := L.map (·.1)) (b := E0) h.nodup fun e he => by
  obtain ⟨p, hp, rfl⟩ := List.mem_map.1 he
  refine hE _ fun h0 => ?_
  have := h.at hp
  rw [h0] at this
  exact this.2 this.1
 simpa using this
theorem told_bars {S : Edge → GT} {L : List ET} (h : ToldL S (etP L)) : ∀ y, y ∈ L → y.2.1.l.length < 4611686018427387904 := fun y hy => by
 have := (h.at (p := (y.1, y.2.1)) (List.mem_map.2 ⟨y, hy, rfl⟩)).1
 simp only at this
 have ho := (S y.1).2.1
 rw [← this] at ho
 have := okB_len' ho
 omega
end
end Go.Eng.S

namespace Go.Eng.S
open Go Go.Eng Go.Proofs
set_option linter.constructorNameAsVariable false
set_option maxRecDepth 4000
noncomputable section
attribute [local irreducible] bsel barsOf mergeB
end
end Go.Eng.S

namespace Go.Eng.S
open Go Go.Eng Go.Proofs
set_option linter.constructorNameAsVariable false
noncomputable section
instance : Inhabited PutR := ⟨⟨0, (ByteArray.empty, ByteArray.empty), .zero, .nilslice⟩⟩
variable {H : Type} {enc : TypeId × Value → H} {w : World} {base : Nat} {held : Bool} {fuel : Nat}
theorem bars_read {v : Value} {x : DataW H × List MemPlace} (h : DataW.trod enc P w base (fun _ => true) held fuel T.sl_api_Bar [v] = some x) :
  ∃ (a : AV) (l : List Bar), absV w.heap.size v = some a ∧ Sl barE (stW w) a l ∧ RngB l ∧ l.length ≤ maxLen := by
 refine slice_read barE RngP h Try.underlying49 (by kernel_rfl) fun n cs y hy hl => ?_
 obtain ⟨a, b, rfl, wa, wb⟩ := pair_read hy Try.underlying80 rfl rfl rfl rfl Try.underlying3 Try.underlying46 (by kernel_rfl) (by kernel_rfl) (by kernel_rfl)
 have h1 := bounds_i64 wa
 have h2 := bounds_u64 wb
 refine ⟨(a, b), ⟨h1.1, by omega, h2.1, h2.2⟩, fun j hj => ?_⟩
 match j, hj with
 | 0, _ => exact ⟨_, _, rfl, rfl, rfl⟩
 | 1, _ => exact ⟨_, _, rfl, rfl, rfl⟩
set_option maxRecDepth 100000 in
theorem tal_cells {cs : List Value} {y : DataW H × List MemPlace} (h : DataW.trod enc P w base (fun _ => true) held fuel T.api_Tally cs = some y) :
  ∃ (t : Tal) (x : AV) (v6 : Value), cs = [.int .u64 t.a.1, .int .u64 t.a.2, .int .u64 t.b.1, .int .u64 t.b.2, .int .u64 t.c.1, .int .u64 t.c.2, v6] ∧ absV w.heap.size v6 = some x ∧ Sl barE (stW w) x t.l ∧ t.Rng ∧ t.l.length ≤ maxLen := by
 obtain ⟨xs, n, _, _, hl, hx, hf⟩ := DataW.trod_struct Try.underlying51 h
 rw [show P.cellsOf T.api_Tally = 7 by kernel_rfl] at hl
 have hf' := fun i f (hf0 : _) => hf i f hf0
 change xs.length = 4 at hx
 have g0 := hf' 0 _ rfl
 have g1 := hf' 1 _ rfl
 have g2 := hf' 2 _ rfl
 have g3 := hf' 3 _ rfl
 rw [List.getElem?_eq_getElem (by omega)] at g0 g1 g2 g3
 have pr : ∀ {n : Nat} {cs : List Value} {y : DataW H × List MemPlace}, DataW.trod enc P w base (fun _ => true) held n T.api_Nat cs = some y → ∃ a b, cs = [.int .u64 a, .int .u64 b] ∧ Rng2 (a, b) := by
  intro n cs y hy
  obtain ⟨a, b, rfl, wa, wb⟩ := pair_read hy Try.underlying48 rfl rfl rfl rfl Try.underlying46 Try.underlying46 (by kernel_rfl) (by kernel_rfl) (by kernel_rfl)
  exact ⟨a, b, rfl, bounds_u64 wa, bounds_u64 wb⟩
 obtain ⟨a1, a2, e0, r0⟩ := pr g0
 obtain ⟨b1, b2, e1, r1⟩ := pr g1
 obtain ⟨c1, c2, e2, r2⟩ := pr g2
 obtain ⟨v0, v1, v2, v3, v4, v5, v6, rfl⟩ : ∃ v0 v1 v2 v3 v4 v5 v6, cs = [v0, v1, v2, v3, v4, v5, v6] := by
  match cs, hl with
  | [v0, v1, v2, v3, v4, v5, v6], _ => exact ⟨v0, v1, v2, v3, v4, v5, v6, rfl⟩
 change List.take (P.cellsOf T.api_Nat) (List.drop 0 [v0, v1, v2, v3, v4, v5, v6]) = _ at e0
 change List.take (P.cellsOf T.api_Nat) (List.drop 2 [v0, v1, v2, v3, v4, v5, v6]) = _ at e1
 change List.take (P.cellsOf T.api_Nat) (List.drop 4 [v0, v1, v2, v3, v4, v5, v6]) = _ at e2
 change DataW.trod enc P w base (fun _ => true) held n T.sl_api_Bar (List.take (P.cellsOf T.sl_api_Bar) (List.drop 6 [v0, v1, v2, v3, v4, v5, v6])) = _ at g3
 rw [show P.cellsOf T.api_Nat = 2 by kernel_rfl] at e0 e1 e2
 rw [show P.cellsOf T.sl_api_Bar = 1 by kernel_rfl] at g3
 simp at e0 e1 e2
 obtain ⟨rfl, rfl⟩ := e0
 obtain ⟨rfl, rfl⟩ := e1
 obtain ⟨rfl, rfl⟩ := e2
 obtain ⟨x, l, q1, q2, q3, q4⟩ := bars_read (v := v6) g3
 exact ⟨⟨(a1, a2), (b1, b2), (c1, c2), l⟩, x, v6, rfl, q1, q2, ⟨r0, r1, r2, q3⟩, q4⟩
set_option maxRecDepth 100000 in
theorem edge_cells {cs : List Value} {y : DataW H × List MemPlace} (h : DataW.trod enc P w base (fun _ => true) held fuel T.api_Edge cs = some y) :
  ∃ s0 s1 : ByteArray, cs = [.string s0, .string s1] := by
 obtain ⟨xs1, n1, _, _, hl1, hx1, hf1⟩ := DataW.trod_struct Try.underlying45 h
 rw [show P.cellsOf T.api_Edge = 2 by kernel_rfl] at hl1
 change xs1.length = 2 at hx1
 have k0 := hf1 0 _ rfl
 have k1 := hf1 1 _ rfl
 rw [List.getElem?_eq_getElem (by omega)] at k0 k1
 change DataW.trod enc P w base (fun _ => true) held n1 T.ystring_9 (List.take (P.cellsOf T.ystring_9) (List.drop 0 cs)) = _ at k0
 change DataW.trod enc P w base (fun _ => true) held n1 T.ystring_9 (List.take (P.cellsOf T.ystring_9) (List.drop 1 cs)) = _ at k1
 obtain ⟨s0, e4, _, _⟩ := DataW.trod_string Try.underlying9 k0
 obtain ⟨s1, e5, _, _⟩ := DataW.trod_string Try.underlying9 k1
 rw [show P.cellsOf T.ystring_9 = 1 by kernel_rfl] at e4 e5
 obtain ⟨v0, v1, rfl⟩ : ∃ v0 v1, cs = [v0, v1] := by
  match cs, hl1 with
  | [v0, v1], _ => exact ⟨v0, v1, rfl⟩
 simp at e4 e5
 exact ⟨s0, s1, by rw [e4, e5]⟩
set_option maxRecDepth 100000 in
theorem puts_read {v : Value} {x : DataW H × List MemPlace} (h : DataW.trod enc P w base (fun _ => true) held fuel T.sl_spoorlaw15_Put [v] = some x) :
  ∃ (a : AV) (l : List PutR), absV w.heap.size v = some a ∧ Sl putE (stW w) a l ∧ (∀ p, p ∈ l → FineP (stW w) p) ∧ l.length ≤ slcLen x.1 ∧ l.length ≤ maxLen ∧ ∀ p, p ∈ l → p.tal.l.length ≤ maxLen := by
 obtain ⟨a, l, h1, h2, h3, h4, h5⟩ := slice_read2 putE (fun p => FineP (stW w) p ∧ p.tal.l.length ≤ maxLen) h Try.underlying22 (by kernel_rfl) fun n cs y hy hl => by
  have hl : cs.length = 10 := hl
  obtain ⟨xs, n, _, _, _, hx, hf⟩ := DataW.trod_struct Try.underlying53 hy
  change xs.length = 3 at hx
  have hf' := fun i f (hf0 : _) => hf i f hf0
  have g0 := hf' 0 _ rfl
  have g1 := hf' 1 _ rfl
  have g2 := hf' 2 _ rfl
  rw [List.getElem?_eq_getElem (by omega)] at g0 g1 g2
  change DataW.trod enc P w base (fun _ => true) held n T.int64 (List.take (P.cellsOf T.int64) (List.drop 0 cs)) = _ at g0
  change DataW.trod enc P w base (fun _ => true) held n T.api_Edge (List.take (P.cellsOf T.api_Edge) (List.drop 1 cs)) = _ at g1
  change DataW.trod enc P w base (fun _ => true) held n T.api_Tally (List.take (P.cellsOf T.api_Tally) (List.drop 3 cs)) = _ at g2
  obtain ⟨hr, e0, _, w0⟩ := DataW.trod_int Try.underlying2 g0
  obtain ⟨s0, s1, e1⟩ := edge_cells g1
  obtain ⟨t, z, v6, e2, q1, q2, q3, q4⟩ := tal_cells g2
  rw [show P.cellsOf T.int64 = 1 by kernel_rfl] at e0
  rw [show P.cellsOf T.api_Edge = 2 by kernel_rfl] at e1
  rw [show P.cellsOf T.api_Tally = 7 by kernel_rfl] at e2
  obtain ⟨c0, c1, c2, c3, c4, c5, c6, c7, c8, c9, rfl⟩ : ∃ c0 c1 c2 c3 c4 c5 c6 c7 c8 c9, cs = [c0, c1, c2, c3, c4, c5, c6, c7, c8, c9] := by
   match cs, hl with
   | [c0, c1, c2, c3, c4, c5, c6, c7, c8, c9], _ => exact ⟨c0, c1, c2, c3, c4, c5, c6, c7, c8, c9, rfl⟩
  simp at e0 e1 e2
  obtain ⟨rfl, rfl⟩ := e1
  obtain ⟨rfl, rfl, rfl, rfl, rfl, rfl, rfl⟩ := e2
  subst e0
  refine ⟨⟨hr, (s0, s1), t, z⟩, ⟨⟨q2, q3⟩, q4⟩, fun j hj => ?_⟩
  match j, hj with
  | 0, _ => exact ⟨_, _, rfl, rfl, rfl⟩
  | 1, _ => exact ⟨_, _, rfl, rfl, rfl⟩
  | 2, _ => exact ⟨_, _, rfl, rfl, rfl⟩
  | 3, _ => exact ⟨_, _, rfl, rfl, rfl⟩
  | 4, _ => exact ⟨_, _, rfl, rfl, rfl⟩
  | 5, _ => exact ⟨_, _, rfl, rfl, rfl⟩
  | 6, _ => exact ⟨_, _, rfl, rfl, rfl⟩
  | 7, _ => exact ⟨_, _, rfl, rfl, rfl⟩
  | 8, _ => exact ⟨_, _, rfl, rfl, rfl⟩
  | 9, _ => exact ⟨_, _, rfl, rfl, q1⟩
 exact ⟨a, l, h1, h2, fun p hp => (h3 p hp).1, h5, h4, fun p hp => (h3 p hp).2⟩
end
end Go.Eng.S

namespace Go.Eng.S
open Go Go.Eng Go.Proofs
set_option linter.constructorNameAsVariable false
noncomputable section
attribute [local irreducible] bsel callK
instance : Inhabited ET := ⟨((ByteArray.empty, ByteArray.empty), .zero, .nilslice)⟩
def okT (y : ET) : Prop := ones (etF y) = true
abbrev RowT := RowE etE okT
variable {s0 s : St} {x : AV} {l : List ET}
theorem okT_one : ∀ y, okT y → ones (etE.f y) = true := fun _ h => h
theorem rdT (h : RowT s0 x s l) {i : Int} {k : Nat} (hi : i = (k : Int)) (hk : k < l.length) {R : ByteArray → ByteArray → Int → Int → Int → Int → Int → Int → AV → Prop} (hR : R (at' l k).1.1 (at' l k).1.2 (at' l k).2.1.a.1 (at' l k).2.1.a.2 (at' l k).2.1.b.1 (at' l k).2.1.b.2 (at' l k).2.1.c.1 (at' l k).2.1.c.2 (at' l k).2.2) :
  ixsK 9 x i fun b o => ∃ t1 t2 n1 n2 n3 n4 n5 n6 z, ldN s (.ptr b o) 9 = some [.str t1, .str t2, .int .u64 n1, .int .u64 n2, .int .u64 n3, .int .u64 n4, .int .u64 n5, .int .u64 n6, z] ∧ R t1 t2 n1 n2 n3 n4 n5 n6 z :=
 h.rd rfl hi hk fun b o hr => ⟨_, _, _, _, _, _, _, _, _, hr.all rfl, hR⟩
theorem swT (h : RowT s0 x s l) {i j : Int} {p q : Nat} (hi : i = (p : Int)) (hj : j = (q : Int)) (hp : p < l.length) (hq : q < l.length) {R : St → Prop} (hR : ∀ s', RowT s0 x s' (sw l q p) → R s') :
  ixsK 9 x i fun b o => ∃ t1 t2 n1 n2 n3 n4 n5 n6 z, ldN s (.ptr b o) 9 = some [.str t1, .str t2, .int .u64 n1, .int .u64 n2, .int .u64 n3, .int .u64 n4, .int .u64 n5, .int .u64 n6, z] ∧
  ixsK 9 x j fun b o => ∃ t1' t2' n1' n2' n3' n4' n5' n6' z', ldN s (.ptr b o) 9 = some [.str t1', .str t2', .int .u64 n1', .int .u64 n2', .int .u64 n3', .int .u64 n4', .int .u64 n5', .int .u64 n6', z'] ∧
  ixsK 9 x j fun b o => ∃ s1, wrN s (.ptr b o) [.str t1, .str t2, .int .u64 n1, .int .u64 n2, .int .u64 n3, .int .u64 n4, .int .u64 n5, .int .u64 n6, z] = some s1 ∧
  ixsK 9 x i fun b o => ∃ s2, wrN s1 (.ptr b o) [.str t1', .str t2', .int .u64 n1', .int .u64 n2', .int .u64 n3', .int .u64 n4', .int .u64 n5', .int .u64 n6', z'] = some s2 ∧ R s2 :=
 rdT h hi hp (rdT h hj hq (h.wr okT_one rfl hj hq (a := at' l p) (h.at hp) fun s1 h1 => h1.wr okT_one rfl hi (by simpa using hp) (a := at' l q) (h.at hq) fun s2 h2 => hR s2 h2))
def CmpOk (M : List Nat) (s0 : St) (f : AV) (cf : ET → ET → Int) : Prop :=
 ∀ (s : St) (y z : ET) (K : AV → St → Prop), Frw M s0 s → Fr s → okT y → okT z → (∀ s', Frw [] s s' → Fr s' → K (.int .i64 (cf y z)) s') → callK P D rt true s f [.agg (etF y), .agg (etF z)] K
theorem callK_of {det : Bool} {g : FuncId} {fi : FnI} (hg : D.fn.get g = some fi) {first caps xs : List AV} {s : St} {K : AV → St → Prop} (h : CallsD P g (first ++ xs ++ caps) s fun v s' => exRes D (rt g) fun u => v = u ∧ K u s') : callK P D rt det s (.func g first caps) xs K := by
 unfold callK fnK
 simp only [hg]
 cases det with
 | false => exact h.a
 | true => exact h
variable {cf : ET → ET → Int} {f : AV} {tie : ET → ET → Prop}
def ltC (cf : ET → ET → Int) (y z : ET) : Bool := decide (cf y z < 0)
set_option maxHeartbeats 1000000 in
theorem InsertionC_ok (hO : LtO (ltC cf)) (hC : CmpOk (blkOf x) s0 f cf) (h : RowT s0 x s l) {a b : Nat} (hab : a ≤ b) (hb : b ≤ l.length) (hsz : l.length < 4611686018427387904) (hT : ∀ i j, a ≤ i → i < j → j < b → tie (at' l i) (at' l j)) :
  CallsD P F.slices_insertionSortCmpFunc_api_EdgeTally [x, .int .i64 (a : Int), .int .i64 (b : Int), f] s fun v s' => v = .tuple [] ∧ ∃ l', RowT s0 x s' l' ∧ RP a b l l' ∧ LexS (ltC cf) tie a b l' := by
 refine vc.slices_insertionSortCmpFunc_api_EdgeTally_ok ⟨fun n3 s4 m => ∃ (i : Nat) (l1 : List ET), n3 = i ∧ m = b - i ∧ a + 1 ≤ i ∧ i ≤ max (a + 1) b ∧ RowT s0 x s4 l1 ∧ RP a i l l1 ∧ LexS (ltC cf) tie a i l1, ⟨_, a + 1, l, wr_succ (by omega), rfl, Nat.le_refl _, by omega, h, .refl _ _ _, .small (Nat.le_refl _)⟩, ?_⟩
 rintro _ s4 _ ⟨i, l1, rfl, rfl, hi, hi2, hR, hP, hS⟩
 refine bsel_of (fun c => ?_) fun c => ?_
 ·have c : i < b := by simpa using c
  have hl1 := hP.len
  have htie : ∀ k, a ≤ k → k < i → tie (at' l1 k) (at' l1 i) := fun k g1 g2 => by
   rw [hP.out i (.inr (Nat.le_refl _))]
   exact hP.all (p := fun y => tie y (at' l i)) (by omega) (fun q q1 q2 => hT q i q1 q2 c) k g1 g2
  refine ⟨fun n8 s9 m => ∃ (j : Nat) (l2 : List ET), n8 = j ∧ m = j + 1 ∧ a ≤ j ∧ j ≤ i ∧ RowT s0 x s9 l2 ∧ RP a (i + 1) l1 l2 ∧ at' l2 j = at' l1 i ∧ (∀ k, a ≤ k → k < j → at' l2 k = at' l1 k) ∧ (∀ k, j < k → k ≤ i → at' l2 k = at' l1 (k - 1) ∧ ltC cf (at' l1 i) (at' l1 (k - 1)) = true), ⟨_, i, l1, rfl, rfl, by omega, Nat.le_refl _, hR, .refl _ _ _, rfl, fun k _ _ => rfl, fun k g1 g2 => by omega⟩, ?_⟩
  rintro _ s9 _ ⟨j, l2, rfl, rfl, hj, hj2, hR2, hP2, e1, e2, e3⟩
  have hl2 := hP2.len
  have done : (a < j → ltC cf (at' l1 i) (at' l1 (j - 1)) = false) → LexS (ltC cf) tie a (i + 1) l2 := by
   intro hd p q g1 g2 g3
   by_cases c1 : q < j
   ·rw [e2 p g1 (by omega), e2 q (by omega) c1]; exact hS p q g1 g2 (by omega)
   by_cases c2 : q = j
   ·rw [c2, e1, e2 p g1 (by omega)]
    have hle : ltC cf (at' l1 i) (at' l1 p) = false := by
     by_cases c3 : p = j - 1
     ·rw [c3]; exact hd (by omega)
     ·exact hO.ntrans _ _ _ (hS p (j - 1) g1 (by omega) (by omega)).1 (hd (by omega))
    exact ⟨hle, fun _ => htie p g1 (by omega)⟩
   ·obtain ⟨g4, g5⟩ := e3 q (by omega) (by omega)
    rw [g4]
    by_cases c3 : p < j
    ·rw [e2 p g1 c3]
     exact hS p (q - 1) g1 (by omega) (by omega)
    by_cases c4 : p = j
    ·rw [c4, e1]; exact lex_of_lt hO g5
    ·rw [(e3 p (by omega) (by omega)).1]; exact hS (p - 1) (q - 1) (by omega) (by omega) (by omega)
  refine ⟨fun c s25 _ => c = (decide (a < j) && ltC cf (at' l2 j) (at' l2 (j - 1))) ∧ RowT s0 x s25 l2, ?_, ?_⟩
  ·intro s12 hB
   have hR3 := hR2.bump hB
   refine bsel_of (fun c1 => ?_) fun c1 => ?_
   ·have c1 : a < j := by simpa using c1
    refine rdT hR3 rfl (by omega) (rdT hR3 (k := j - 1) (wr_pred (by omega) (by omega)) (by omega) ?_)
    refine hC s12 (at' l2 j) (at' l2 (j - 1)) _ hR3.frw hR3.fr (hR3.at (by omega)) (hR3.at (by omega)) fun s' hf hfr => ?_
    exact ⟨_, rfl, 0, by simp [c1, ltC], hR3.ext hf hfr⟩
   ·have c1 : ¬ a < j := by simpa using c1
    exact ⟨0, by simp [c1], hR3⟩
  rintro c24 s25 _ ⟨rfl, hR3⟩
  refine bsel_of (fun c1 => ?_) fun c1 => ?_
  ·obtain ⟨c1, c2⟩ : a < j ∧ ltC cf (at' l2 j) (at' l2 (j - 1)) = true := by simpa using c1
   intro s27 hB
   refine swT (hR3.bump hB) (wr_pred (by omega) (by omega)) rfl (by omega) (by omega) fun s39 hR4 => ⟨j - 1 + 1, by omega, j - 1, _, wr_pred (by omega) (by omega), rfl, by omega, by omega, hR4, hP2.trans (.sw (by omega) (by omega) (by omega) (by omega)), ?_, fun k g1 g2 => ?_, fun k g1 g2 => ?_⟩
   ·rw [at_sw (by omega) (by omega), if_pos rfl, e1]
   ·rw [at_sw (by omega) (by omega), if_neg (by omega), if_neg (by omega)]; exact e2 k g1 (by omega)
   ·rw [at_sw (by omega) (by omega), if_neg (by omega)]
    by_cases c3 : k = j
    ·rw [if_pos c3, c3, e2 (j - 1) (by omega) (by omega)]
     rw [e1, e2 (j - 1) (by omega) (by omega)] at c2
     exact ⟨rfl, c2⟩
    ·rw [if_neg c3]; exact e3 k (by omega) g2
  ·refine ⟨b - (i + 1), by omega, i + 1, l2, wr_succ (by omega), rfl, by omega, by omega, hR3, (hP.mono (Nat.le_refl _) (by omega)).trans hP2, done fun hj3 => ?_⟩
   simp only [Bool.and_eq_false_iff, decide_eq_false_iff_not] at c1
   rcases c1 with c1 | c1
   ·omega
   ·rw [e1, e2 (j - 1) (by omega) (by omega)] at c1; exact c1
 ·have c : ¬ i < b := by simpa using c
  by_cases e : i = b
  ·subst e; exact ⟨rfl, l1, hR, hP, hS⟩
  ·have e1 : i = a + 1 := by omega
   refine ⟨rfl, l1, hR, ⟨hP.len, fun k hk => ?_, hP.perm⟩, .small (by omega)⟩
   by_cases c1 : k < a ∨ i ≤ k
   ·exact hP.out k c1
   ·have e2 : k = a := by omega
    subst e2 e1
    have e3 : b = k := by omega
    subst e3
    by_cases c2 : b < l.length
    ·have := hP.all (p := fun y => y = at' l b) (by omega) (fun q q1 q2 => by
      have : q = b := by omega
      rw [this]) b (Nat.le_refl _) (by omega)
     exact this
    ·have hl1 := hP.len
     simp [at', List.getElem?_eq_none (show l.length ≤ b by omega), List.getElem?_eq_none (show l1.length ≤ b by omega)]
theorem SwapRange_ok (h : RowT s0 x s l) {a b n : Nat} (hab : a + n ≤ b) (hb : b + n ≤ l.length) (hsz : l.length < 4611686018427387904) :
  CallsD P F.slices_swapRangeCmpFunc_api_EdgeTally [x, .int .i64 (a : Int), .int .i64 (b : Int), .int .i64 (n : Int), f] s fun v s' => v = .tuple [] ∧ ∃ l', RowT s0 x s' l' ∧ RP a (b + n) l l' ∧ (∀ k, k < n → at' l' (a + k) = at' l (b + k) ∧ at' l' (b + k) = at' l (a + k)) ∧ ∀ k, a + n ≤ k → k < b → at' l' k = at' l k := by
 refine vc.slices_swapRangeCmpFunc_api_EdgeTally_ok ⟨fun n3 s4 m => ∃ (i : Nat) (l1 : List ET), n3 = i ∧ m = n - i ∧ i ≤ n ∧ RowT s0 x s4 l1 ∧ RP a (b + n) l l1 ∧ (∀ k, k < i → at' l1 (a + k) = at' l (b + k) ∧ at' l1 (b + k) = at' l (a + k)) ∧ (∀ k, i ≤ k → k < n → at' l1 (a + k) = at' l (a + k) ∧ at' l1 (b + k) = at' l (b + k)) ∧ ∀ k, a + n ≤ k → k < b → at' l1 k = at' l k, ⟨_, 0, l, rfl, rfl, by omega, h, .refl _ _ _, fun k hk => by omega, fun k _ _ => ⟨rfl, rfl⟩, fun k _ _ => rfl⟩, ?_⟩
 rintro _ s4 _ ⟨i, l1, rfl, rfl, hi, hR, hP, e1, e2, e3⟩
 have hl1 := hP.len
 refine bsel_of (fun c => ?_) fun c => ?_
 ·have c : i < n := by simpa using c
  intro s6 hB
  refine swT (hR.bump hB) (p := b + i) (q := a + i) (wr_add (by omega)) (wr_add (by omega)) (by omega) (by omega) fun s34 hR4 => ⟨n - (i + 1), by omega, i + 1, _, wr_succ (by omega), rfl, by omega, hR4, hP.trans (.sw (by omega) (by omega) (by omega) (by omega)), fun k hk => ?_, fun k g1 g2 => ?_, fun k g1 g2 => ?_⟩
  ·rw [at_sw (by omega) (by omega), at_sw (by omega) (by omega)]
   by_cases c1 : k = i
   ·subst c1
    rw [if_neg (by omega), if_pos rfl, if_pos rfl]
    exact ⟨(e2 k (Nat.le_refl _) c).2, (e2 k (Nat.le_refl _) c).1⟩
   ·rw [if_neg (by omega), if_neg (by omega), if_neg (by omega), if_neg (by omega)]
    exact e1 k (by omega)
  ·rw [at_sw (by omega) (by omega), at_sw (by omega) (by omega), if_neg (by omega), if_neg (by omega), if_neg (by omega), if_neg (by omega)]
   exact e2 k (by omega) g2
  ·rw [at_sw (by omega) (by omega), if_neg (by omega), if_neg (by omega)]
   exact e3 k g1 g2
 ·have c : i = n := by simp at c; omega
  subst c
  exact ⟨rfl, l1, hR, hP, e1, e3⟩
end
end Go.Eng.S

namespace Go.Eng.S
open Go Go.Eng Go.Proofs
set_option linter.constructorNameAsVariable false
noncomputable section
attribute [local irreducible] bsel callK
variable {s0 s : St} {x : AV} {l : List ET} {cf : ET → ET → Int} {f : AV} {tie : ET → ET → Prop}
structure RotP (a m b : Nat) (l l' : List ET) : Prop where
 len : l'.length = l.length
 hi : ∀ k, k < b - m → at' l' (a + k) = at' l (m + k)
 lo : ∀ k, k < m - a → at' l' (a + (b - m) + k) = at' l (a + k)
 out : ∀ k, (k < a ∨ b ≤ k) → at' l' k = at' l k
set_option maxHeartbeats 1000000 in
theorem Rotate_ok (h : RowT s0 x s l) {a m b : Nat} (h1 : a < m) (h2 : m < b) (hb : b ≤ l.length) (hsz : l.length < 2305843009213693952) :
  CallsD P F.slices_rotateCmpFunc_api_EdgeTally [x, .int .i64 (a : Int), .int .i64 (m : Int), .int .i64 (b : Int), f] s fun v s' => v = .tuple [] ∧ ∃ l', RowT s0 x s' l' ∧ RP a b l l' ∧ RotP a m b l l' := by
 refine vc.slices_rotateCmpFunc_api_EdgeTally_ok ⟨fun n3 n4 s5 n => ∃ (i j : Nat) (l1 : List ET), n3 = i ∧ n4 = j ∧ n = i + j ∧ 0 < i ∧ 0 < j ∧ i ≤ m - a ∧ j ≤ b - m ∧ RowT s0 x s5 l1 ∧ RP a b l l1 ∧ ∀ l2, RotP (m - i) m (m + j) l1 l2 → RotP a m b l l2, ⟨_, m - a, b - m, l, wr_sub (by omega) (by omega), wr_sub (by omega) (by omega), rfl, by omega, by omega, Nat.le_refl _, Nat.le_refl _, h, .refl _ _ _, fun l2 q => by rw [show m - (m - a) = a by omega, show m + (b - m) = b by omega] at q; exact q⟩, ?_⟩
 rintro _ _ s5 m6 ⟨i, j, l1, rfl, rfl, hm6, hi0, hj0, hi, hj, hR, hP, hK⟩
 have hl1 := hP.len
 rw [wr_sub (a := m) (b := i) (by omega) (by omega)]
 refine bsel_of (fun c => ?_) fun c => ?_
 ·have c : i ≠ j := by simp at c; omega
  refine bsel_of (fun c1 => ?_) fun c1 => ?_
  ·have c1 : j < i := by simpa using c1
   refine (SwapRange_ok hR (a := m - i) (b := m) (n := j) (by omega) (by omega) (by omega)).mono ?_
   rintro _ s8 ⟨rfl, l2, q1, q2, q3, q4⟩
   refine ⟨rfl, i - j + j, by omega, i - j, j, l2, wr_sub (by omega) (by omega), rfl, rfl, by omega, hj0, by omega, hj, q1, hP.trans (q2.mono (by omega) (by omega)), fun l3 ⟨r1, r2, r3, r4⟩ => hK l3 ⟨r1.trans q2.len, fun k hk => ?_, fun k hk => ?_, fun k hk => ?_⟩⟩
   ·rw [r4 _ (.inl (by omega))]; exact (q3 k (by omega)).1
   ·by_cases ck : k < j
    ·have := r2 k (by omega)
     rw [show m - (i - j) + k = m - i + (m + j - m) + k by omega] at this
     rw [this]; exact (q3 k ck).2
    ·have := r3 (k - j) (by omega)
     rw [show m - (i - j) + (m + j - m) + (k - j) = m - i + (m + j - m) + k by omega, show m - (i - j) + (k - j) = m - i + k by omega] at this
     rw [this]; exact q4 _ (by omega) (by omega)
   ·rw [r4 _ (by omega)]
    exact q2.out k (by omega)
  ·have c1 : i < j := by
    have : ¬ j < i := by simpa using c1
    omega
   rw [wr_add (a := m) (b := j) (by omega), wr_sub (a := m + j) (b := i) (by omega) (by omega)]
   refine (SwapRange_ok hR (a := m - i) (b := m + j - i) (n := i) (by omega) (by omega) (by omega)).mono ?_
   rintro _ s8 ⟨rfl, l2, q1, q2, q3, q4⟩
   refine ⟨rfl, i + (j - i), by omega, i, j - i, l2, rfl, wr_sub (by omega) (by omega), rfl, hi0, by omega, hi, by omega, q1, hP.trans (q2.mono (by omega) (by omega)), fun l3 ⟨r1, r2, r3, r4⟩ => hK l3 ⟨r1.trans q2.len, fun k hk => ?_, fun k hk => ?_, fun k hk => ?_⟩⟩
   ·by_cases ck : k < j - i
    ·rw [r2 k (by omega)]; exact q4 _ (by omega) (by omega)
    ·have := r3 (k - (j - i)) (by omega)
     rw [show m - i + (m + (j - i) - m) + (k - (j - i)) = m - i + k by omega] at this
     rw [this, (q3 (k - (j - i)) (by omega)).1]
     congr 1; omega
   ·rw [r4 _ (.inr (by omega))]
    have := (q3 k (by omega)).2
    rw [show m + j - i + k = m - i + (m + j - m) + k by omega] at this
    exact this
   ·rw [r4 _ (by omega)]
    exact q2.out k (by omega)
 ·have c : i = j := by simp at c; omega
  subst c
  refine (SwapRange_ok hR (a := m - i) (b := m) (n := i) (by omega) (by omega) (by omega)).mono ?_
  rintro _ s8 ⟨rfl, l2, q1, q2, q3, q4⟩
  refine ⟨rfl, rfl, l2, q1, hP.trans (q2.mono (by omega) (by omega)), hK l2 ⟨q2.len, fun k hk => (q3 k (by omega)).1, fun k hk => ?_, fun k hk => q2.out k (by omega)⟩⟩
  have := (q3 k (by omega)).2
  rw [show m + k = m - i + (m + i - m) + k by omega] at this
  exact this
theorem half_ok {i j : Nat} (h : i + j < 9223372036854775808) : IntKind.wrap .i64 (Int.fdiv (IntKind.wrap .u64 (IntKind.wrap .i64 ((i : Int) + (j : Int)))) (2 ^ 1)) = (((i + j) / 2 : Nat) : Int) := by
 rw [wr_add h, wrap_u64 (by omega) (by omega), fdiv_pow, wr_nat (by omega)]
def SymQ (cf : ET → ET → Int) (tie : ET → ET → Prop) (s0 : St) (x : AV) (l : List ET) (a b : Nat) (v : AV) (s' : St) : Prop := v = .tuple [] ∧ ∃ l', RowT s0 x s' l' ∧ RP a b l l' ∧ LexS (ltC cf) tie a b l'
theorem one_left (hO : LtO (ltC cf)) {a b i : Nat} {l l' : List ET} (ha : a + 1 ≤ i) (hi : i ≤ b) (hS : LexS (ltC cf) tie (a + 1) b l) (hT : TieS tie a (a + 1) b l) (h1 : ∀ k, a + 1 ≤ k → k < i → ltC cf (at' l k) (at' l a) = true) (h2 : ∀ k, i ≤ k → k < b → ltC cf (at' l k) (at' l a) = false)
  (e1 : ∀ p, a ≤ p → p + 1 < i → at' l' p = at' l (p + 1)) (e2 : at' l' (i - 1) = at' l a) (e3 : ∀ p, i ≤ p → at' l' p = at' l p) : LexS (ltC cf) tie a b l' := by
 intro p q g1 g2 g3
 by_cases c1 : q + 1 < i
 ·rw [e1 p g1 (by omega), e1 q (by omega) c1]; exact hS _ _ (by omega) (by omega) (by omega)
 by_cases c2 : q + 1 = i
 ·have : q = i - 1 := by omega
  rw [this, e2, e1 p g1 (by omega)]; exact lex_of_lt hO (h1 _ (by omega) (by omega))
 rw [e3 q (by omega)]
 by_cases c3 : p + 1 < i
 ·rw [e1 p g1 c3]; exact hS _ _ (by omega) (by omega) g3
 by_cases c4 : p + 1 = i
 ·have : p = i - 1 := by omega
  rw [this, e2]
  exact ⟨h2 q (by omega) g3, fun _ => hT a q (Nat.le_refl _) (by omega) (by omega) g3⟩
 ·rw [e3 p (by omega)]; exact hS p q (by omega) g2 g3
theorem one_right (hO : LtO (ltC cf)) {a m i : Nat} {l l' : List ET} (ha : a ≤ i) (hi : i ≤ m) (hS : LexS (ltC cf) tie a m l) (hT : TieS tie a m (m + 1) l) (h1 : ∀ k, a ≤ k → k < i → ltC cf (at' l m) (at' l k) = false) (h2 : ∀ k, i ≤ k → k < m → ltC cf (at' l m) (at' l k) = true)
  (e1 : ∀ p, p < i → at' l' p = at' l p) (e2 : at' l' i = at' l m) (e3 : ∀ p, i < p → p ≤ m → at' l' p = at' l (p - 1)) : LexS (ltC cf) tie a (m + 1) l' := by
 intro p q g1 g2 g3
 by_cases c1 : q < i
 ·rw [e1 p (by omega), e1 q c1]; exact hS _ _ g1 g2 (by omega)
 by_cases c2 : q = i
 ·rw [c2, e2, e1 p (by omega)]; exact ⟨h1 p g1 (by omega), fun _ => hT p m g1 (by omega) (Nat.le_refl _) (by omega)⟩
 rw [e3 q (by omega) (by omega)]
 by_cases c3 : p < i
 ·rw [e1 p c3]; exact hS _ _ g1 (by omega) (by omega)
 by_cases c4 : p = i
 ·rw [c4, e2]; exact lex_of_lt hO (h2 _ (by omega) (by omega))
 ·rw [e3 p (by omega) (by omega)]; exact hS _ _ (by omega) (by omega) (by omega)
end
end Go.Eng.S

namespace Go.Eng.S
open Go Go.Eng Go.Proofs
set_option linter.constructorNameAsVariable false
noncomputable section
attribute [local irreducible] bsel callK
variable {s0 s : St} {x : AV} {l : List ET} {cf : ET → ET → Int} {f : AV} {tie : ET → ET → Prop}
structure Halves (cf : ET → ET → Int) (tie : ET → ET → Prop) (a st mid en b : Nat) (l2 : List ET) : Prop where
 s1 : LexS (ltC cf) tie a st l2
 s2 : LexS (ltC cf) tie st mid l2
 s3 : LexS (ltC cf) tie mid en l2
 s4 : LexS (ltC cf) tie en b l2
 t1 : TieS tie a st mid l2
 t2 : TieS tie mid en b l2
 cross : ∀ i j, a ≤ i → i < mid → mid ≤ j → j < b → Lex (ltC cf) tie (at' l2 i) (at' l2 j)
theorem halves_of (hO : LtO (ltC cf)) {a m b st en mid : Nat} {l l2 : List ET} (h1 : a ≤ st ∧ st ≤ m) (h2 : m ≤ en ∧ en ≤ b) (hm : st + en = mid + m) (hS1 : LexS (ltC cf) tie a m l) (hS2 : LexS (ltC cf) tie m b l) (hT : TieS tie a m b l)
  (hi : ∀ i k, a ≤ i → i < st → en ≤ k → k < b → ltC cf (at' l k) (at' l i) = false) (hii : ∀ i k, st ≤ i → i < m → m ≤ k → k < en → ltC cf (at' l k) (at' l i) = true) (hR : RotP st m en l l2) : Halves cf tie a st mid en b l2 := by
 have e1 : ∀ k, k < st → at' l2 k = at' l k := fun k hk => hR.out k (.inl hk)
 have e2 : ∀ k, st ≤ k → k < mid → at' l2 k = at' l (k + (m - st)) := fun k g1 g2 => by
  have := hR.hi (k - st) (by omega)
  rw [show st + (k - st) = k by omega, show m + (k - st) = k + (m - st) by omega] at this
  exact this
 have e3 : ∀ k, mid ≤ k → k < en → at' l2 k = at' l (k - (en - m)) := fun k g1 g2 => by
  have := hR.lo (k - mid) (by omega)
  rw [show st + (en - m) + (k - mid) = k by omega, show st + (k - mid) = k - (en - m) by omega] at this
  exact this
 have e4 : ∀ k, en ≤ k → at' l2 k = at' l k := fun k hk => hR.out k (.inr hk)
 refine ⟨fun p q g1 g2 g3 => ?_, fun p q g1 g2 g3 => ?_, fun p q g1 g2 g3 => ?_, fun p q g1 g2 g3 => ?_, fun p q g1 g2 g3 g4 => ?_, fun p q g1 g2 g3 g4 => ?_, fun p q g1 g2 g3 g4 => ?_⟩
 ·rw [e1 p (by omega), e1 q g3]; exact hS1 p q g1 g2 (by omega)
 ·rw [e2 p g1 (by omega), e2 q (by omega) g3]; exact hS2 _ _ (by omega) (by omega) (by omega)
 ·rw [e3 p g1 (by omega), e3 q (by omega) g3]; exact hS1 _ _ (by omega) (by omega) (by omega)
 ·rw [e4 p g1, e4 q (by omega)]; exact hS2 _ _ (by omega) g2 g3
 ·rw [e1 p g2, e2 q g3 g4]; exact hT _ _ g1 (by omega) (by omega) (by omega)
 ·rw [e3 p g1 g2, e4 q g3]; exact hT _ _ (by omega) (by omega) (by omega) g4
 ·by_cases c1 : p < st
  ·rw [e1 p c1]
   by_cases c2 : q < en
   ·rw [e3 q g3 c2]; exact hS1 _ _ g1 (by omega) (by omega)
   ·rw [e4 q (by omega)]; exact ⟨hi p q g1 c1 (by omega) g4, fun _ => hT p q g1 (by omega) (by omega) g4⟩
  ·rw [e2 p (by omega) g2]
   by_cases c2 : q < en
   ·rw [e3 q g3 c2]; exact lex_of_lt hO (hii _ _ (by omega) (by omega) (by omega) (by omega))
   ·rw [e4 q (by omega)]; exact hS2 _ _ (by omega) (by omega) g4
set_option maxHeartbeats 4000000 in
theorem SymMerge_ok (hO : LtO (ltC cf)) (hC : CmpOk (blkOf x) s0 f cf) : ∀ (N : Nat) {s : St} {l : List ET} (_ : RowT s0 x s l) {a m b : Nat} (_ : a < m) (_ : m < b) (_ : b ≤ l.length) (_ : l.length < 2305843009213693952) (_ : LexS (ltC cf) tie a m l) (_ : LexS (ltC cf) tie m b l) (_ : TieS tie a m b l) (_ : b - a ≤ N),
  CallsD P F.slices_symMergeCmpFunc_api_EdgeTally [x, .int .i64 (a : Int), .int .i64 (m : Int), .int .i64 (b : Int), f] s (SymQ cf tie s0 x l a b) := by
 intro N
 induction N using Nat.strongRecOn with
 | _ N ih =>
  intro s l h a m b h1 h2 hb hsz hS1 hS2 hT hN
  refine vc.slices_symMergeCmpFunc_api_EdgeTally_ok ?_
  unfold vc.slices_symMergeCmpFunc_api_EdgeTally
  rw [wr_sub (a := m) (b := a) (by omega) (by omega), wr_sub (a := b) (b := m) (by omega) (by omega)]
  refine bsel_of (fun c => ?_) fun c => bsel_of (fun c' => ?_) fun c' => ?_
  ·-- one element on the left
   have c : m = a + 1 := by simp at c; omega
   subst c
   refine ⟨fun n3 n4 s5 k => ∃ i j : Nat, n3 = i ∧ n4 = j ∧ k = j - i ∧ a + 1 ≤ i ∧ i ≤ j ∧ j ≤ b ∧ RowT s0 x s5 l ∧ (∀ k, a + 1 ≤ k → k < i → ltC cf (at' l k) (at' l a) = true) ∧ (∀ k, j ≤ k → k < b → ltC cf (at' l k) (at' l a) = false), ⟨_, a + 1, b, rfl, rfl, rfl, Nat.le_refl _, by omega, Nat.le_refl _, h, fun k g1 g2 => by omega, fun k g1 g2 => by omega⟩, ?_⟩
   rintro _ _ s5 m6 ⟨i, j, rfl, rfl, hm6, hi, hij, hj, hR, q1, q2⟩
   refine bsel_of (fun c => ?_) fun c => ?_
   ·have c : i < j := by simpa using c
    have hl : (i + j) / 2 < j ∧ i ≤ (i + j) / 2 := by omega
    rw [half_ok (by omega)]
    generalize (i + j) / 2 = hh at hl
    refine ⟨by decide, fun s7 hB => ?_⟩
    have hR7 := hR.bump hB
    refine rdT hR7 rfl (by omega) (rdT hR7 rfl (by omega) ?_)
    refine hC s7 (at' l hh) (at' l a) _ hR7.frw hR7.fr (hR7.at (by omega)) (hR7.at (by omega)) fun s' hf hfr => ?_
    have hR8 := hR7.ext hf hfr
    refine ⟨_, rfl, bsel_of (fun c1 => ?_) fun c1 => ?_⟩
    ·refine ⟨j - (hh + 1), by omega, hh + 1, j, wr_succ (by omega), rfl, rfl, by omega, by omega, hj, hR8, fun k g1 g2 => ?_, q2⟩
     by_cases e : k = hh
     ·rw [e]; exact c1
     ·exact lt_mid hO c1 (hS2 k hh g1 (by omega) (by omega)).1 (hO.irrefl _)
    ·refine ⟨hh - i, by omega, i, hh, rfl, rfl, rfl, hi, hl.2, by omega, hR8, q1, fun k g1 g2 => ?_⟩
     by_cases e : k = hh
     ·rw [e]; exact c1
     ·exact hO.ntrans _ _ _ c1 (hS2 hh k (by omega) (by omega) g2).1
   ·have c : i = j := by simp at c; omega
    subst c
    rw [wr_pred (a := i) (by omega) (by omega)]
    refine ⟨fun n37 s38 n => ∃ (k : Nat) (l1 : List ET), n37 = k ∧ n = i - k ∧ a ≤ k ∧ k + 1 ≤ i ∧ RowT s0 x s38 l1 ∧ RP a b l l1 ∧ (∀ p, a ≤ p → p < k → at' l1 p = at' l (p + 1)) ∧ at' l1 k = at' l a ∧ ∀ p, (p < a ∨ k < p) → at' l1 p = at' l p, ⟨_, a, l, rfl, rfl, Nat.le_refl _, by omega, hR, .refl _ _ _, fun p g1 g2 => by omega, rfl, fun p _ => rfl⟩, ?_⟩
    rintro _ s38 m39 ⟨k, l1, rfl, hm39, hk1, hk2, hR1, hP1, e1, e2, e3⟩
    have hl1 := hP1.len
    refine bsel_of (fun c => ?_) fun c => ?_
    ·have c : k < i - 1 := by simp only [decide_eq_true_eq] at c; omega
     intro s40 hB
     refine swT (hR1.bump hB) (wr_succ (by omega)) rfl (by omega) (by omega) fun s68 hR2 => ⟨i - (k + 1), by omega, k + 1, _, wr_succ (by omega), rfl, by omega, by omega, hR2, hP1.trans (.sw (by omega) (by omega) (by omega) (by omega)), fun p g1 g2 => ?_, ?_, fun p g1 => ?_⟩
     ·rw [at_sw (by omega) (by omega), if_neg (by omega)]
      by_cases e : p = k
      ·rw [if_pos e, e, e3 (k + 1) (.inr (by omega))]
      ·rw [if_neg e]; exact e1 p g1 (by omega)
     ·rw [at_sw (by omega) (by omega), if_pos rfl, e2]
     ·rw [at_sw (by omega) (by omega), if_neg (by omega), if_neg (by omega)]; exact e3 p (by omega)
    ·have c : k = i - 1 := by simp only [decide_eq_false_iff_not] at c; omega
     exact ⟨rfl, l1, hR1, hP1, one_left hO hi hj hS2 hT q1 q2 (fun p g1 g2 => e1 p g1 (by omega)) (by rw [← c]; exact e2) fun p g1 => e3 p (.inr (by omega))⟩
  ·-- one element on the right
   have c' : b = m + 1 := by simp at c'; omega
   subst c'
   refine ⟨fun n3 n4 s5 k => ∃ i j : Nat, n3 = i ∧ n4 = j ∧ k = j - i ∧ a ≤ i ∧ i ≤ j ∧ j ≤ m ∧ RowT s0 x s5 l ∧ (∀ k, a ≤ k → k < i → ltC cf (at' l m) (at' l k) = false) ∧ (∀ k, j ≤ k → k < m → ltC cf (at' l m) (at' l k) = true), ⟨_, a, m, rfl, rfl, rfl, Nat.le_refl _, by omega, Nat.le_refl _, h, fun k g1 g2 => by omega, fun k g1 g2 => by omega⟩, ?_⟩
   rintro _ _ s5 m6 ⟨i, j, rfl, rfl, hm6, hi, hij, hj, hR, q1, q2⟩
   refine bsel_of (fun c => ?_) fun c => ?_
   ·have c : i < j := by simpa using c
    have hl : (i + j) / 2 < j ∧ i ≤ (i + j) / 2 := by omega
    rw [half_ok (by omega)]
    generalize (i + j) / 2 = hh at hl
    refine ⟨by decide, fun s7 hB => ?_⟩
    have hR7 := hR.bump hB
    refine rdT hR7 rfl (by omega) (rdT hR7 rfl (by omega) ?_)
    refine hC s7 (at' l m) (at' l hh) _ hR7.frw hR7.fr (hR7.at (by omega)) (hR7.at (by omega)) fun s' hf hfr => ?_
    have hR8 := hR7.ext hf hfr
    refine ⟨_, rfl, bsel_of (fun c1 => ?_) fun c1 => ?_⟩
    ·have c1 : ltC cf (at' l m) (at' l hh) = false := by simpa [ltC] using c1
     refine ⟨j - (hh + 1), by omega, hh + 1, j, wr_succ (by omega), rfl, rfl, by omega, by omega, hj, hR8, fun k g1 g2 => ?_, q2⟩
     by_cases e : k = hh
     ·rw [e]; exact c1
     ·exact hO.ntrans _ _ _ (hS1 k hh g1 (by omega) (by omega)).1 c1
    ·have c1 : ltC cf (at' l m) (at' l hh) = true := by simpa [ltC] using c1
     refine ⟨hh - i, by omega, i, hh, rfl, rfl, rfl, hi, hl.2, by omega, hR8, q1, fun k g1 g2 => ?_⟩
     by_cases e : k = hh
     ·rw [e]; exact c1
     ·exact lt_mid hO c1 (hO.irrefl _) (hS1 hh k (by omega) (by omega) g2).1
   ·have c : i = j := by simp at c; omega
    subst c
    refine ⟨fun n37 s38 n => ∃ (k : Nat) (l1 : List ET), n37 = k ∧ n = k ∧ i ≤ k ∧ k ≤ m ∧ RowT s0 x s38 l1 ∧ RP a (m + 1) l l1 ∧ (∀ p, k < p → p ≤ m → at' l1 p = at' l (p - 1)) ∧ at' l1 k = at' l m ∧ ∀ p, (p < k ∨ m < p) → at' l1 p = at' l p, ⟨_, m, l, rfl, rfl, hj, Nat.le_refl _, hR, .refl _ _ _, fun p g1 g2 => by omega, rfl, fun p _ => rfl⟩, ?_⟩
    rintro _ s38 m39 ⟨k, l1, rfl, hm39, hk1, hk2, hR1, hP1, e1, e2, e3⟩
    have hl1 := hP1.len
    refine bsel_of (fun c => ?_) fun c => ?_
    ·have c : i < k := by simp only [decide_eq_true_eq] at c; omega
     intro s40 hB
     refine swT (hR1.bump hB) (wr_pred (by omega) (by omega)) rfl (by omega) (by omega) fun s68 hR2 => ⟨k - 1, by omega, k - 1, _, wr_pred (by omega) (by omega), rfl, by omega, by omega, hR2, hP1.trans (.sw (by omega) (by omega) (by omega) (by omega)), fun p g1 g2 => ?_, ?_, fun p g1 => ?_⟩
     ·rw [at_sw (by omega) (by omega), if_neg (by omega)]
      by_cases e : p = k
      ·rw [if_pos e, e, e3 (k - 1) (.inl (by omega))]
      ·rw [if_neg e]; exact e1 p (by omega) g2
     ·rw [at_sw (by omega) (by omega), if_pos rfl, e2]
     ·rw [at_sw (by omega) (by omega), if_neg (by omega), if_neg (by omega)]; exact e3 p (by omega)
    ·have c : k = i := by simp only [decide_eq_false_iff_not] at c; omega
     subst c
     exact ⟨rfl, l1, hR1, hP1, one_right hO hi hj hS1 hT q1 q2 (fun p g1 => e3 p (.inl g1)) e2 e1⟩
  ·-- both halves
   have c : m ≠ a + 1 := by simp at c; omega
   have c' : b ≠ m + 1 := by simp at c'; omega
   rw [half_ok (by omega)]
   obtain ⟨mid, hmid, hmid2⟩ : ∃ mid, mid = (a + b) / 2 ∧ (2 * mid ≤ a + b ∧ a + b ≤ 2 * mid + 1) := ⟨_, rfl, by omega⟩
   rw [← hmid]
   clear hmid
   rw [wr_add (a := mid) (b := m) (by omega)]
   refine ⟨by decide, fun n n' s144 _ => ∃ st r : Nat, n = st ∧ n' = r ∧ a ≤ st ∧ st ≤ r ∧ s144 = s ∧ r ≤ m ∧ r ≤ mid ∧ mid + m ≤ st + b ∧ (st = a ∨ st + b = mid + m) ∧ (r = m ∨ r = mid ∧ mid < m) , ?_, ?_⟩
   ·refine bsel_of (fun c1 => ?_) fun c1 => ?_
    ·have c1 : mid < m := by simpa using c1
     exact ⟨0, mid + m - b, mid, wr_sub (by omega) (by omega), rfl, by omega, by omega, rfl, by omega, Nat.le_refl _, by omega, .inr (by omega), .inr ⟨rfl, c1⟩⟩
    ·have c1 : ¬ mid < m := by simpa using c1
     exact ⟨0, a, m, rfl, rfl, Nat.le_refl _, by omega, rfl, Nat.le_refl _, by omega, by omega, .inl rfl, .inl rfl⟩
   rintro _ _ s144 _ ⟨st0, r0, rfl, rfl, k1, k2, e144, k3, k4, k5, k6, k7⟩
   rw [e144]
   refine ⟨fun n n' s150 k => ∃ st r : Nat, n = st ∧ n' = r ∧ k = r - st ∧ st0 ≤ st ∧ st ≤ r ∧ r ≤ r0 ∧ RowT s0 x s150 l ∧ (∀ c, st0 ≤ c → c < st → ltC cf (at' l (mid + m - 1 - c)) (at' l c) = false) ∧ (∀ c, r ≤ c → c < r0 → ltC cf (at' l (mid + m - 1 - c)) (at' l c) = true), ⟨_, st0, r0, rfl, rfl, rfl, Nat.le_refl _, k2, Nat.le_refl _, h, fun c g1 g2 => by omega, fun c g1 g2 => by omega⟩, ?_⟩
   rintro _ _ s150 m151 ⟨st, r, rfl, rfl, hm151, p1, p2, p3, hR, q1, q2⟩
   refine bsel_of (fun c1 => ?_) fun c1 => ?_
   ·have c1 : st < r := by simpa using c1
    have hl : (st + r) / 2 < r ∧ st ≤ (st + r) / 2 := by omega
    rw [half_ok (by omega)]
    generalize (st + r) / 2 = hh at hl
    rw [wr_pred (a := mid + m) (by omega) (by omega), wr_sub (a := mid + m - 1) (b := hh) (by omega) (by omega)]
    refine ⟨by decide, fun s152 hB => ?_⟩
    have hR7 := hR.bump hB
    refine rdT hR7 rfl (by omega) (rdT hR7 rfl (by omega) ?_)
    refine hC s152 (at' l (mid + m - 1 - hh)) (at' l hh) _ hR7.frw hR7.fr (hR7.at (by omega)) (hR7.at (by omega)) fun s' hf hfr => ?_
    have hR8 := hR7.ext hf hfr
    have mono1 : ∀ c d, a ≤ c → c < d → d < m → ltC cf (at' l d) (at' l c) = false := fun c d g1 g2 g3 => (hS1 c d g1 g2 g3).1
    have mono2 : ∀ c d, st0 ≤ c → c < d → d < r0 → ltC cf (at' l (mid + m - 1 - c)) (at' l (mid + m - 1 - d)) = false := fun c d g1 g2 g3 => (hS2 _ _ (by omega) (by omega) (by omega)).1
    refine ⟨_, rfl, bsel_of (fun c2 => ?_) fun c2 => ?_⟩
    ·have c2 : ltC cf (at' l (mid + m - 1 - hh)) (at' l hh) = false := by simpa [ltC] using c2
     refine ⟨r - (hh + 1), by omega, hh + 1, r, wr_succ (by omega), rfl, rfl, by omega, by omega, p3, hR8, fun k g1 g2 => ?_, q2⟩
     by_cases e : k = hh
     ·rw [e]; exact c2
     ·exact hO.ntrans _ _ _ (mono1 k hh (by omega) (by omega) (by omega)) (hO.ntrans _ _ _ c2 (mono2 k hh g1 (by omega) (by omega)))
    ·have c2 : ltC cf (at' l (mid + m - 1 - hh)) (at' l hh) = true := by simpa [ltC] using c2
     refine ⟨hh - st, by omega, st, hh, rfl, rfl, rfl, p1, hl.2, by omega, hR8, q1, fun k g1 g2 => ?_⟩
     by_cases e : k = hh
     ·rw [e]; exact c2
     ·exact lt_mid hO c2 (mono2 hh k (by omega) (by omega) g2) (mono1 hh k (by omega) (by omega) (by omega))
   have c1 : st = r := by simp at c1; omega
   subst c1
   rw [wr_sub (a := mid + m) (b := st) (by omega) (by omega)]
   obtain ⟨en, hen⟩ : ∃ en, en = mid + m - st := ⟨_, rfl⟩
   rw [← hen]
   have hi : ∀ i k, a ≤ i → i < st → en ≤ k → k < b → ltC cf (at' l k) (at' l i) = false := fun i k g1 g2 g3 g4 => by
    have hlt : st0 < st := by omega
    have h5 := q1 (st - 1) (by omega) (by omega)
    rw [show mid + m - 1 - (st - 1) = en by omega] at h5
    have h6 : ltC cf (at' l en) (at' l i) = false := by
     by_cases e : i = st - 1
     ·rw [e]; exact h5
     ·exact hO.ntrans _ _ _ (hS1 i (st - 1) g1 (by omega) (by omega)).1 h5
    by_cases e : k = en
    ·rw [e]; exact h6
    ·exact hO.ntrans _ _ _ h6 (hS2 en k (by omega) (by omega) g4).1
   have hii : ∀ i k, st ≤ i → i < m → m ≤ k → k < en → ltC cf (at' l k) (at' l i) = true := fun i k g1 g2 g3 g4 => by
    have hlt : st < r0 := by omega
    have h5 := q2 st (Nat.le_refl _) hlt
    rw [show mid + m - 1 - st = en - 1 by omega] at h5
    refine lt_mid hO h5 ?_ ?_
    ·by_cases e : k = en - 1
     ·rw [e]; exact hO.irrefl _
     ·exact (hS2 k (en - 1) g3 (by omega) (by omega)).1
    ·by_cases e : i = st
     ·rw [e]; exact hO.irrefl _
     ·exact (hS1 st i (by omega) (by omega) g2).1
   refine ⟨fun s191 _ => ∃ l2, RowT s0 x s191 l2 ∧ RP a b l l2 ∧ RotP st m en l l2, ?_, ?_⟩
   ·refine ⟨fun c s185 _ => c = (decide (st < m) && decide (m < en)) ∧ s185 = s150, ?_, ?_⟩
    ·refine bsel_of (fun c2 => ?_) fun c2 => ?_
     ·have c2 : st < m := by simpa using c2
      exact ⟨0, by simp [c2], rfl⟩
     ·have c2 : ¬ st < m := by simpa using c2
      exact ⟨0, by simp [c2], rfl⟩
    rintro _ _ _ ⟨rfl, rfl⟩
    refine bsel_of (fun c2 => ?_) fun c2 => ?_
    ·simp only [Bool.and_eq_true, decide_eq_true_eq] at c2
     refine (Rotate_ok hR c2.1 c2.2 (by omega) hsz).mono ?_
     rintro _ s188 ⟨rfl, l2, z1, z2, z3⟩
     exact ⟨rfl, 0, l2, z1, z2.mono (by omega) (by omega), z3⟩
    ·simp only [Bool.and_eq_false_iff, decide_eq_false_iff_not] at c2
     refine ⟨0, l, hR, .refl _ _ _, rfl, fun k hk => ?_, fun k hk => ?_, fun _ _ => rfl⟩
     ·congr 1; omega
     ·congr 1; omega
   clear hR q1 q2
   rintro s191 _ ⟨l2, hR2, hP2, hRot⟩
   have hl2 := hP2.len
   have hH := halves_of (mid := mid) hO ⟨by omega, by omega⟩ ⟨by omega, by omega⟩ (by omega) hS1 hS2 hT hi hii hRot
   clear hi hii hRot
   have fin : ∀ {s : St} {l3 : List ET}, RowT s0 x s l3 → RP a mid l2 l3 → LexS (ltC cf) tie a mid l3 → ∀ {s' : St} {l4 : List ET}, RowT s0 x s' l4 → RP mid b l3 l4 → LexS (ltC cf) tie mid b l4 → SymQ cf tie s0 x l a b (.tuple []) s' := by
    intro s l3 z1 z2 z3 s' l4 w1 w2 w3
    exact ⟨rfl, l4, w1, hP2.trans ((z2.mono (Nat.le_refl _) (by omega)).trans (w2.mono (by omega) (Nat.le_refl _))), (z3.of_out w2 (.inl (Nat.le_refl _))).join w3 (cross_rp hH.cross z2 w2 (by omega) (by omega))⟩
   have second : ∀ {s : St} {l3 : List ET}, RowT s0 x s l3 → RP a mid l2 l3 → LexS (ltC cf) tie a mid l3 →
     (mid < en → en < b → CallsD P F.slices_symMergeCmpFunc_api_EdgeTally [x, .int .i64 (mid : Int), .int .i64 (en : Int), .int .i64 (b : Int), f] s fun v s' => v = .tuple [] ∧ SymQ cf tie s0 x l a b (.tuple []) s') ∧ (¬ (mid < en ∧ en < b) → SymQ cf tie s0 x l a b (.tuple []) s) := by
    intro s l3 z1 z2 z3
    have hl3 := z2.len
    have s3 := hH.s3.of_out z2 (.inr (Nat.le_refl _))
    have s4 := hH.s4.of_out z2 (.inr (by omega))
    have t2 : TieS tie mid en b l3 := fun i j g1 g2 g3 g4 => by
     rw [z2.out i (.inr (by omega)), z2.out j (.inr (by omega))]; exact hH.t2 i j g1 g2 g3 g4
    refine ⟨fun g1 g2 => ?_, fun g => ?_⟩
    ·refine (ih (b - mid) (by omega) z1 g1 g2 (by omega) (by omega) s3 s4 t2 (Nat.le_refl _)).mono ?_
     rintro _ s' ⟨rfl, l4, w1, w2, w3⟩
     exact ⟨rfl, fin z1 z2 z3 w1 w2 w3⟩
    ·refine fin z1 z2 z3 z1 (.refl _ _ _) ?_
     by_cases e : mid < en
     ·have : en = b := by omega
      rw [this] at s3; exact s3
     ·have : en = mid := by omega
      rw [this] at s4; exact s4
   refine ⟨fun c s197 _ => c = (decide (a < st) && decide (st < mid)) ∧ s197 = s191, ?_, ?_⟩
   ·refine bsel_of (fun c2 => ?_) fun c2 => ?_
    ·have c2 : a < st := by simpa using c2
     exact ⟨0, by simp [c2], rfl⟩
    ·have c2 : ¬ a < st := by simpa using c2
     exact ⟨0, by simp [c2], rfl⟩
   rintro _ s197 _ ⟨rfl, e197⟩
   rw [e197]
   refine bsel_of (fun c2 => ?_) fun c2 => ?_
   ·simp only [Bool.and_eq_true, decide_eq_true_eq] at c2
    refine (ih (mid - a) (by omega) hR2 c2.1 c2.2 (by omega) (by omega) hH.s1 hH.s2 hH.t1 (Nat.le_refl _)).mono ?_
    rintro _ s200 ⟨rfl, l3, z1, z2, z3⟩
    obtain ⟨y1, y2⟩ := second z1 z2 z3
    refine ⟨rfl, fun c s205 _ => c = (decide (mid < en) && decide (en < b)) ∧ s205 = s200, ?_, ?_⟩
    ·refine bsel_of (fun c3 => ?_) fun c3 => ?_
     ·have c3 : mid < en := by simpa using c3
      exact ⟨0, by simp [c3], rfl⟩
     ·have c3 : ¬ mid < en := by simpa using c3
      exact ⟨0, by simp [c3], rfl⟩
    rintro _ _ _ ⟨rfl, rfl⟩
    refine bsel_of (fun c3 => ?_) fun c3 => y2 fun hc => by simp [hc.1, hc.2] at c3
    simp only [Bool.and_eq_true, decide_eq_true_eq] at c3
    exact y1 c3.1 c3.2
   ·have hS : LexS (ltC cf) tie a mid l2 := by
     simp only [Bool.and_eq_false_iff, decide_eq_false_iff_not] at c2
     by_cases e : a < st
     ·have : st = mid := by omega
      rw [← this]; exact hH.s1
     ·have : st = a := by omega
      have := hH.s2
      rw [show st = a by omega] at this; exact this
    obtain ⟨y1, y2⟩ := second hR2 (.refl _ _ _) hS
    refine ⟨fun c s213 _ => c = (decide (mid < en) && decide (en < b)) ∧ s213 = s191, ?_, ?_⟩
    ·refine bsel_of (fun c3 => ?_) fun c3 => ?_
     ·have c3 : mid < en := by simpa using c3
      exact ⟨0, by simp [c3], rfl⟩
     ·have c3 : ¬ mid < en := by simpa using c3
      exact ⟨0, by simp [c3], rfl⟩
    rintro _ _ _ ⟨rfl, rfl⟩
    refine bsel_of (fun c3 => ?_) fun c3 => y2 fun hc => by simp [hc.1, hc.2] at c3
    simp only [Bool.and_eq_true, decide_eq_true_eq] at c3
    exact y1 c3.1 c3.2
end
end Go.Eng.S

namespace Go.Eng.S
open Go Go.Eng Go.Proofs
set_option linter.constructorNameAsVariable false
noncomputable section
attribute [local irreducible] bsel callK
variable {s0 s : St} {x : AV} {l : List ET} {cf : ET → ET → Int} {f : AV} {tie : ET → ET → Prop}
theorem dvd_gap {d a c : Nat} (ha : d ∣ a) (hc : d ∣ c) : c ≤ a ∨ a + d ≤ c := by
 obtain ⟨i, rfl⟩ := ha
 obtain ⟨j, rfl⟩ := hc
 by_cases h : j ≤ i
 ·exact .inl (Nat.mul_le_mul_left d h)
 ·right
  have := Nat.mul_le_mul_left d (show i + 1 ≤ j by omega)
  rw [Nat.mul_add, Nat.mul_one] at this
  exact this
structure Blk (cf : ET → ET → Int) (tie : ET → ET → Prop) (B n : Nat) (l : List ET) : Prop where
 lex : ∀ c, B ∣ c → LexS (ltC cf) tie c (min (c + B) n) l
 ties : ∀ c, B ∣ c → TieS tie 0 c n l
set_option maxHeartbeats 2000000 in
theorem Stable_ok (hO : LtO (ltC cf)) (hC : CmpOk (blkOf x) s0 f cf) (h : RowT s0 x s l) (hsz : l.length < 1152921504606846976) (hT : ∀ i j, i < j → j < l.length → tie (at' l i) (at' l j)) :
  CallsD P F.slices_stableCmpFunc_api_EdgeTally [x, .int .i64 ((l.length : Nat) : Int), f] s (SymQ cf tie s0 x l 0 l.length) := by
 obtain ⟨n, hn⟩ : ∃ n, n = l.length := ⟨_, rfl⟩
 rw [← hn] at hsz hT ⊢
 refine vc.slices_stableCmpFunc_api_EdgeTally_ok ⟨fun n3 n4 s5 m => ∃ (a : Nat) (l1 : List ET), n3 = a ∧ n4 = ((a + 20 : Nat) : Int) ∧ m = n + 20 - a ∧ a ≤ n ∧ 20 ∣ a ∧ RowT s0 x s5 l1 ∧ RP 0 a l l1 ∧ (∀ c, 20 ∣ c → c + 20 ≤ a → LexS (ltC cf) tie c (c + 20) l1) ∧ (∀ c, 20 ∣ c → TieS tie 0 c n l1), ⟨_, 0, l, rfl, rfl, rfl, by omega, ⟨0, rfl⟩, h, .refl _ _ _, fun c _ hc => by omega, fun c _ i j g1 g2 g3 g4 => hT i j (by omega) g4⟩, ?_⟩
 rintro _ _ s5 m6 ⟨a, l1, rfl, rfl, hm6, ha, hd, hR, hP, hL, hTi⟩
 have hl1 := hP.len
 have htie : ∀ {b : Nat}, b ≤ n → ∀ i j, a ≤ i → i < j → j < b → tie (at' l1 i) (at' l1 j) := fun hb i j g1 g2 g3 => by
  rw [hP.out i (.inr g1), hP.out j (.inr (by omega))]; exact hT i j g2 (by omega)
 refine bsel_of (fun c => ?_) fun c => ?_
 ·have c : a + 20 ≤ n := by simp only [decide_eq_true_eq] at c; omega
  refine (InsertionC_ok hO hC hR (a := a) (b := a + 20) (by omega) (by omega) (by omega) (htie c)).mono ?_
  rintro _ s8 ⟨rfl, l2, q1, q2, q3⟩
  refine ⟨rfl, n + 20 - (a + 20), by omega, a + 20, l2, rfl, wr_add (a := a + 20) (b := 20) (by omega), rfl, c, Nat.dvd_add hd ⟨1, rfl⟩, q1, (hP.mono (Nat.le_refl _) (by omega)).trans (q2.mono (by omega) (Nat.le_refl _)), fun k hk g => ?_, fun k hk => ?_⟩
  ·rcases dvd_gap hk hd with h1 | h1
   ·have : k = a := by omega
    rw [this]; exact q3
   ·exact (hL k hk h1).of_out q2 (.inl h1)
  ·rcases dvd_gap hd hk with h1 | h1
   ·exact (hTi k hk).rp q2 (by omega) (.inr ⟨h1, c⟩)
   ·exact (hTi k hk).rp q2 (by omega) (.inl ⟨by omega, h1⟩)
 have c : n < a + 20 := by simp only [decide_eq_false_iff_not] at c; omega
 refine (InsertionC_ok hO hC hR (a := a) (b := n) ha (by omega) (by omega) (htie (Nat.le_refl _))).mono ?_
 rintro _ s11 ⟨rfl, l2, q1, q2, q3⟩
 have hP2 : RP 0 n l l2 := (hP.mono (Nat.le_refl _) ha).trans (q2.mono (by omega) (Nat.le_refl _))
 have hB : Blk cf tie 20 n l2 := ⟨fun k hk => by
  rcases dvd_gap hk hd with h1 | h1
  ·by_cases e : k = a
   ·rw [e, Nat.min_eq_right (by omega)]; exact q3
   ·refine .small ?_
    have := Nat.min_le_right (k + 20) n
    omega
  ·rw [Nat.min_eq_left (by omega)]; exact (hL k hk h1).of_out q2 (.inl h1), fun k hk => by
  rcases dvd_gap hd hk with h1 | h1
  ·exact (hTi k hk).rp q2 (by omega) (.inr ⟨h1, Nat.le_refl _⟩)
  ·intro i j g1 g2 g3 g4; omega⟩
 clear hL hTi htie hR hP hl1 q2 q3 c hd ha
 refine ⟨rfl, fun n14 s15 m => ∃ (B : Nat) (l1 : List ET), n14 = B ∧ m = n - B ∧ 20 ≤ B ∧ RowT s0 x s15 l1 ∧ RP 0 n l l1 ∧ Blk cf tie B n l1 ∧ B < 4611686018427387904, ⟨_, 20, l2, rfl, rfl, Nat.le_refl _, q1, hP2, hB, by omega⟩, ?_⟩
 clear hB hP2 q1 l2
 rintro _ s15 m16 ⟨B, l1, rfl, hm16, hB20, hR, hP, hB, hBs⟩
 have hl1 := hP.len
 refine bsel_of (fun c => ?_) fun c => ?_
 ·have c : B < n := by simpa using c
  have hBB : IntKind.wrap .i64 (2 * (B : Int)) = ((2 * B : Nat) : Int) := wr_dbl (by omega)
  have hB2 : IntKind.wrap .i64 ((B : Int) * 2) = ((2 * B : Nat) : Int) := by rw [Int.mul_comm]; exact hBB
  have hdB : ∀ {c : Nat}, 2 * B ∣ c → B ∣ c := fun h => Nat.dvd_trans ⟨2, Nat.mul_comm ..⟩ h
  rw [hBB, hB2]
  refine ⟨fun n19 n20 s21 m => ∃ (a : Nat) (l2 : List ET), n19 = a ∧ n20 = ((a + 2 * B : Nat) : Int) ∧ m = n + 2 * B - a ∧ a ≤ n ∧ 2 * B ∣ a ∧ RowT s0 x s21 l2 ∧ RP 0 n l l2 ∧ (∀ c, 2 * B ∣ c → c + 2 * B ≤ a → LexS (ltC cf) tie c (c + 2 * B) l2) ∧ (∀ c, B ∣ c → a ≤ c → LexS (ltC cf) tie c (min (c + B) n) l2) ∧ (∀ c, 2 * B ∣ c → TieS tie 0 c n l2) ∧ (∀ c, B ∣ c → a ≤ c → TieS tie 0 c n l2), ⟨_, 0, l1, rfl, by rw [Nat.zero_add], rfl, by omega, ⟨0, rfl⟩, hR, hP, fun c _ hc => by omega, fun c hc _ => hB.lex c hc, fun c hc => hB.ties c (hdB hc), fun c hc _ => hB.ties c hc⟩, ?_⟩
  rintro _ _ s21 m22 ⟨a, l2, rfl, rfl, hm22, ha, hd, hR2, hP2, hL2, hL1, hT2, hT1⟩
  have hl2 := hP2.len
  have hda : B ∣ a := hdB hd
  have hdab : B ∣ a + B := Nat.dvd_add hda (Nat.dvd_refl _)
  have s1 := hL1 a hda (Nat.le_refl _)
  have s2 := hL1 (a + B) hdab (by omega)
  have t1 := hT1 (a + B) hdab (by omega)
  rw [wr_add (a := a) (b := B) (by omega)]
  refine bsel_of (fun c1 => ?_) fun c1 => ?_
  ·have c1 : a + 2 * B ≤ n := by simp only [decide_eq_true_eq] at c1; omega
   rw [Nat.min_eq_left (by omega)] at s1 s2
   refine (SymMerge_ok hO hC (a + 2 * B - a) hR2 (a := a) (m := a + B) (b := a + 2 * B) (by omega) (by omega) (by omega) (by omega) s1 (s2.less (Nat.le_refl _) (by omega)) (fun i j g1 g2 g3 g4 => t1 i j (by omega) g2 g3 (by omega)) (Nat.le_refl _)).mono ?_
   rintro _ s24 ⟨rfl, l3, q1, q2, q3⟩
   refine ⟨rfl, n + 2 * B - (a + 2 * B), by omega, a + 2 * B, l3, rfl, wr_add (a := a + 2 * B) (b := 2 * B) (by omega), rfl, c1, Nat.dvd_add hd (Nat.dvd_refl _), q1, hP2.trans (q2.mono (by omega) c1), fun k hk g => ?_, fun k hk g => (hL1 k hk (by omega)).of_out q2 (.inr g), fun k hk => ?_, fun k hk g => (hT1 k hk (by omega)).rp q2 (by omega) (.inl ⟨by omega, g⟩)⟩
   ·rcases dvd_gap hk hd with h1 | h1
    ·have : k = a := by omega
     rw [this]; exact q3
    ·exact (hL2 k hk h1).of_out q2 (.inl h1)
   ·rcases dvd_gap hd hk with h1 | h1
    ·exact (hT2 k hk).rp q2 (by omega) (.inr ⟨h1, c1⟩)
    ·exact (hT2 k hk).rp q2 (by omega) (.inl ⟨by omega, h1⟩)
  ·have c1 : n < a + 2 * B := by simp only [decide_eq_false_iff_not] at c1; omega
   have fin : ∀ {s : St} {l3 : List ET}, RowT s0 x s l3 → RP a n l2 l3 → LexS (ltC cf) tie a n l3 → ∃ m, m < m16 ∧ ∃ (B' : Nat) (l1 : List ET), ((2 * B : Nat) : Int) = B' ∧ m = n - B' ∧ 20 ≤ B' ∧ RowT s0 x s l1 ∧ RP 0 n l l1 ∧ Blk cf tie B' n l1 ∧ B' < 4611686018427387904 := by
    intro s l3 q1 q2 q3
    refine ⟨n - 2 * B, by omega, 2 * B, l3, rfl, rfl, by omega, q1, hP2.trans (q2.mono (by omega) (Nat.le_refl _)), ⟨fun k hk => ?_, fun k hk => ?_⟩, by omega⟩
    ·rcases dvd_gap hk hd with h1 | h1
     ·by_cases e : k = a
      ·rw [e, Nat.min_eq_right (by omega)]; exact q3
      ·rcases dvd_gap hd hk with h2 | h2
       ·omega
       ·refine .small ?_
        have := Nat.min_le_right (k + 2 * B) n
        omega
     ·rw [Nat.min_eq_left (by omega)]; exact (hL2 k hk h1).of_out q2 (.inl h1)
    ·rcases dvd_gap hd hk with h1 | h1
     ·exact (hT2 k hk).rp q2 (by omega) (.inr ⟨h1, Nat.le_refl _⟩)
     ·intro i j g1 g2 g3 g4; omega
   refine bsel_of (fun c2 => ?_) fun c2 => ?_
   ·have c2 : a + B < n := by simp only [decide_eq_true_eq] at c2; omega
    rw [Nat.min_eq_left (by omega)] at s1
    rw [Nat.min_eq_right (by omega)] at s2
    refine (SymMerge_ok hO hC (n - a) hR2 (a := a) (m := a + B) (b := n) (by omega) c2 (by omega) (by omega) s1 s2 (fun i j g1 g2 g3 g4 => t1 i j (by omega) g2 g3 g4) (Nat.le_refl _)).mono ?_
    rintro _ s27 ⟨rfl, l3, q1, q2, q3⟩
    exact ⟨rfl, fin q1 q2 q3⟩
   ·have c2 : n ≤ a + B := by simp only [decide_eq_false_iff_not] at c2; omega
    rw [Nat.min_eq_right (by omega)] at s1
    exact fin hR2 (.refl _ _ _) s1
 ·have c : n ≤ B := by simp only [decide_eq_false_iff_not] at c; omega
  have := hB.lex 0 ⟨0, rfl⟩
  rw [Nat.zero_add, Nat.min_eq_right c] at this
  exact ⟨rfl, l1, hR, hP, this⟩
theorem SortStable_ok (hO : LtO (ltC cf)) (hx : So etE s x l) (hok : ∀ y, y ∈ l → okT y) (hfr : Fr s) (hC : CmpOk (blkOf x) s f cf) (hT : l.Pairwise tie) (hsz : l.length < 1152921504606846976) :
  CallsD P F.slices_SortStableFunc_sl_api_EdgeTally_api_EdgeTally [x, f] s fun v s' => v = .tuple [] ∧ ∃ l', l'.Perm l ∧ l'.Pairwise (Lex (ltC cf) tie) ∧ So etE s' x l' ∧ Frw (blkOf x) s s' ∧ Fr s' := by
 refine vc.slices_SortStableFunc_sl_api_EdgeTally_api_EdgeTally_ok (hx.sl.slen ?_)
 refine (Stable_ok (tie := tie) hO hC ⟨hx, .refl _ _, hfr, hok⟩ hsz fun i j g1 g2 => ?_).mono ?_
 ·rw [← at_eq (by omega), ← at_eq g2]
  exact List.pairwise_iff_getElem.1 hT i j (by omega) g2 g1
 ·rintro _ s3 ⟨rfl, l', q1, q2, q3⟩
  refine ⟨rfl, rfl, l', q2.perm, ?_, q1.so, q1.frw, q1.fr⟩
  rw [List.pairwise_iff_getElem]
  intro i j hi hj hij
  have hl := q2.len
  rw [at_eq hi, at_eq hj]
  exact q3 i j (Nat.zero_le _) hij (by omega)
end
end Go.Eng.S

namespace Go.Eng.S
open Go Go.Eng Go.Proofs
set_option linter.constructorNameAsVariable false
noncomputable section
attribute [local irreducible] bsel callK
def numT (t : Tal) (k : Int) : Int × Int := if k = 1 then t.b else if k = 2 then t.c else t.a
def cmpI (a b : Int) : Int := if a < b then -1 else if a > b then 1 else 0
def natC (p q : Int × Int) : Int := if cmpI p.1 q.1 ≠ 0 then cmpI p.1 q.1 else cmpI p.2 q.2
def cmpTop (k : Int) (y z : ET) : Int := natC (numT z.2.1 k) (numT y.2.1 k)
theorem natC_lt (p q : Int × Int) : natC p q < 0 ↔ p.1 < q.1 ∨ (p.1 = q.1 ∧ p.2 < q.2) := by
 unfold natC cmpI
 split <;> split <;> (try split) <;> (try split) <;> omega
theorem ltTop (k : Int) (y z : ET) : ltC (cmpTop k) y z = true ↔ ((numT z.2.1 k).1 < (numT y.2.1 k).1 ∨ ((numT z.2.1 k).1 = (numT y.2.1 k).1 ∧ (numT z.2.1 k).2 < (numT y.2.1 k).2)) := by
 unfold ltC cmpTop
 rw [decide_eq_true_iff, natC_lt]
theorem ltTop_f (k : Int) (y z : ET) : ltC (cmpTop k) y z = false ↔ ¬ ((numT z.2.1 k).1 < (numT y.2.1 k).1 ∨ ((numT z.2.1 k).1 = (numT y.2.1 k).1 ∧ (numT z.2.1 k).2 < (numT y.2.1 k).2)) := by
 rw [← ltTop]; simp
theorem ltTop_o (k : Int) : LtO (ltC (cmpTop k)) where
 irrefl := fun x => by rw [ltTop_f]; omega
 asym := fun x y h => by rw [ltTop] at h; rw [ltTop_f]; omega
 ntrans := fun x y z h h' => by rw [ltTop_f] at *; omega
theorem isNaNU_ok (a : Int) (s : St) : CallsD P F.cmp_isNaN_uint64 [.int .u64 a] s fun v s' => v = .bool false ∧ s' = s := by
 refine CallsD.pure (fun s => (vc.cmp_isNaN_uint64_ok ?_).a) rfl s
 show AV.bool (a != a) = .bool false
 simp
theorem CompareU_ok (a b : Int) (s : St) : CallsD P F.cmp_Compare_uint64 [.int .u64 a, .int .u64 b] s fun v s' => v = .int .i64 (cmpI a b) ∧ s' = s := by
 refine CallsD.pure (fun s => (vc.cmp_Compare_uint64_ok ((isNaNU_ok a s).mono ?_)).a) rfl s
 rintro _ _ ⟨rfl, rfl⟩
 refine ⟨false, rfl, (isNaNU_ok b _).mono ?_⟩
 rintro _ _ ⟨rfl, rfl⟩
 refine ⟨false, rfl, bsel_of (fun c => by simp at c) fun _ => bsel_of (fun c => by simp at c) fun _ => bsel_of (fun c => ?_) fun c => bsel_of (fun c' => ?_) fun c' => ?_⟩
 ·have c : a < b := by simpa using c
  unfold cmpI; rw [if_pos c]
 ·have c : ¬ a < b := by simpa using c
  have c' : a > b := by simpa using c'
  unfold cmpI; rw [if_neg c, if_pos c']
 ·have c : ¬ a < b := by simpa using c
  have c' : ¬ a > b := by simpa using c'
  unfold cmpI; rw [if_neg c, if_neg c']
theorem nat_ok (p q : Int × Int) (s : St) : CallsD P F.rollup_nat [.agg [.int .u64 p.1, .int .u64 p.2], .agg [.int .u64 q.1, .int .u64 q.2]] s fun v s' => v = .int .i64 (natC p q) ∧ s' = s := by
 refine CallsD.pure (fun s => (vc.rollup_nat_ok ?_).a) rfl s
 intro m1 s2 h2 m3 s4 h4 s5 hB
 have o1 := (h2.own.ext h4.fwd).ext hB.fwd
 have o3 := h4.own.ext hB.fwd
 refine ⟨_, o1.ld1 0 rfl, _, o3.ld1 0 rfl, (CompareU_ok _ _ s5).mono ?_⟩
 rintro _ _ ⟨rfl, rfl⟩
 refine ⟨_, rfl, _, o1.ld1 1 rfl, o1.ld1 1 rfl, _, o3.ld1 1 rfl, o3.ld1 1 rfl, (CompareU_ok _ _ _).mono ?_⟩
 rintro _ _ ⟨rfl, rfl⟩
 refine ⟨_, rfl, (Or_ok hsetS_own).mono ?_⟩
 rintro _ _ ⟨rfl, rfl⟩
 exact ⟨_, rfl, rfl⟩
set_option maxRecDepth 100000 in
theorem number_ix (t : Tal) {k : Int} (hk : 0 ≤ k ∧ k ≤ 2) : indexA D T.y3_api_Nat_113 (.agg [.int .u64 t.a.1, .int .u64 t.a.2, .int .u64 t.b.1, .int .u64 t.b.2, .int .u64 t.c.1, .int .u64 t.c.2]) (.int .i64 k) = some (.agg [.int .u64 (numT t k).1, .int .u64 (numT t k).2]) := by
 obtain rfl | rfl | rfl : k = 0 ∨ k = 1 ∨ k = 2 := by omega
 ·rw [show numT t 0 = t.a from rfl]; kernel_rfl
 ·rw [show numT t 1 = t.b from rfl]; kernel_rfl
 ·rw [show numT t 2 = t.c from rfl]; kernel_rfl
theorem number_ok (t : Tal) (x : AV) {k : Int} (hk : 0 ≤ k ∧ k ≤ 2) (s : St) : CallsD P F.rollup_number [t.V x, .int .i64 k] s fun v s' => v = .agg [.int .u64 (numT t k).1, .int .u64 (numT t k).2] ∧ s' = s := by
 refine CallsD.pure (fun s => (vc.rollup_number_ok ?_).a) rfl s
 intro m1 s2 h2 m3 s4 h4
 have o1 := h2.own.ext h4.fwd
 refine ⟨_, _, o1.ldN 0 2 (by simp), _, _, o1.ldN 2 2 (by simp), _, _, o1.ldN 4 2 (by simp), _, _, number_ix t hk, ?_⟩
 obtain ⟨s13, w1, o3, _⟩ := h4.own.wrAll [.int .u64 (numT t k).1, .int .u64 (numT t k).2] rfl rfl
 exact ⟨s13, w1, _, _, o3.all rfl, rfl⟩
theorem TopS_ok {y z : ET} {b : Nat} {k : Int} {s : St} (hb : Own s b [.int .i64 k]) (hk : 0 ≤ k ∧ k ≤ 2) :
  CallsD P F.p_rollup_Rollup_Top_S1 [.agg (etF y), .agg (etF z), .ptr b 0] s fun v s' => (v = .int .i64 (cmpTop k y z) ∧ Frw [] s s') ∧ Fr s' := by
 refine CallsD.of fun hfr => vc.p_rollup_Rollup_Top_S1_ok ?_
 intro m1 s2 h2 m3 s4 h4 s5 hB
 have f5 := (h2.fwd.trans h4.fwd).trans hB.fwd
 have o1 := (h2.own.ext h4.fwd).ext hB.fwd
 have o3 := h4.own.ext hB.fwd
 have ob := hb.ext f5
 refine ⟨_, _, _, _, _, _, _, o3.ldN 2 7 (by simp), _, ob.ld1 0 rfl, (number_ok z.2.1 z.2.2 hk s5).mono ?_⟩
 rintro _ _ ⟨rfl, rfl⟩
 refine ⟨_, _, rfl, _, _, _, _, _, _, _, o1.ldN 2 7 (by simp), o1.ldN 2 7 (by simp), _, ob.ld1 0 rfl, ob.ld1 0 rfl, (number_ok y.2.1 y.2.2 hk _).mono ?_⟩
 rintro _ _ ⟨rfl, rfl⟩
 refine ⟨_, _, rfl, (nat_ok _ _ _).mono ?_⟩
 rintro _ _ ⟨rfl, rfl⟩
 exact ⟨_, rfl, rfl, f5⟩
set_option maxRecDepth 100000 in
theorem cmpTop_ok {M : List Nat} {s : St} {b : Nat} {k : Int} (hb : Own s b [.int .i64 k]) (hM : b ∉ M) (hk : 0 ≤ k ∧ k ≤ 2) : CmpOk M s (.func F.p_rollup_Rollup_Top_S1 [] [.ptr b 0]) (cmpTop k) := by
 intro s1 y z K f1 hfr hy hz hK
 refine callK_of (fi := fnI Try.f38) (by kernel_rfl) ((TopS_ok (y := y) (z := z) (hb.fwd f1 hM) hk).mono ?_)
 rintro _ s2 ⟨⟨rfl, f2⟩, hfr2⟩
 exact ⟨_, rfl, hK s2 f2 hfr2⟩
theorem _root_.Go.Eng.So.clip {α : Type} {E : Enc α} {s : St} {x : AV} {l : List α} (h : So E s x l) {k : Nat} (hk : k ≤ l.length) :
  ∃ y, sliceV E.z x none (some (.int .i64 (k : Int))) none = some y ∧ slLen y = some k ∧ ∃ u, sliceV E.z y none (some (.int .i64 (k : Int))) (some (.int .i64 (k : Int))) = some u ∧ Sl E s u (l.take k) ∧ ∀ c, c ∈ blkOf u → c ∈ blkOf x := by
 obtain ⟨y, h1, h2, h3⟩ := h.take hk
 have hl : slLen y = some k := by rw [h2.len, List.length_take, Nat.min_eq_left hk]
 refine ⟨y, h1, hl, ?_⟩
 have hlen := h.sl.len
 rcases h with ⟨rfl, g2⟩ | ⟨b, kk, n, c, rfl, g1, g2, g3⟩
 ·simp only [slLen, Option.some.injEq] at hlen
  have : k = 0 := by omega
  subst this
  have e : y = .nilslice := by
   have := h1
   simp [sliceV, optInt, sliceNil] at this
   exact this.symm
  subst e
  exact ⟨.nilslice, rfl, h2, h3⟩
 ·have hn : n = l.length := by simpa [slLen] using hlen
  have e1 : sliceV E.z (.slice b 0 n (.var kk 0)) none (some (.int .i64 (k : Int))) none = sliceVar E.z b 0 n kk 0 0 k := by
   simp [sliceV, optInt, sliceSl]
  rw [e1] at h1
  unfold sliceVar at h1
  rw [if_pos (by simp [Nat.ble_eq]; omega)] at h1
  cases hb : Nat.blt 0 n with
  | true =>
   simp only [hb, Option.some.injEq, Nat.zero_mul, Nat.add_zero, Nat.sub_zero] at h1
   subst h1
   refine ⟨.slice b 0 k (.exact k), ?_, ?_, h3⟩
   ·have : sliceV E.z (.slice b 0 k (.var kk 0)) none (some (.int .i64 (k : Int))) (some (.int .i64 (k : Int))) = sliceEx E.z b 0 k 0 k k := by
     simp [sliceV, optInt, sliceSl, natOf]
    rw [this]
    unfold sliceEx
    cases k with
    | zero => simp [Nat.ble_eq]
    | succ j => simp [Nat.ble_eq, show Nat.beq (j + 1) 0 = false from rfl]
   ·rcases h2 with ⟨q1, q2⟩ | ⟨b', o', n', c', q1, q2⟩
    ·simp [slZero] at q1
    ·simp only [AV.slice.injEq] at q1
     obtain ⟨rfl, rfl, rfl, rfl⟩ := q1
     exact .inr ⟨_, _, _, _, rfl, q2⟩
  | false =>
   simp only [hb, Option.some.injEq] at h1
   subst h1
   have h0 : n = 0 := by
    have : ¬ (Nat.blt 0 n = true) := by rw [hb]; simp
    rw [Nat.blt_eq] at this; omega
   have : k = 0 := by omega
   subst this
   refine ⟨.slice0 true, rfl, ?_, by simp [blkOf]⟩
   rw [List.take_zero]; exact .inl ⟨rfl, rfl⟩
theorem Clip_ok {y u : AV} {k : Nat} {s : St} (hl : slLen y = some k) (hu : sliceV 9 y none (some (.int .i64 (k : Int))) (some (.int .i64 (k : Int))) = some u) :
  CallsD P F.slices_Clip_sl_api_EdgeTally_api_EdgeTally [y] s fun v s' => v = u ∧ s' = s := by
 refine vc.slices_Clip_sl_api_EdgeTally_api_EdgeTally_ok ?_
 unfold vc.slices_Clip_sl_api_EdgeTally_api_EdgeTally slenK
 simp only [hl, hu, optK]
 exact ⟨trivial, trivial⟩
end
end Go.Eng.S

namespace Go.Eng.S
open Go Go.Eng Go.Proofs
set_option linter.constructorNameAsVariable false
set_option maxRecDepth 4000
noncomputable section
attribute [local irreducible] bsel
def tieT (y z : ET) : Prop := ssLt y.1 z.1 = true
def fallB (k : Int) (y z : ET) : Bool := if numT y.2.1 k = numT z.2.1 k then ssLt y.1 z.1 else decide ((numT z.2.1 k).1 < (numT y.2.1 k).1 ∨ ((numT z.2.1 k).1 = (numT y.2.1 k).1 ∧ (numT z.2.1 k).2 < (numT y.2.1 k).2))
theorem fallB_lex {k : Int} {y z : ET} (h : Lex (ltC (cmpTop k)) tieT y z) : fallB k y z = true := by
 obtain ⟨h1, h2⟩ := h
 rw [ltTop_f] at h1 h2
 unfold fallB
 split
 ·rename_i c
  refine h2 ?_
  rw [c]; omega
 ·rename_i c
  rw [decide_eq_true_iff]
  have : ¬ ((numT y.2.1 k).1 = (numT z.2.1 k).1 ∧ (numT y.2.1 k).2 = (numT z.2.1 k).2) := fun h => c (Prod.ext h.1 h.2)
  omega
theorem falls_ok (y z : ET) {k : Int} (hk : 0 ≤ k ∧ k ≤ 2) (s : St) : CallsD P F.spoorlaw15_falls [.agg (etF y), .agg (etF z), .int .i64 k] s fun v s' => v = .bool (fallB k y z) ∧ s' = s := by
 refine CallsD.pure (fun s => (vc.spoorlaw15_falls_ok ?_).a) rfl s
 intro m1 s2 h2 m3 s4 h4
 have o1 := h2.own.ext h4.fwd
 have o3 := h4.own
 refine ⟨_, _, o1.ldN 2 2 (by simp), ?_⟩
 intro m7 s8 h8
 obtain ⟨s9, w9, o7, f9, w92, w93, _⟩ := h8.own.wrAll [.int .u64 y.2.1.a.1, .int .u64 y.2.1.a.2] rfl rfl
 have n13 : m1 ≠ m3 := h4.ne h2.own.there
 have n17 : m1 ≠ m7 := h8.ne o1.there
 have n37 : m3 ≠ m7 := h8.ne o3.there
 have o1 := (o1.ext h8.fwd).fwd f9 (by simpa using n17)
 have o3 := (o3.ext h8.fwd).fwd f9 (by simpa using n37)
 refine ⟨s9, w9, _, _, o3.ldN 2 2 (by simp), ?_⟩
 intro m12 s13 h13
 obtain ⟨s14, w14, o12, f14, _, _, _⟩ := h13.own.wrAll [.int .u64 z.2.1.a.1, .int .u64 z.2.1.a.2] rfl rfl
 have n112 : m1 ≠ m12 := h13.ne o1.there
 have n312 : m3 ≠ m12 := h13.ne o3.there
 have n712 : m7 ≠ m12 := h13.ne o7.there
 have o1 := (o1.ext h13.fwd).fwd f14 (by simpa using n112)
 have o3 := (o3.ext h13.fwd).fwd f14 (by simpa using n312)
 have o7 := (o7.ext h13.fwd).fwd f14 (by simpa using n712)
 refine ⟨s14, w14, fun s _ => Own s m1 (etF y) ∧ Own s m3 (etF z) ∧ Own s m7 [.int .u64 (if k = 1 then y.2.1.b else y.2.1.a).1, .int .u64 (if k = 1 then y.2.1.b else y.2.1.a).2] ∧ Own s m12 [.int .u64 (if k = 1 then z.2.1.b else z.2.1.a).1, .int .u64 (if k = 1 then z.2.1.b else z.2.1.a).2], ?_, ?_⟩
 ·refine bsel_of (fun c => ?_) fun c => ⟨0, ?_⟩
  ·have c : k = 1 := by simpa using c
   subst c
   obtain ⟨s18, w18, q7, f18, _, _, _⟩ := o7.wrAll [.int .u64 y.2.1.b.1, .int .u64 y.2.1.b.2] rfl rfl
   have p1 := o1.fwd f18 (by simpa using n17)
   have p3 := o3.fwd f18 (by simpa using n37)
   have p12 := o12.fwd f18 (by simpa using n712.symm)
   refine ⟨_, _, o1.ldN 4 2 (by simp), s18, w18, _, _, p3.ldN 4 2 (by simp), ?_⟩
   obtain ⟨s21, w21, q12, f21, _, _, _⟩ := p12.wrAll [.int .u64 z.2.1.b.1, .int .u64 z.2.1.b.2] rfl rfl
   exact ⟨s21, w21, 0, p1.fwd f21 (by simpa using n112), p3.fwd f21 (by simpa using n312), q7.fwd f21 (by simpa using n712), q12⟩
  ·have c : ¬ k = 1 := by simpa using c
   rw [if_neg c, if_neg c]
   exact ⟨o1, o3, o7, o12⟩
 clear o1 o3 o7 o12
 rintro s24 _ ⟨o1, o3, o7, o12⟩
 refine ⟨fun s _ => Own s m1 (etF y) ∧ Own s m3 (etF z) ∧ Own s m7 [.int .u64 (numT y.2.1 k).1, .int .u64 (numT y.2.1 k).2] ∧ Own s m12 [.int .u64 (numT z.2.1 k).1, .int .u64 (numT z.2.1 k).2], ?_, ?_⟩
 ·refine bsel_of (fun c => ?_) fun c => ⟨0, ?_⟩
  ·have c : k = 2 := by simpa using c
   subst c
   obtain ⟨s18, w18, q7, f18, _, _, _⟩ := o7.wrAll [.int .u64 y.2.1.c.1, .int .u64 y.2.1.c.2] rfl rfl
   have p1 := o1.fwd f18 (by simpa using n17)
   have p3 := o3.fwd f18 (by simpa using n37)
   have p12 := o12.fwd f18 (by simpa using n712.symm)
   refine ⟨_, _, o1.ldN 6 2 (by simp [etF]), s18, w18, _, _, p3.ldN 6 2 (by simp [etF]), ?_⟩
   obtain ⟨s21, w21, q12, f21, _, _, _⟩ := p12.wrAll [.int .u64 z.2.1.c.1, .int .u64 z.2.1.c.2] rfl rfl
   exact ⟨s21, w21, 0, p1.fwd f21 (by simpa using n112), p3.fwd f21 (by simpa using n312), q7.fwd f21 (by simpa using n712), q12⟩
  ·have c : ¬ k = 2 := by simpa using c
   unfold numT
   simp only [if_neg c]
   exact ⟨o1, o3, o7, o12⟩
 clear o1 o3 o7 o12
 rintro s35 _ ⟨o1, o3, o7, o12⟩
 refine ⟨_, _, o7.all rfl, _, _, o12.all rfl, bsel_of (fun c => ?_) fun c => ?_⟩
 ·have c : ¬ numT y.2.1 k = numT z.2.1 k := by
   intro e; rw [e] at c; simp at c
  have e : fallB k y z = decide ((numT z.2.1 k).1 < (numT y.2.1 k).1 ∨ ((numT z.2.1 k).1 = (numT y.2.1 k).1 ∧ (numT z.2.1 k).2 < (numT y.2.1 k).2)) := if_neg c
  rw [e]
  refine ⟨_, o7.ld1 0 rfl, _, o12.ld1 0 rfl, bsel_of (fun c1 => ?_) fun c1 => ⟨_, o7.ld1 0 rfl, _, o12.ld1 0 rfl, bsel_of (fun c2 => ⟨_, o7.ld1 1 rfl, _, o12.ld1 1 rfl, ?_⟩) fun c2 => ?_⟩⟩
  ·have c1 : (numT y.2.1 k).1 > (numT z.2.1 k).1 := by simpa using c1
   rw [decide_eq_true (.inl c1)]
  ·have c1 : ¬ (numT y.2.1 k).1 > (numT z.2.1 k).1 := by simpa using c1
   have c2 : (numT y.2.1 k).1 = (numT z.2.1 k).1 := by simpa using c2
   congr 1
   rw [decide_eq_decide]
   omega
  ·have c1 : ¬ (numT y.2.1 k).1 > (numT z.2.1 k).1 := by simpa using c1
   have c2 : ¬ (numT y.2.1 k).1 = (numT z.2.1 k).1 := by simpa using c2
   rw [decide_eq_false (by omega)]
 ·have c : numT y.2.1 k = numT z.2.1 k := by
   simp at c
   exact Prod.ext c.1 c.2
  have e : fallB k y z = ssLt y.1 z.1 := if_pos c
  rw [e]
  refine ⟨_, _, o1.ldN 0 2 (by simp [etF]), _, _, o3.ldN 0 2 (by simp [etF]), (EdgeLess_pure y.1 z.1 s35).mono ?_⟩
  rintro _ _ ⟨rfl, rfl⟩
  exact ⟨_, rfl, rfl⟩
def topOk (k most : Int) : Bool := decide (0 ≤ k ∧ k ≤ 2 ∧ 0 ≤ most ∧ most ≤ 1000)
structure TopR (S : Edge → GT) (k most : Int) (s : St) (x : AV) (L L' : List ET) : Prop where
 told : ToldL S (etP L)
 perm : L'.Perm L
 lex : L'.Pairwise (Lex (ltC (cmpTop k)) tieT)
 sl : Sl etE s x (L'.take most.toNat)
 bars : ∀ y, y ∈ L' → Sl barE s y.2.2 y.2.1.l
theorem minI {n : Nat} {m : Int} (h : 0 ≤ m) : (if (false = true) then (if ((n : Int) > m) then (n : Int) else m) else (if ((n : Int) < m) then (n : Int) else m)) = ((min n m.toNat : Nat) : Int) := by
 rw [if_neg (by simp)]
 split <;> omega
theorem Top_ok {s : St} {r : Nat} {fan : Int} {G : RollF} {fp : List Nat} (hR : Roll s r fan G fp) {a b k most : Int} {E0 : List Edge} (hE : ∀ h e, G h e ≠ .zero → e ∈ E0) (hb : (E0.length + 1 + (E0.length + 1) / 4 + 600) * 104 ≤ pow48) :
  CallsA P F.p_rollup_Rollup_Top [.ptr r 0, .int .i64 a, .int .i64 b, .int .i64 k, .int .i64 most] s fun v s' => (if rngOk a b = true then (if topOk k most = true then ∃ x L L', v = .tuple [x, .int .i64 0] ∧ TopR (sumH G hR.good a b) k most s' x L L' else v = .tuple [.nilslice, .int .i64 1]) else v = .tuple [.nilslice, .int .i64 151]) ∧ Frw [] s s' ∧ Fr s' := by
 refine vc.p_rollup_Rollup_Top_ok ?_
 intro m1 s2 h2
 refine (Range_ok (hR.ext h2.fwd) (a := a) (b := b) hE hb).mono ?_
 rintro v s4 ⟨hv, f4, hfr4⟩
 have f04 := h2.fwd.trans f4
 have o1 := h2.own.ext f4
 by_cases hrng : rngOk a b = true
 ·rw [if_pos hrng] at hv
  obtain ⟨x, L, rfl, hL, hT⟩ := hv
  refine ⟨x, 0, rfl, bsel_of (fun c => by simp at c) fun _ => ⟨_, o1.ld1 0 rfl, bsel_of (fun c => ?_) fun c => ⟨_, o1.ld1 0 rfl, bsel_of (fun c2 => ?_) fun c2 => bsel_of (fun c3 => ?_) fun c3 => bsel_of (fun c4 => ?_) fun c4 => ?_⟩⟩⟩
  ·have c : k < 0 := by simpa using c
   refine ⟨?_, f04, hfr4⟩
   rw [if_pos hrng, if_neg (by simp [topOk]; omega)]
  ·have c : 2 < k := by simpa using c2
   refine ⟨?_, f04, hfr4⟩
   rw [if_pos hrng, if_neg (by simp [topOk]; omega)]
  ·have c : most < 0 := by simpa using c3
   refine ⟨?_, f04, hfr4⟩
   rw [if_pos hrng, if_neg (by simp [topOk]; omega)]
  ·have c : 1000 < most := by simpa using c4
   refine ⟨?_, f04, hfr4⟩
   rw [if_pos hrng, if_neg (by simp [topOk]; omega)]
  ·have c : ¬ k < 0 := by simpa using c
   have c2 : ¬ 2 < k := by simpa using c2
   have c3 : ¬ most < 0 := by simpa using c3
   have c4 : ¬ 1000 < most := by simpa using c4
   have hm1 : m1 ∉ blkOf x := fun h => h2.own.there (hL.et.new m1 h)
   have hlL : L.length < 1152921504606846976 := by
    have := told_lenS hT (sumH_ne (hG := hR.good) hE)
    rw [etP_len] at this
    unfold pow48 at hb
    omega
   have htie : L.Pairwise tieT := by
    have h0 : (L.map fun y => (y.1, y.2.1)).Pairwise (fun x y => ssLt x.1 y.1 = true) := hT.asc
    have h1 := List.pairwise_map.1 h0
    exact h1
   refine (SortStable_ok (ltTop_o k) hL.et.so (fun y hy => etF_ones (hL.et.bars y hy).1) hfr4 (cmpTop_ok o1 hm1 (by omega)) htie hlL).a.mono ?_
   rintro _ s10 ⟨rfl, L', q1, q2, q3, q4, q5⟩
   have hl' := q1.length_eq
   have f010 := f04.step q4 fun c hc => h2.fwd.none (hL.et.new c hc) (by simp)
   refine ⟨rfl, q3.sl.slen ?_⟩
   rw [minI (n := L'.length) (m := most) (by omega)]
   obtain ⟨y, g1, g2, u, g3, g4, g5⟩ := q3.clip (k := min L'.length most.toNat) (by omega)
   have g1 : sliceV 9 x none (some (.int .i64 ((min L'.length most.toNat : Nat) : Int))) none = some y := g1
   rw [g1]
   refine (Clip_ok g2 g3).a.mono ?_
   rintro _ _ ⟨rfl, rfl⟩
   refine ⟨_, rfl, ?_, f010, q5⟩
   rw [if_pos hrng, if_pos (by simp [topOk]; omega)]
   refine ⟨_, L, L', rfl, hT, q1, q2, ?_, fun y hy => ?_⟩
   ·rw [show L'.take most.toNat = L'.take (min L'.length most.toNat) from (List.take_eq_take_iff.2 (by omega))]
    exact g4
   ·have hy := q1.mem_iff.1 hy
    exact ((hL.bso y hy).1.beside q4 (fun c hc hx => hL.sep y hy c hx hc)).sl
 ·rw [if_neg hrng] at hv
  subst hv
  exact ⟨_, _, rfl, bsel_of (fun _ => ⟨by rw [if_neg hrng], f04, hfr4⟩) fun c => by simp at c⟩
end
end Go.Eng.S

namespace Go.Eng.S
open Go Go.Eng Go.Proofs
set_option linter.constructorNameAsVariable false
set_option maxRecDepth 4000
noncomputable section
attribute [local irreducible] bsel barsOf mergeB
theorem fallB_same {k : Int} {y z z' : ET} (h : (z.1, z.2.1) = (z'.1, z'.2.1)) : fallB k y z = fallB k y z' := by
 simp only [Prod.mk.injEq] at h
 unfold fallB
 rw [h.1, h.2]
def amid (T : List ET) (e : Edge) : Bool := T.any fun z => decide (z.1 = e)
theorem amid_take {T : List ET} {e : Edge} {j : Nat} (hj : j < T.length) : amid (T.take (j + 1)) e = (amid (T.take j) e || decide (T[j].1 = e)) := by
 unfold amid
 rw [← List.take_append_getElem hj, List.any_append, List.any_cons, List.any_nil, Bool.or_false]
theorem amid_count {L L' : List ET} {m : Nat} (hp : L'.Perm L) (hn : (L.map (·.1)).Nodup) : (L.countP fun y => !amid (L'.take m) y.1) = L.length - (L'.take m).length := by
 rw [← hp.countP_eq, ← hp.length_eq]
 have hn' : (L'.map (·.1)).Nodup := ((hp.map (·.1)).nodup_iff).2 hn
 generalize hT : L'.take m = T
 generalize hD : L'.drop m = D'
 have e : L' = T ++ D' := by rw [← hT, ← hD, List.take_append_drop]
 rw [e, List.countP_append, List.length_append]
 rw [e, List.map_append, List.nodup_append] at hn'
 have h1 : (T.countP fun y => !amid T y.1) = 0 := by
  rw [List.countP_eq_zero]
  intro y hy
  have : amid T y.1 = true := List.any_eq_true.2 ⟨y, hy, by simp⟩
  simp [this]
 have h2 : (D'.countP fun y => !amid T y.1) = D'.length := by
  rw [List.countP_eq_length]
  intro y hy
  have : amid T y.1 = false := by
   rw [Bool.eq_false_iff]
   intro h
   obtain ⟨z, hz, hzy⟩ := List.any_eq_true.1 h
   have hzy : z.1 = y.1 := by simpa using hzy
   exact hn'.2.2 _ (List.mem_map.2 ⟨z, hz, rfl⟩) _ (List.mem_map.2 ⟨y, hy, rfl⟩) hzy
  simp [this]
 rw [h1, h2]; omega
set_option maxHeartbeats 2000000 in
theorem RollupTop_ok {s : St} {fan a b q most : Int} {l : List PutR} {x : AV} (hx : Sl putE s x l) (hp : ∀ p, p ∈ l → FineP s p) (hlen : (l.length + 1 + (l.length + 1) / 4 + 600) * 104 ≤ pow48) :
  CallsA P F.spoorlaw15_RollupTop [.int .i64 fan, x, .int .i64 a, .int .i64 b, .int .i64 q, .int .i64 most] s fun v _ => v = .bool true := by
 have hbig : l.length < 4611686018427387904 := by unfold pow48 at hlen; omega
 refine vc.spoorlaw15_RollupTop_ok ((alive_ok s).mono ?_)
 rintro _ s2 ⟨rfl, rfl⟩
 refine ⟨true, rfl, (filled_ok (fan := fan) hx hp (by omega)).a.mono ?_⟩
 rintro v s5 ⟨⟨hv, f5⟩, hfr5⟩
 refine ⟨v, rfl, ?_⟩
 by_cases hfan : 2 ≤ fan ∧ fan ≤ 16
 ·rw [if_pos hfan] at hv
  obtain ⟨r, fp, rfl, hRO⟩ := hv
  have hR := hRO.roll
  have hE : ∀ h e, fillG zeroF l h e ≠ .zero → e ∈ l.map (·.edge) := fun h e hn => by
   rcases fillG_ne hn with h1 | h1
   ·exact absurd rfl h1
   ·exact h1
  have hb1 : ((l.map (·.edge)).length + 1 + ((l.map (·.edge)).length + 1) / 4 + 600) * 104 ≤ pow48 := by rw [List.length_map]; exact hlen
  have hE0 : (l.map (·.edge)).length < 4611686018427387904 := by rw [List.length_map]; exact hbig
  generalize l.map (·.edge) = E0 at hE hb1 hE0
  generalize fillG zeroF l = G at hR hE
  clear hRO hx hp hlen
  refine bsel_of (fun c => by simp at c) fun _ => nilK_ptr (bsel_of (fun c => by simp at c) fun _ => ?_)
  refine (Range_ok hR (a := a) (b := b) hE hb1).mono ?_
  rintro v8 s9 ⟨hv8, f9, hfr9⟩
  by_cases hrng : rngOk a b = true
  ·rw [if_pos hrng] at hv8
   obtain ⟨x10, L1, rfl, hL1, hT1⟩ := hv8
   refine ⟨x10, 0, rfl, (Top_ok (hR.ext f9) (a := a) (b := b) (k := q) (most := most) hE hb1).mono ?_⟩
   rintro v12 s13 ⟨hv12, f13, hfr13⟩
   rw [if_pos hrng] at hv12
   by_cases htop : topOk q most = true
   ·rw [if_pos htop] at hv12
    obtain ⟨x14, L, L', rfl, hTop⟩ := hv12
    have htop' : 0 ≤ q ∧ q ≤ 2 ∧ 0 ≤ most ∧ most ≤ 1000 := by simpa [topOk] using htop
    refine ⟨x14, 0, rfl, bsel_of (fun c => by simp at c) fun _ => ?_⟩
    refine ⟨fun s _ => s13 = s, ?_, ?_⟩
    ·refine bsel_of (fun c => ?_) fun _ => bsel_of (fun c => ?_) fun _ => bsel_of (fun c => ?_) fun _ => bsel_of (fun c => ?_) fun _ => ⟨0, rfl⟩
     all_goals simp only [decide_eq_true_eq] at c; omega
    rintro _ _ rfl
    have heL : etP L1 = etP L := hT1.unique hTop.told
    have hlL : L1.length = L.length := by rw [← etP_len, heL, etP_len]
    have hlE : L1.length ≤ E0.length := by
     have := told_lenS hT1 (sumH_ne (hG := hR.good) hE)
     rwa [etP_len] at this
    have hl' := hTop.perm.length_eq
    have hlex := hTop.lex
    obtain ⟨T, hT⟩ : ∃ T, T = L'.take most.toNat := ⟨_, rfl⟩
    have hsl := hTop.sl
    have hTl : T.length = min L'.length most.toNat := by rw [hT, List.length_take]; omega
    have hcnt : (L1.countP fun y => !amid T y.1) = L1.length - T.length := by
     have h1 := amid_count (m := most.toNat) hTop.perm (by have := hTop.told.nodup; rwa [etP, List.map_map] at this)
     rw [← hT] at h1
     have e : ∀ M : List ET, (M.countP fun y => !amid T y.1) = (etP M).countP fun p => !amid T p.1 := fun M => by
      rw [etP, List.countP_map]; rfl
     rw [e, heL, ← e, h1, hlL]
    have hTm : ∀ y, y ∈ T → y ∈ L' := fun y hy => by rw [hT] at hy; exact List.mem_of_mem_take hy
    have hTp : T.Pairwise (Lex (ltC (cmpTop q)) tieT) := by rw [hT]; exact hlex.sublist (List.take_sublist _ _)
    have hfall : ∀ y, y ∈ L1 → amid T y.1 = false → ∀ z, z ∈ T → fallB q z y = true := by
     intro y hy hny z hz
     have h1 : (y.1, y.2.1) ∈ etP L := by rw [← heL]; exact List.mem_map.2 ⟨y, hy, rfl⟩
     obtain ⟨y', hy', hyy⟩ := List.mem_map.1 h1
     have h2 : y' ∈ L' := hTop.perm.mem_iff.2 hy'
     have h3 : y' ∉ T := fun h => by
      have : amid T y.1 = true := List.any_eq_true.2 ⟨y', h, by simp only [Prod.mk.injEq] at hyy; simp [hyy.1]⟩
      rw [this] at hny; simp at hny
     rw [← List.take_append_drop most.toNat L', ← hT] at h2 hlex
     have h4 : y' ∈ L'.drop most.toNat := (List.mem_append.1 h2).resolve_left h3
     rw [← fallB_same hyy]
     exact fallB_lex ((List.pairwise_append.1 hlex).2.2 z hz y' h4)
    have hsame : ∀ y, y ∈ L1 → ∀ z, z ∈ T → z.1 = y.1 → z.2.1 = y.2.1 := by
     intro y hy z hz hzy
     have h1 := hT1.at (p := (y.1, y.2.1)) (List.mem_map.2 ⟨y, hy, rfl⟩)
     have h2 := hTop.told.at (p := (z.1, z.2.1)) (List.mem_map.2 ⟨z, hTop.perm.mem_iff.1 (hTm z hz), rfl⟩)
     have h1 : y.2.1 = (sumH G hR.good a b y.1).1 := h1.1
     have h2 : z.2.1 = (sumH G hR.good a b z.1).1 := h2.1
     rw [h2, hzy, ← h1]
    have hTb : ∀ z, z ∈ T → Sl barE s13 z.2.2 z.2.1.l := fun z hz => hTop.bars z (hTm z hz)
    have hLb : ∀ y, y ∈ L1 → Sl barE s13 y.2.2 y.2.1.l := fun y hy => (hL1.et.bars y hy).1.ext f13
    have hLn := told_bars hT1
    have hx10 : Sl etE s13 x10 L1 := hL1.et.so.sl.ext f13
    rw [← hT] at hsl
    clear hT hlex hTop
    refine bsel_of (fun c => by simp at c) fun _ => hsl.slen (hx10.slen (bsel_of (fun c => ?_) fun _ => ?_))
    ·rw [minI (n := L1.length) (m := most) (by omega), hTl] at c
     simp only [bne_iff_ne, ne_eq] at c
     omega
    refine ⟨fun n35 n36 s m => ∃ i : Nat, n36 = i ∧ n35 = (((L1.take i).countP fun y => !amid T y.1 : Nat) : Int) ∧ m = L1.length - i ∧ i ≤ L1.length ∧ Frw [] s13 s ∧ Fr s, ⟨_, 0, rfl, rfl, rfl, by omega, .refl _ _, hfr13⟩, ?_⟩
    rintro _ _ s37 m38 ⟨i, rfl, rfl, hm38, hi, f37, hfr37⟩
    refine (hx10.ext f37).slen (bsel_of (fun c => ?_) fun c => ?_)
    ·have c : i < L1.length := by simpa using c
     have hyi := List.getElem_mem c
     refine ⟨fun c42 n43 s m => ∃ j : Nat, n43 = j ∧ c42 = amid (T.take j) L1[i].1 ∧ m = T.length - j ∧ j ≤ T.length ∧ Frw [] s13 s ∧ Fr s, ⟨_, 0, rfl, rfl, rfl, by omega, f37, hfr37⟩, ?_⟩
     rintro _ _ s44 m45 ⟨j, rfl, rfl, hm45, hj, f44, hfr44⟩
     refine (hsl.ext f44).slen (bsel_of (fun c1 => ?_) fun c1 => ?_)
     ·have c1 : j < T.length := by simpa using c1
      intro s47 hB
      have f47 := f44.trans hB.fwd
      refine bsel_of (fun c2 => ?_) fun c2 => ?_
      ·exact ⟨T.length - (j + 1), by omega, j + 1, wr_succ (by omega), by rw [amid_take c1, c2, Bool.true_or], rfl, by omega, f47, hB.fr⟩
      ·refine (hsl.ext f47).ixs rfl rfl c1 fun b1 o1 hR1 => ⟨_, _, hR1.ldN 0 2 (by simp [etE, etF]), (hx10.ext f47).ixs rfl rfl c fun b2 o2 hR2 => ⟨_, _, hR2.ldN 0 2 (by simp [etE, etF]), bsel_of (fun c3 => ?_) fun c3 => ?_⟩⟩
       ·rw [if_pos rfl, sEq_eq, sEq_eq] at c3
        have c3 : T[j].1 = L1[i].1 := by
         simp at c3
         exact Prod.ext c3.1 c3.2
        have hs := hsame _ hyi _ (List.getElem_mem c1) c3
        refine (hsl.ext f47).ixs rfl rfl c1 fun b1 o1 hR1 => ⟨_, _, _, _, _, _, T[j].2.2, hR1.ldN 2 7 (by simp [etE, etF]), (hx10.ext f47).ixs rfl rfl c fun b2 o2 hR2 => ⟨_, _, _, _, _, _, L1[i].2.2, hR2.ldN 2 7 (by simp [etE, etF]), ?_⟩⟩
        have hb' := (hTb _ (List.getElem_mem c1)).ext f47
        rw [hs] at hb' ⊢
        refine (SameTally_ok (t := L1[i].2.1) hb' ((hLb _ hyi).ext f47) (hLn _ hyi)).mono ?_
        rintro _ s76 ⟨⟨rfl, f76⟩, hfr76⟩
        exact ⟨true, rfl, T.length - (j + 1), by omega, j + 1, wr_succ (by omega), by rw [amid_take c1, decide_eq_true c3, Bool.or_true], rfl, by omega, f47.trans f76, hfr76⟩
       ·rw [if_pos rfl, sEq_eq, sEq_eq] at c3
        have c3 : ¬ T[j].1 = L1[i].1 := fun e => by rw [e] at c3; simp at c3
        exact ⟨T.length - (j + 1), by omega, j + 1, wr_succ (by omega), by rw [amid_take c1, c2, decide_eq_false c3, Bool.or_false], rfl, by omega, f47, hB.fr⟩
     ·have c1 : j = T.length := by simp at c1; omega
      subst c1
      rw [List.take_length]
      have hst : (L1.take (i + 1)).countP (fun y => !amid T y.1) = (L1.take i).countP (fun y => !amid T y.1) + if amid T L1[i].1 = true then 0 else 1 := by
       rw [← List.take_append_getElem c, List.countP_append, List.countP_singleton]
       cases amid T L1[i].1 <;> simp
      have hle : (L1.take i).countP (fun y => !amid T y.1) ≤ i := by
       have h1 := List.countP_le_length (p := fun y => !amid T y.1) (l := L1.take i)
       rw [List.length_take] at h1
       omega
      refine ⟨fun n s _ => n = (((L1.take (i + 1)).countP fun y => !amid T y.1 : Nat) : Int) ∧ s = s44, ?_, ?_⟩
      ·refine bsel_of (fun c2 => ⟨0, ?_, rfl⟩) fun c2 => ⟨0, ?_, rfl⟩
       ·have c2 : amid T L1[i].1 = false := by simpa using c2
        rw [hst, c2, wr_succ (by omega)]; rfl
       ·have c2 : amid T L1[i].1 = true := by simpa using c2
        rw [hst, c2]; rfl
      rintro _ _ _ ⟨rfl, rfl⟩
      refine ⟨fun cc s _ => cc = false ∧ Frw [] s13 s ∧ Fr s, ?_, ?_⟩
      ·intro s87 hB
       have f87 := f44.trans hB.fwd
       refine bsel_of (fun c2 => ?_) fun _ => ⟨0, rfl, f87, hB.fr⟩
       have c2 : amid T L1[i].1 = false := by simpa using c2
       refine (hsl.ext f87).slen (bsel_of (fun c3 => ?_) fun _ => ⟨0, rfl, f87, hB.fr⟩)
       have c3 : 0 < T.length := by simpa using c3
       have ci : T.length - 1 < T.length := by omega
       refine (hsl.ext f87).slen ((hsl.ext f87).ixs rfl (wr_pred c3 (by omega)) ci fun b1 o1 hR1 => ⟨_, _, _, _, _, _, _, _, T[T.length - 1].2.2, hR1.all rfl, (hx10.ext f87).ixs rfl rfl c fun b2 o2 hR2 => ⟨_, _, _, _, _, _, _, _, L1[i].2.2, hR2.all rfl, (falls_ok T[T.length - 1] L1[i] (by omega) s87).mono ?_⟩⟩)
       rintro _ _ ⟨rfl, rfl⟩
       exact ⟨_, rfl, 0, by rw [hfall _ hyi c2 _ (List.getElem_mem ci)]; rfl, f87, hB.fr⟩
      rintro _ s119 _ ⟨rfl, f119, hfr119⟩
      exact bsel_of (fun c => by simp at c) fun _ => ⟨L1.length - (i + 1), by omega, i + 1, wr_succ (by omega), rfl, rfl, by omega, f119, hfr119⟩
    ·have c : i = L1.length := by simp at c; omega
     subst c
     rw [List.take_length, hcnt]
     refine ⟨fun n s m => ∃ j : Nat, n = ((j + 1 : Nat) : Int) ∧ m = T.length - j ∧ Frw [] s13 s ∧ Fr s, ⟨_, 0, rfl, rfl, f37, hfr37⟩, ?_⟩
     rintro _ s125 m126 ⟨j, rfl, hm126, f125, hfr125⟩
     refine (hsl.ext f125).slen (bsel_of (fun c1 => ?_) fun c1 => ?_)
     ·have c1 : j + 1 < T.length := by simp only [decide_eq_true_eq] at c1; omega
      intro s128 hB
      have f128 := f125.trans hB.fwd
      refine (hsl.ext f128).ixs rfl (show IntKind.wrap .i64 (((j + 1 : Nat) : Int) - 1) = (j : Int) by rw [wrap_i64 (by omega) (by omega)]; omega) (show j < T.length by omega) fun b1 o1 hR1 => ⟨_, _, _, _, _, _, _, _, T[j].2.2, hR1.all rfl, (hsl.ext f128).ixs rfl rfl c1 fun b2 o2 hR2 => ⟨_, _, _, _, _, _, _, _, T[j + 1].2.2, hR2.all rfl, (falls_ok T[j] T[j + 1] (by omega) s128).mono ?_⟩⟩
      rintro _ _ ⟨rfl, rfl⟩
      have : fallB q T[j] T[j + 1] = true := fallB_lex (List.pairwise_iff_getElem.1 hTp j (j + 1) (by omega) c1 (by omega))
      rw [this]
      exact ⟨true, rfl, bsel_of (fun c => by simp at c) fun _ => ⟨T.length - (j + 1), by omega, j + 1, wr_succ (by omega), rfl, f128, hB.fr⟩⟩
     ·refine (hx10.ext f125).slen ((hsl.ext f125).slen ?_)
      rw [wrap_i64 (a := ((L1.length : Nat) : Int) - ((T.length : Nat) : Int)) (by omega) (by omega)]
      have : ((L1.length - T.length : Nat) : Int) = (L1.length : Int) - (T.length : Int) := by omega
      rw [this]
      simp
   ·rw [if_neg htop] at hv12
    subst hv12
    have htop' : ¬ (0 ≤ q ∧ q ≤ 2 ∧ 0 ≤ most ∧ most ≤ 1000) := by simpa [topOk] using htop
    refine ⟨_, _, rfl, bsel_of (fun c => by simp at c) fun _ => ⟨fun _ _ => False, ?_, fun _ _ h => h.elim⟩⟩
    have hn : bsel ((1 : Int) == 1) (slenK .nilslice fun m => AV.bool (((m : Nat) : Int) == 0) = .bool true) (AV.bool false = .bool true) := bsel_of (fun _ => rfl) fun c => by simp at c
    refine bsel_of (fun _ => hn) fun c1 => bsel_of (fun _ => hn) fun c2 => bsel_of (fun _ => hn) fun c3 => bsel_of (fun _ => hn) fun c4 => ?_
    simp only [decide_eq_false_iff_not] at c1 c2 c3 c4
    omega
  ·rw [if_neg hrng] at hv8
   subst hv8
   refine ⟨_, _, rfl, (Top_ok (hR.ext f9) (a := a) (b := b) (k := q) (most := most) hE hb1).mono ?_⟩
   rintro v12 s13 ⟨hv12, f13, hfr13⟩
   rw [if_neg hrng] at hv12
   subst hv12
   refine ⟨_, _, rfl, bsel_of (fun _ => ⟨fun c _ _ => c = true, bsel_of (fun _ => ⟨0, rfl⟩) fun c => by simp at c, ?_⟩) fun c => by simp at c⟩
   rintro _ _ _ rfl
   rfl
 ·rw [if_neg hfan] at hv
  subst hv
  refine bsel_of (fun c => by simp at c) fun _ => nilK_nilptr (bsel_of (fun _ => bsel_of (fun _ => bsel_of (fun _ => rfl) fun c1 => ?_) fun c => by simp at c) fun c => by simp at c)
  simp only [decide_eq_false_iff_not] at c1
  have : fan > 16 := by omega
  simp [this]
end
end Go.Eng.S

namespace Go.Eng.S
open Go Go.Eng Go.Proofs
noncomputable section
variable {H : Type} {enc : TypeId × Value → H} {w : World} {base : Nat} {held : Bool} {fuel : Nat}
theorem RollupTop_walk {fan a b q most : Int} {v : Value} {x : DataW H × List MemPlace} (h : DataW.trod enc P w base (fun _ => true) held fuel T.sl_spoorlaw15_Put [v] = some x) (hs : slcLen x.1 * 112 ≤ 140737488351232) :
  Calls P F.spoorlaw15_RollupTop #[.int .i64 fan, v, .int .i64 a, .int .i64 b, .int .i64 q, .int .i64 most] w fun e w' => e = .returned (.bool true) ∧ Kept w w' := by
 obtain ⟨y, l, h1, h2, h3, h4, _⟩ := puts_read h
 exact CallsA.top (RollupTop_ok h2 h3 (by unfold pow48; omega)) (.cons (.int _ _) (.cons (absV_ok h1) (.cons (.int _ _) (.cons (.int _ _) (.cons (.int _ _) (.cons (.int _ _) .nil))))))
end
end Go.Eng.S

