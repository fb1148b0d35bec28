/-
  'RollupCover': plain laws, and the walk.
  'RollupCover': the walk.
  'RollupCover': puts as a row hands them in.
  'RollupBack': is there room; what is put, what is taken.
  What is taken from a rollup.
  The hours that a rollup has something of.
  'RollupBack': sums of few tallies go nowhere near the greatest number; plain laws.
  What was put together from low tallies is taken apart: plain laws.
  'RollupBack': what is held of puts, put and taken; plain laws.
  'RollupBack': what low puts come to.
  'RollupBack': puts that are held.
  'RollupBack': the walk.
  'RollupBack': the walk, from what a row hands in.
-/
import Derived.Test.YteidlkjofcbcmaaSRstoSRy
import Derived.Test.YteidlkjofcbcmaaSKr
import Derived.Test.YteidlkjofcbcmaaW13to14
import Derived.Test.YteidlkjofcbcmaaSVr6
import Derived.Test.YteidlkjofcbcmaaSPatoSRe
namespace Go.Eng.S
open Go Go.Eng Go.Proofs
set_option linter.constructorNameAsVariable false
set_option maxRecDepth 4000
noncomputable section
attribute [local irreducible] bsel barsOf mergeB

theorem told_lenS {S : Edge → GT} {L : List (Edge × Tal)} {E0 : List Edge} (h : ToldL S L) (hE : ∀ e, S e ≠ .zero → e ∈ E0) : L.length ≤ E0.length := by
  have := nodup_length_le (a := L.map (·.1)) (b := E0) h.nodup fun e he => by
    obtain ⟨p, hp, rfl⟩ := List.mem_map.1 he
    refine hE _ fun h0 => ?_
    have := h.at hp
    rw [h0] at this
    exact this.2 this.1
  simpa using this
theorem told_bars {S : Edge → GT} {L : List ET} (h : ToldL S (etP L)) : ∀ y, y ∈ L → y.2.1.l.length < 4611686018427387904 := fun y hy => by
  have := (h.at (p := (y.1, y.2.1)) (List.mem_map.2 ⟨y, hy, rfl⟩)).1
  simp only at this
  have ho := (S y.1).2.1
  rw [← this] at ho
  have := okB_len' ho
  omega

end
end Go.Eng.S

namespace Go.Eng.S
open Go Go.Eng Go.Proofs
set_option linter.constructorNameAsVariable false
set_option maxRecDepth 4000
noncomputable section
attribute [local irreducible] bsel barsOf mergeB

end
end Go.Eng.S

namespace Go.Eng.S
open Go Go.Eng Go.Proofs
set_option linter.constructorNameAsVariable false
noncomputable section
instance : Inhabited PutR := ⟨⟨0, (ByteArray.empty, ByteArray.empty), .zero, .nilslice⟩⟩
variable {H : Type} {enc : TypeId × Value → H} {w : World} {base : Nat} {held : Bool} {fuel : Nat}

theorem bars_read {v : Value} {x : DataW H × List MemPlace} (h : DataW.trod enc P w base (fun _ => true) held fuel T.sl_api_Bar [v] = some x) :
    ∃ (a : AV) (l : List Bar), absV w.heap.size v = some a ∧ Sl barE (stW w) a l ∧ RngB l ∧ l.length ≤ maxLen := by
  refine slice_read barE RngP h Try.underlying49 (by kernel_rfl) fun n cs y hy hl => ?_
  obtain ⟨a, b, rfl, wa, wb⟩ := pair_read hy Try.underlying80 rfl rfl rfl rfl Try.underlying3 Try.underlying46 (by kernel_rfl) (by kernel_rfl) (by kernel_rfl)
  have h1 := bounds_i64 wa
  have h2 := bounds_u64 wb
  refine ⟨(a, b), ⟨h1.1, by omega, h2.1, h2.2⟩, fun j hj => ?_⟩
  match j, hj with
  | 0, _ => exact ⟨_, _, rfl, rfl, rfl⟩
  | 1, _ => exact ⟨_, _, rfl, rfl, rfl⟩

set_option maxRecDepth 100000 in
theorem tal_cells {cs : List Value} {y : DataW H × List MemPlace} (h : DataW.trod enc P w base (fun _ => true) held fuel T.api_Tally cs = some y) :
    ∃ (t : Tal) (x : AV) (v6 : Value), cs = [.int .u64 t.a.1, .int .u64 t.a.2, .int .u64 t.b.1, .int .u64 t.b.2, .int .u64 t.c.1, .int .u64 t.c.2, v6] ∧ absV w.heap.size v6 = some x ∧ Sl barE (stW w) x t.l ∧ t.Rng ∧ t.l.length ≤ maxLen := by
  obtain ⟨xs, n, _, _, hl, hx, hf⟩ := DataW.trod_struct Try.underlying51 h
  rw [show P.cellsOf T.api_Tally = 7 by kernel_rfl] at hl
  have hf' := fun i f (hf0 : _) => hf i f hf0
  change xs.length = 4 at hx
  have g0 := hf' 0 _ rfl
  have g1 := hf' 1 _ rfl
  have g2 := hf' 2 _ rfl
  have g3 := hf' 3 _ rfl
  rw [List.getElem?_eq_getElem (by omega)] at g0 g1 g2 g3
  have pr : ∀ {n : Nat} {cs : List Value} {y : DataW H × List MemPlace}, DataW.trod enc P w base (fun _ => true) held n T.api_Nat cs = some y → ∃ a b, cs = [.int .u64 a, .int .u64 b] ∧ Rng2 (a, b) := by
    intro n cs y hy
    obtain ⟨a, b, rfl, wa, wb⟩ := pair_read hy Try.underlying48 rfl rfl rfl rfl Try.underlying46 Try.underlying46 (by kernel_rfl) (by kernel_rfl) (by kernel_rfl)
    exact ⟨a, b, rfl, bounds_u64 wa, bounds_u64 wb⟩
  obtain ⟨a1, a2, e0, r0⟩ := pr g0
  obtain ⟨b1, b2, e1, r1⟩ := pr g1
  obtain ⟨c1, c2, e2, r2⟩ := pr g2
  obtain ⟨v0, v1, v2, v3, v4, v5, v6, rfl⟩ : ∃ v0 v1 v2 v3 v4 v5 v6, cs = [v0, v1, v2, v3, v4, v5, v6] := by
    match cs, hl with
    | [v0, v1, v2, v3, v4, v5, v6], _ => exact ⟨v0, v1, v2, v3, v4, v5, v6, rfl⟩
  change List.take (P.cellsOf T.api_Nat) (List.drop 0 [v0, v1, v2, v3, v4, v5, v6]) = _ at e0
  change List.take (P.cellsOf T.api_Nat) (List.drop 2 [v0, v1, v2, v3, v4, v5, v6]) = _ at e1
  change List.take (P.cellsOf T.api_Nat) (List.drop 4 [v0, v1, v2, v3, v4, v5, v6]) = _ at e2
  change DataW.trod enc P w base (fun _ => true) held n T.sl_api_Bar (List.take (P.cellsOf T.sl_api_Bar) (List.drop 6 [v0, v1, v2, v3, v4, v5, v6])) = _ at g3
  rw [show P.cellsOf T.api_Nat = 2 by kernel_rfl] at e0 e1 e2
  rw [show P.cellsOf T.sl_api_Bar = 1 by kernel_rfl] at g3
  simp at e0 e1 e2
  obtain ⟨rfl, rfl⟩ := e0
  obtain ⟨rfl, rfl⟩ := e1
  obtain ⟨rfl, rfl⟩ := e2
  obtain ⟨x, l, q1, q2, q3, q4⟩ := bars_read (v := v6) g3
  exact ⟨⟨(a1, a2), (b1, b2), (c1, c2), l⟩, x, v6, rfl, q1, q2, ⟨r0, r1, r2, q3⟩, q4⟩

set_option maxRecDepth 100000 in
theorem edge_cells {cs : List Value} {y : DataW H × List MemPlace} (h : DataW.trod enc P w base (fun _ => true) held fuel T.api_Edge cs = some y) :
    ∃ s0 s1 : ByteArray, cs = [.string s0, .string s1] := by
  obtain ⟨xs1, n1, _, _, hl1, hx1, hf1⟩ := DataW.trod_struct Try.underlying45 h
  rw [show P.cellsOf T.api_Edge = 2 by kernel_rfl] at hl1
  change xs1.length = 2 at hx1
  have k0 := hf1 0 _ rfl
  have k1 := hf1 1 _ rfl
  rw [List.getElem?_eq_getElem (by omega)] at k0 k1
  change DataW.trod enc P w base (fun _ => true) held n1 T.ystring_9 (List.take (P.cellsOf T.ystring_9) (List.drop 0 cs)) = _ at k0
  change DataW.trod enc P w base (fun _ => true) held n1 T.ystring_9 (List.take (P.cellsOf T.ystring_9) (List.drop 1 cs)) = _ at k1
  obtain ⟨s0, e4, _, _⟩ := DataW.trod_string Try.underlying9 k0
  obtain ⟨s1, e5, _, _⟩ := DataW.trod_string Try.underlying9 k1
  rw [show P.cellsOf T.ystring_9 = 1 by kernel_rfl] at e4 e5
  obtain ⟨v0, v1, rfl⟩ : ∃ v0 v1, cs = [v0, v1] := by
    match cs, hl1 with
    | [v0, v1], _ => exact ⟨v0, v1, rfl⟩
  simp at e4 e5
  exact ⟨s0, s1, by rw [e4, e5]⟩

set_option maxRecDepth 100000 in
theorem puts_read {v : Value} {x : DataW H × List MemPlace} (h : DataW.trod enc P w base (fun _ => true) held fuel T.sl_spoorlaw15_Put [v] = some x) :
    ∃ (a : AV) (l : List PutR), absV w.heap.size v = some a ∧ Sl putE (stW w) a l ∧ (∀ p, p ∈ l → FineP (stW w) p) ∧ l.length ≤ slcLen x.1 ∧ l.length ≤ maxLen ∧ ∀ p, p ∈ l → p.tal.l.length ≤ maxLen := by
  obtain ⟨a, l, h1, h2, h3, h4, h5⟩ := slice_read2 putE (fun p => FineP (stW w) p ∧ p.tal.l.length ≤ maxLen) h Try.underlying22 (by kernel_rfl) fun n cs y hy hl => by
    have hl : cs.length = 10 := hl
    obtain ⟨xs, n, _, _, _, hx, hf⟩ := DataW.trod_struct Try.underlying53 hy
    change xs.length = 3 at hx
    have hf' := fun i f (hf0 : _) => hf i f hf0
    have g0 := hf' 0 _ rfl
    have g1 := hf' 1 _ rfl
    have g2 := hf' 2 _ rfl
    rw [List.getElem?_eq_getElem (by omega)] at g0 g1 g2
    change DataW.trod enc P w base (fun _ => true) held n T.int64 (List.take (P.cellsOf T.int64) (List.drop 0 cs)) = _ at g0
    change DataW.trod enc P w base (fun _ => true) held n T.api_Edge (List.take (P.cellsOf T.api_Edge) (List.drop 1 cs)) = _ at g1
    change DataW.trod enc P w base (fun _ => true) held n T.api_Tally (List.take (P.cellsOf T.api_Tally) (List.drop 3 cs)) = _ at g2
    obtain ⟨hr, e0, _, w0⟩ := DataW.trod_int Try.underlying2 g0
    obtain ⟨s0, s1, e1⟩ := edge_cells g1
    obtain ⟨t, z, v6, e2, q1, q2, q3, q4⟩ := tal_cells g2
    rw [show P.cellsOf T.int64 = 1 by kernel_rfl] at e0
    rw [show P.cellsOf T.api_Edge = 2 by kernel_rfl] at e1
    rw [show P.cellsOf T.api_Tally = 7 by kernel_rfl] at e2
    obtain ⟨c0, c1, c2, c3, c4, c5, c6, c7, c8, c9, rfl⟩ : ∃ c0 c1 c2 c3 c4 c5 c6 c7 c8 c9, cs = [c0, c1, c2, c3, c4, c5, c6, c7, c8, c9] := by
      match cs, hl with
      | [c0, c1, c2, c3, c4, c5, c6, c7, c8, c9], _ => exact ⟨c0, c1, c2, c3, c4, c5, c6, c7, c8, c9, rfl⟩
    simp at e0 e1 e2
    obtain ⟨rfl, rfl⟩ := e1
    obtain ⟨rfl, rfl, rfl, rfl, rfl, rfl, rfl⟩ := e2
    subst e0
    refine ⟨⟨hr, (s0, s1), t, z⟩, ⟨⟨q2, q3⟩, q4⟩, fun j hj => ?_⟩
    match j, hj with
    | 0, _ => exact ⟨_, _, rfl, rfl, rfl⟩
    | 1, _ => exact ⟨_, _, rfl, rfl, rfl⟩
    | 2, _ => exact ⟨_, _, rfl, rfl, rfl⟩
    | 3, _ => exact ⟨_, _, rfl, rfl, rfl⟩
    | 4, _ => exact ⟨_, _, rfl, rfl, rfl⟩
    | 5, _ => exact ⟨_, _, rfl, rfl, rfl⟩
    | 6, _ => exact ⟨_, _, rfl, rfl, rfl⟩
    | 7, _ => exact ⟨_, _, rfl, rfl, rfl⟩
    | 8, _ => exact ⟨_, _, rfl, rfl, rfl⟩
    | 9, _ => exact ⟨_, _, rfl, rfl, q1⟩
  exact ⟨a, l, h1, h2, fun p hp => (h3 p hp).1, h5, h4, fun p hp => (h3 p hp).2⟩

end
end Go.Eng.S

namespace Go.Eng.S
open Go Go.Eng Go.Proofs
set_option linter.constructorNameAsVariable false
set_option maxRecDepth 4000
noncomputable section
attribute [local irreducible] bsel barsOf mergeB

/-- A tally that leaves room. -/
def Low (t : Tal) : Prop := t.a.1 ≤ 4294967296 ∧ t.b.1 ≤ 4294967296 ∧ t.c.1 ≤ 4294967296 ∧ ∀ p, p ∈ t.l → p.2 ≤ 1099511627776

theorem room_ok {s : St} {x : AV} {l : List PutR} (hx : Sl putE s x l) (hp : ∀ p, p ∈ l → FineP s p) (hlen : l.length < 9223372036854775808) (hbl : ∀ p, p ∈ l → p.tal.l.length < 9223372036854775808) :
    CallsD P F.spoorlaw15_room [x] s fun v s' => (∃ c, v = .bool c ∧ (c = true → l.length < 1048576 ∧ ∀ p, p ∈ l → Low p.tal)) ∧ Frw [] s s' ∧ Fr s' := by
  refine CallsD.fr fun hfr => vc.spoorlaw15_room_ok ?_
  refine ⟨fun n s4 m => ∃ k : Nat, n = k ∧ m = l.length - k ∧ k ≤ l.length ∧ (∀ p, p ∈ l.take k → Low p.tal) ∧ Frw [] s s4 ∧ Fr s4, ⟨_, 0, rfl, rfl, by omega, by simp, .refl _ _, hfr⟩, ?_⟩
  rintro _ s4 _ ⟨k, rfl, rfl, hk, hlow, f4, hfr4⟩
  have hx4 := hx.ext f4
  refine hx4.slen (bsel_of (fun c => ?_) fun c => ?_)
  · have c : k < l.length := by simpa using c
    have hpk := (hp _ (List.getElem_mem c)).ext f4
    have hbk := hbl _ (List.getElem_mem c)
    refine hx4.ixs rfl rfl c fun b o hR => ⟨_, _, _, _, _, _, l[k].bars, hR.ldN 3 7 (by simp [putE, putF]), ?_⟩
    intro m16 s17 hN
    obtain ⟨s18, w1, w2, w3, w4, w5, w6⟩ := hN.own.wrAll (l[k].tal.C l[k].bars) (hpk.bar.onesx []) rfl
    have f18 : Frw [] s s18 := (f4.trans hN.fwd).step w3 (by simpa using f4.none hN.gone (by simp))
    have hfr18 : Fr s18 := hN.fr.wr hN.own.there w4 w6
    have g18 : Frw [] s4 s18 := hN.fwd.step w3 (by simpa using hN.gone)
    have bad : (∃ c, AV.bool false = .bool c ∧ (c = true → l.length < 1048576 ∧ ∀ p, p ∈ l → Low p.tal)) ∧ Frw [] s s18 ∧ Fr s18 := ⟨⟨false, rfl, fun h => by simp at h⟩, f18, hfr18⟩
    refine ⟨s18, w1, _, w2.ld1 0 rfl, bsel_of (fun _ => bad) fun c1 => ⟨_, w2.ld1 2 rfl, bsel_of (fun _ => bad) fun c2 => ⟨_, w2.ld1 4 rfl, bsel_of (fun _ => bad) fun c3 => ?_⟩⟩⟩
    simp only [decide_eq_false_iff_not] at c1 c2 c3
    refine ⟨fun n s25 m => ∃ j : Nat, n = j ∧ m = l[k].tal.l.length - j ∧ j ≤ l[k].tal.l.length ∧ (∀ p, p ∈ l[k].tal.l.take j → p.2 ≤ 1099511627776) ∧ s25 = s18, ⟨_, 0, rfl, rfl, by omega, by simp, rfl⟩, ?_⟩
    rintro _ s25 _ ⟨j, rfl, rfl, hj, hlo, rfl⟩
    have hbar := hpk.bar.ext g18
    refine ⟨l[k].bars, w2.ld1 6 rfl, hbar.slen (bsel_of (fun c4 => ?_) fun c4 => ?_)⟩
    · have c4 : j < l[k].tal.l.length := by simpa using c4
      refine ⟨l[k].bars, w2.ld1 6 rfl, hbar.ixs rfl rfl c4 fun b o hR => ⟨_, hR.ld1 1 rfl, bsel_of (fun _ => bad) fun c5 => ?_⟩⟩
      simp only [decide_eq_false_iff_not] at c5
      refine ⟨l[k].tal.l.length - (j + 1), by omega, j + 1, wrap_succ (by omega), rfl, by omega, fun p hp => ?_, rfl⟩
      rw [← List.take_append_getElem c4] at hp
      rcases List.mem_append.1 hp with hp | hp
      · exact hlo p hp
      · have : p = l[k].tal.l[j] := by simpa using hp
        rw [this]; omega
    · have c4 : j = l[k].tal.l.length := by simp at c4; omega
      rw [c4, List.take_length] at hlo
      refine ⟨l.length - (k + 1), by omega, k + 1, wrap_succ (by omega), rfl, by omega, fun p hp => ?_, f18, hfr18⟩
      rw [← List.take_append_getElem c] at hp
      rcases List.mem_append.1 hp with hp | hp
      · exact hlow p hp
      · have : p = l[k] := by simpa using hp
        rw [this]
        exact ⟨by omega, by omega, by omega, hlo⟩
  · have c : k = l.length := by simp at c; omega
    refine hx4.slen ⟨⟨_, rfl, fun h => ?_⟩, f4, hfr4⟩
    rw [c, List.take_length] at hlow
    exact ⟨by have := of_decide_eq_true h; omega, hlow⟩
end
end Go.Eng.S

namespace Go.Eng.S
open Go Go.Eng Go.Proofs
set_option linter.constructorNameAsVariable false
set_option maxRecDepth 4000
noncomputable section
attribute [local irreducible] bsel barsOf mergeB lessB

theorem subR_rng : ∀ {l : List Bar} {r r' : RowF}, RngR r → RngB l → subR r l = some r' → RngR r'
  | [], r, r', h, _, e => by
    simp only [subR, Option.some.injEq] at e
    rw [← e]; exact h
  | p :: q, r, r', h, hb, e => by
    simp only [subR] at e
    split at e
    · simp at e
    · rename_i hn
      have h1 := h p.1.toNat
      have h2 := hb.head.2.2
      exact subR_rng (h.upd (by omega)) hb.tail e
section
attribute [local semireducible] lessB
theorem lessB_fine {a b l : List Bar} (ra : RngB a) (rb : RngB b) (h : lessB a b = some l) : okB (-1) l = true ∧ RngB l := by
  unfold lessB at h
  cases e : subR (fillR zeroR a) b with
  | none => rw [e] at h; simp at h
  | some r =>
    rw [e] at h
    simp only [Option.map_some, Option.some.injEq] at h
    rw [← h]
    exact ⟨barsOf_ok _, barsOf_rng (subR_rng (.fill .zero ra) rb e)⟩
end
theorem minus_fine {t u d : Tal} (ht : t.Rng) (hu : u.Rng) (h : t.minus u = some d) : d.ok = true ∧ d.Rng := by
  unfold Tal.minus at h
  split at h
  · cases e : lessB t.l u.l with
    | none => rw [e] at h; simp at h
    | some l =>
      rw [e] at h
      simp only [Option.map_some, Option.some.injEq] at h
      obtain ⟨h1, h2⟩ := lessB_fine ht.l hu.l e
      rw [← h]
      exact ⟨h1, ⟨Rng2.minus, Rng2.minus, Rng2.minus, h2⟩⟩
  · simp at h

theorem Take_ok {s : St} {r : Nat} {fan : Int} {G : RollF} {fp : List Nat} (hR : Roll s r fan G fp) {hh : Int} {e : Edge} {t : Tal} {y : AV} (hy : Sl barE s y t.l) (hr : t.Rng) :
    CallsD P F.p_rollup_Rollup_Take [.ptr r 0, .int .i64 hh, edgeF e, t.V y] s fun v s' => ((v = .int .i64 (takeR G hh e t).2 ∧ ∃ fp', Roll s' r fan (takeR G hh e t).1 fp' ∧ (∀ c, c ∈ fp → c ∈ fp') ∧ ∀ c, c ∈ fp' → c ∈ fp ∨ s.h.get c = none) ∧ Frw fp s s') ∧ Fr s' := by
  obtain ⟨m, M, h⟩ := hR
  obtain ⟨e1, e2⟩ := e
  refine CallsD.of fun hfr => vc.p_rollup_Rollup_Take_ok ?_
  intro m1 s2 h2 m3 s4 h4
  have f4 : Frw [] s s4 := h2.fwd.trans h4.fwd
  unfold takeR
  refine bsel_of (fun c => ?_) fun c => bsel_of (fun c' => ?_) fun c' => ?_
  · simp at c
    rw [if_neg (by omega)]
    exact ⟨⟨rfl, fp, ⟨m, M, h.fwd f4 (by simp)⟩, fun c hc => hc, fun c hc => .inl hc⟩, f4.mono (by simp)⟩
  · simp at c'
    rw [if_neg (by omega)]
    exact ⟨⟨rfl, fp, ⟨m, M, h.fwd f4 (by simp)⟩, fun c hc => hc, fun c hc => .inl hc⟩, f4.mono (by simp)⟩
  simp at c c'
  rw [if_pos (by omega)]
  intro s5 hB
  have f5 := f4.trans hB.fwd
  have hR := h.fwd f5 (by simp)
  have o1 := (h2.own.ext h4.fwd).ext hB.fwd
  have o3 := h4.own.ext hB.fwd
  obtain ⟨x, z, l1, l2, hz⟩ := look_ok hR hh (e1, e2)
  have hg := h.good
  refine ptrK_of ⟨_, hR.own.ld1 1 rfl, x, l1, _, _, o1.all rfl, _, _, _, _, _, _, z, l2, _, _, _, _, _, _, _, o3.all rfl, (Minus_okS hz (hy.ext f5) (hg.rng hh (e1, e2)) hr).gro.mono ?_⟩
  rintro v s34 ⟨⟨⟨hv, g34⟩, hfr34⟩, hG⟩
  have hR := hR.fwd g34 (by simp)
  have o1 := o1.ext g34
  have f34 := f5.trans g34
  have hfree : s34.h.get (s4.nx + 13) = none := bump_free hB (by omega) hG
  have hx := hsetS_fwd (o := cellsO [(AV.int .u64 0), (AV.int .u64 0), (AV.int .u64 0), (AV.int .u64 0), (AV.int .u64 0), (AV.int .u64 0), AV.nilslice]) hfree
  have ox := hsetS_own (s := s34) (b := s4.nx + 13) (cs := [(AV.int .u64 0), (AV.int .u64 0), (AV.int .u64 0), (AV.int .u64 0), (AV.int .u64 0), (AV.int .u64 0), AV.nilslice])
  have hok : (G hh (e1, e2)).ok = true := hg.ok _ _
  -- nothing is taken
  have fail : ∀ code : Int, v = .tuple [Tal.zero.V .nilslice, .int .i64 code] → ∃ s36, wrN (hsetS s34 (s4.nx + 13) (cellsO [(AV.int .u64 0), (AV.int .u64 0), (AV.int .u64 0), (AV.int .u64 0), (AV.int .u64 0), (AV.int .u64 0), AV.nilslice])) (.ptr (s4.nx + 13) 0) (Tal.zero.C .nilslice) = some s36 ∧ Frw [] s s36 ∧ Roll s36 r fan G fp := by
    intro code _
    obtain ⟨s37, w1, w2, w3, w4, w5, w6⟩ := ox.wrAll (Tal.zero.C .nilslice) rfl rfl
    have g37 : Frw [] s34 s37 := hx.step w3 (by simpa using hfree)
    exact ⟨s37, w1, f34.trans g37, ⟨m, M, hR.fwd g37 (by simp)⟩⟩
  by_cases ct : t.ok = true
  · rw [if_pos ⟨hok, ct⟩] at hv
    rw [if_pos ct]
    cases hm : (G hh (e1, e2)).minus t with
    | some d =>
      rw [hm] at hv
      obtain ⟨z', rfl, ⟨hz', _⟩, hgo⟩ := hv
      obtain ⟨hd1, hd2⟩ := minus_fine (hg.rng hh (e1, e2)) hr hm
      obtain ⟨s37, w1, w2, w3, w4, w5, w6⟩ := ox.wrAll (d.C z') (hz'.sl.onesx []) rfl
      have g37 : Frw [] s34 s37 := hx.step w3 (by simpa using hfree)
      refine ⟨_, _, _, _, _, _, z', 0, rfl, s37, w1, bsel_of (fun _ => ?_) fun c => by simp at c⟩
      have hR := hR.fwd g37 (by simp)
      have f37 := f34.trans g37
      refine ⟨_, _, (o1.ext g37).all rfl, _, _, _, _, _, _, _, w2.all rfl, (set_ok ⟨m, M, hR⟩ (hz'.ext g37) (t := d) hd1 hd2 (by omega)).mono ?_⟩
      rintro v s48 ⟨⟨⟨rfl, fp', q1, q2, q3⟩, g48⟩, hfr48⟩
      refine ⟨rfl, ⟨rfl, fp', q1, q2, fun c hc => ?_⟩, (f37.mono (by simp)).trans g48⟩
      rcases q3 c hc with h1 | h1 | h1
      · exact .inl h1
      · exact .inr (f5.none (hgo c h1) (by simp))
      · exact .inr (f37.none h1 (by simp))
    | none =>
      rw [hm] at hv
      obtain ⟨s36, w1, g1, g2⟩ := fail 141 hv
      subst hv
      exact ⟨_, _, _, _, _, _, .nilslice, 141, rfl, s36, w1, bsel_of (fun c => by simp at c) fun _ => bsel_of (fun _ => ⟨⟨rfl, fp, g2, fun c hc => hc, fun c hc => .inl hc⟩, g1.mono (by simp)⟩) fun c => by simp at c⟩
  · rw [if_neg (by simp [ct])] at hv
    rw [if_neg ct]
    obtain ⟨s36, w1, g1, g2⟩ := fail 131 hv
    subst hv
    exact ⟨_, _, _, _, _, _, .nilslice, 131, rfl, s36, w1, bsel_of (fun c => by simp at c) fun _ => bsel_of (fun c => by simp at c) fun _ => ⟨⟨rfl, fp, g2, fun c hc => hc, fun c hc => .inl hc⟩, g1.mono (by simp)⟩⟩
end
end Go.Eng.S

namespace Go.Eng.S
open Go Go.Eng Go.Proofs
set_option linter.constructorNameAsVariable false
set_option maxRecDepth 4000
noncomputable section
attribute [local irreducible] bsel barsOf mergeB

def Has (G : RollF) (h : Int) : Prop := ∃ e, G h e ≠ .zero
/-- The first hour, and the one behind the last. -/
def HoursP (G : RollF) (lo hi : Int) : Prop := (lo = 0 ∧ hi = 0 ∧ ∀ h, ¬ Has G h) ∨ (Has G lo ∧ Has G (hi - 1) ∧ ∀ h, Has G h → lo ≤ h ∧ h < hi)
theorem HoursP.unique {G : RollF} {a b a' b' : Int} (h : HoursP G a b) (h' : HoursP G a' b') : a = a' ∧ b = b' := by
  rcases h with ⟨h1, h2, h3⟩ | ⟨h1, h2, h3⟩ <;> rcases h' with ⟨g1, g2, g3⟩ | ⟨g1, g2, g3⟩
  · exact ⟨by omega, by omega⟩
  · exact absurd g1 (h3 _)
  · exact absurd h1 (g3 _)
  · have k1 := h3 _ g1
    have k2 := g3 _ h1
    have k3 := h3 _ g2
    have k4 := g3 _ h2
    exact ⟨by omega, by omega⟩
/-- So far. -/
def HrI (vis : List Int) (lo hi : Int) : Prop := (vis = [] ∧ lo = 0 ∧ hi = 0) ∨ (0 < hi ∧ lo ∈ vis ∧ hi - 1 ∈ vis ∧ ∀ h, h ∈ vis → lo ≤ h ∧ h < hi)
theorem HrI.next {vis : List Int} {lo hi h : Int} (hI : HrI vis lo hi) (h0 : 0 ≤ h) (hn : hi = 0 ∨ h < lo) : HrI (vis ++ [h]) h (if h + 1 > hi then h + 1 else hi) := by
  refine .inr ?_
  rcases hI with ⟨rfl, rfl, rfl⟩ | ⟨h1, h2, h3, h4⟩
  · rw [if_pos (by omega)]
    refine ⟨by omega, by simp, by simp, fun x hx => ?_⟩
    have : x = h := by simpa using hx
    omega
  · have hlt : h < lo := by omega
    have h5 := h4 lo h2
    rw [if_neg (by omega)]
    refine ⟨h1, by simp, List.mem_append_left _ h3, fun x hx => ?_⟩
    rcases List.mem_append.1 hx with hx | hx
    · have := h4 x hx; omega
    · have : x = h := by simpa using hx
      omega
theorem HrI.same {vis : List Int} {lo hi h : Int} (hI : HrI vis lo hi) (h0 : 0 ≤ h) (hn : hi ≠ 0) (hl : lo ≤ h) : HrI (vis ++ [h]) lo (if h + 1 > hi then h + 1 else hi) := by
  refine .inr ?_
  rcases hI with ⟨rfl, rfl, rfl⟩ | ⟨h1, h2, h3, h4⟩
  · exact absurd rfl hn
  · split
    · refine ⟨by omega, List.mem_append_left _ h2, by simp, fun x hx => ?_⟩
      rcases List.mem_append.1 hx with hx | hx
      · have := h4 x hx; omega
      · have : x = h := by simpa using hx
        omega
    · refine ⟨h1, List.mem_append_left _ h2, List.mem_append_left _ h3, fun x hx => ?_⟩
      rcases List.mem_append.1 hx with hx | hx
      · exact h4 x hx
      · have : x = h := by simpa using hx
        omega

theorem Hours_ok {s : St} {r : Nat} {fan : Int} {G : RollF} {fp : List Nat} (hR : Roll s r fan G fp) :
    CallsA P F.p_rollup_Rollup_Hours [.ptr r 0] s fun v s' => (∃ lo hi, v = .tuple [.int .i64 lo, .int .i64 hi] ∧ HoursP G lo hi) ∧ Frw [] s s' ∧ Fr s' := by
  have hG := hR.good
  obtain ⟨m, M, h⟩ := hR
  refine CallsA.fr fun hfr => vc.p_rollup_Rollup_Hours_ok ?_
  obtain ⟨it, s5, r1, r2, r3, r4, r5, r6⟩ := h.map.range ty.map_int64_rollup_edges rfl hfr
  have hnd : (M.map (·.1)).Nodup := h.map.nodup
  have hkey : ∀ hh, hh ∈ M.map (·.1) → Has G hh := fun hh hx => by
    obtain ⟨p, hp, rfl⟩ := List.mem_map.1 hx
    obtain ⟨b, N, _, hi, _⟩ := h.inner p.1 p.2 (mget_of_mem hnd hp)
    obtain ⟨q, N', hN⟩ := List.exists_cons_of_ne_nil hi.ne
    have hq : mget N q.1 = some q.2 := by rw [hN]; simp [mget]
    obtain ⟨z, _, _, h3, _⟩ := hi.some q.1 q.2 hq
    exact ⟨q.1, h3⟩
  have hkey' : ∀ hh, Has G hh → hh ∈ M.map (·.1) := fun hh ⟨e, he⟩ => by
    refine Classical.byContradiction fun hn => he ?_
    exact h.none hh (mget_none.2 hn) e
  refine ptrK_of ⟨_, h.own.ld1 1 rfl, it, s5, r1, fun n8 n9 s10 m11 => ∃ vis rem, m11 = rem.length ∧ IterS hourF s10 it m M rem ∧ (vis ++ rem.map (·.1)).Perm (M.map (·.1)) ∧ HrI vis n8 n9 ∧ Frw [] s s10 ∧ Fr s10, ⟨M.length, [], M, rfl, r2, by simp, .inl ⟨rfl, rfl, rfl⟩, r3, r4⟩, ?_⟩
  rintro n8 n9 s10 m11 ⟨vis, rem, rfl, hit, hperm, hI, hfw, hfr10⟩
  obtain ⟨l, n1, n2⟩ := hit.entry
  refine ⟨l, n1, fun x13 s14 hm => ?_⟩
  rcases n2 x13 s14 hm with ⟨rfl, rfl, rfl⟩ | ⟨ra, hh, x, rc, rfl, rfl, hit', w1, w2, w3, w4, hent⟩
  · refine .inl ⟨rfl, ⟨n8, n9, rfl, ?_⟩, hfw, hfr10⟩
    have hp : vis.Perm (M.map (·.1)) := by simpa using hperm
    rcases hI with ⟨rfl, rfl, rfl⟩ | ⟨h1, h2, h3, h4⟩
    · refine .inl ⟨rfl, rfl, fun hh hx => ?_⟩
      have := hp.mem_iff.2 (hkey' hh hx)
      simp at this
    · exact .inr ⟨hkey _ (hp.mem_iff.1 h2), hkey _ (hp.mem_iff.1 h3), fun hh hx => h4 hh (hp.mem_iff.2 (hkey' hh hx))⟩
  · have hits : s.h.get it = none := r5
    have hito : s10.h.get it ≠ none := by
      obtain ⟨es, ck, sn, _, _, _, _, g, _⟩ := hit
      rw [g]; simp
    have f14 : Frw [] s s14 := hfw.step w1 (fun c hc => by
      have : c = it := by simpa using hc
      rw [this]; exact hits)
    have hfr14 : Fr s14 := hfr10.wr hito w2 w4
    have hperm' : ((vis ++ [hh]) ++ (ra ++ rc).map (·.1)).Perm (M.map (·.1)) := by
      refine List.Perm.trans ?_ hperm
      simp only [List.map_append, List.map_cons, List.append_assoc]
      refine List.Perm.append_left _ ?_
      simpa using List.perm_middle.symm
    have hrng : 0 ≤ hh ∧ hh < 2097152 := by
      obtain ⟨e, he⟩ := hkey hh (hperm.mem_iff.1 (by simp))
      exact hG.hour hh e he
    have next : ∀ lo hi, HrI (vis ++ [hh]) lo hi → ∃ m', m' < (ra ++ (hh, x) :: rc).length ∧ ∃ vis rem, m' = rem.length ∧ IterS hourF s14 it m M rem ∧ (vis ++ rem.map (·.1)).Perm (M.map (·.1)) ∧ HrI vis lo hi ∧ Frw [] s s14 ∧ Fr s14 :=
      fun lo hi hh' => ⟨(ra ++ rc).length, by simp, vis ++ [hh], ra ++ rc, rfl, hit', hperm', hh', f14, hfr14⟩
    refine .inr ⟨hh, x, rfl, hh, x, hent, ?_⟩
    simp only [if_true]
    rw [wrap_i64 (by omega) (by omega)]
    refine bsel_of (fun c => ?_) fun c => bsel_of (fun c2 => ?_) fun c2 => ?_
    · exact next _ _ (hI.next hrng.1 (.inl (by simpa using c)))
    · exact next _ _ (hI.next hrng.1 (.inr (by simpa using c2)))
    · exact next _ _ (hI.same hrng.1 (by simpa using c) (by simpa using c2))
end
end Go.Eng.S

namespace Go.Eng.S
open Go Go.Eng Go.Proofs
set_option linter.constructorNameAsVariable false
noncomputable section
attribute [local irreducible] bsel barsOf mergeB lessB

/-- No more than n low ones come to. -/
structure Bnd (n : Nat) (t : Tal) : Prop where
  a : val2 t.a ≤ n * 79228162532711081667253501952
  b : val2 t.b ≤ n * 79228162532711081667253501952
  c : val2 t.c ≤ n * 79228162532711081667253501952
  l : ∀ i, cnt t.l i ≤ n * 1099511627776
theorem Bnd.zero : Bnd 0 .zero := ⟨by simp [Tal.zero, val2], by simp [Tal.zero, val2], by simp [Tal.zero, val2], fun i => by simp [Tal.zero, cnt]⟩
theorem Bnd.mono {m n : Nat} {t : Tal} (h : Bnd m t) (hmn : m ≤ n) : Bnd n t :=
  ⟨by have := h.a; omega, by have := h.b; omega, by have := h.c; omega, fun i => by have := h.l i; omega⟩
theorem Bnd.plus {m n : Nat} {t u : Tal} (h : Bnd m t) (h' : Bnd n u) (ht : t.Rng) (hu : u.Rng) (ot : t.ok = true) (ou : u.ok = true) : Bnd (m + n) (t.plus u) where
  a := by
    have h1 := h.a; have h2 := h'.a
    show val2 (plusP t.a u.a) ≤ _
    rw [val2_plusP]; split <;> omega
  b := by
    have h1 := h.b; have h2 := h'.b
    show val2 (plusP t.b u.b) ≤ _
    rw [val2_plusP]; split <;> omega
  c := by
    have h1 := h.c; have h2 := h'.c
    show val2 (plusP t.c u.c) ≤ _
    rw [val2_plusP]; split <;> omega
  l := fun i => by
    have h1 := h.l i; have h2 := h'.l i
    show cnt (mergeB t.l u.l) i ≤ _
    rw [cnt_merge ot ou ht.l hu.l]
    unfold sat
    split <;> omega
theorem cnt_le {l : List Bar} {k : Int} (h0 : 0 ≤ k) (h : ∀ p, p ∈ l → p.2 ≤ k) (i : Nat) : cnt l i ≤ k := by
  induction l with
  | nil => simpa [cnt] using h0
  | cons p q ih =>
    simp only [cnt]
    split
    · exact h p (List.mem_cons_self ..)
    · exact ih fun x hx => h x (List.mem_cons_of_mem _ hx)
theorem Bnd.low {t : Tal} (h : Low t) (ht : t.Rng) : Bnd 1 t := by
  have h1 := ht.a.2; have h2 := ht.b.2; have h3 := ht.c.2
  unfold M64 at h1 h2 h3
  obtain ⟨g1, g2, g3, g4⟩ := h
  refine ⟨?_, ?_, ?_, fun i => ?_⟩
  · unfold val2; omega
  · unfold val2; omega
  · unfold val2; omega
  · have := cnt_le (by omega) g4 i; omega
end
end Go.Eng.S

namespace Go.Eng.S
open Go Go.Eng Go.Proofs
set_option linter.constructorNameAsVariable false
noncomputable section
theorem subR_eq : ∀ {l : List Bar} {r : RowF} {last : Int}, -1 ≤ last → okB last l = true → (∀ i, cnt l i ≤ r i) → ∃ r', subR r l = some r' ∧ ∀ i, r' i = r i - cnt l i
  | [], r, _, _, _, _ => ⟨r, rfl, fun i => by simp [cnt]⟩
  | p :: q, r, last, h0, h, hle => by
    simp only [okB, Bool.and_eq_true, decide_eq_true_eq] at h
    obtain ⟨⟨⟨h1, h2⟩, h3⟩, h4⟩ := h
    have hp := hle p.1.toNat
    simp only [cnt, if_true] at hp
    have hn := cnt_none (has_below (l := q) (last := p.1) (i := p.1.toNat) (by omega) h4 (by omega))
    obtain ⟨r', e1, e2⟩ := subR_eq (l := q) (r := upd r p.1.toNat (r p.1.toNat - p.2)) (last := p.1) (by omega) h4 (fun i => by
      by_cases e : i = p.1.toNat
      · subst e; rw [hn]; simp [upd]; omega
      · have := hle i
        simp only [cnt, Ne.symm e, if_false] at this
        simp [upd, e]; exact this)
    refine ⟨r', by simp only [subR]; rw [if_neg (by omega)]; exact e1, fun i => ?_⟩
    rw [e2]
    by_cases e : i = p.1.toNat
    · subst e; simp [upd, cnt, hn]
    · simp [upd, cnt, e, Ne.symm e]

theorem less_merge {a b : List Bar} (ha : okB (-1) a = true) (hb : okB (-1) b = true) (ra : RngB a) (rb : RngB b) (hm : ∀ p, p ∈ mergeB a b → p.2 ≠ M64) : lessB (mergeB a b) b = some a := by
  have hc : ∀ i, fillR zeroR (mergeB a b) i = cnt a i + cnt b i := by
    intro i
    rw [fill_zero mergeB_ok, cnt_merge ha hb ra rb]
    have := merge_high ha hb ra rb hm i
    unfold sat; rw [if_pos (by omega)]
  obtain ⟨r', e1, e2⟩ := subR_eq (r := fillR zeroR (mergeB a b)) (by omega : (-1 : Int) ≤ -1) hb (fun i => by rw [hc]; have := cnt_rng ra i; omega)
  unfold lessB
  rw [e1]
  simp only [Option.map_some]
  have : barsOf r' = barsOf (cnt a) := barsTo_congr fun i _ => by rw [e2, hc]; omega
  rw [this, barsOf_cnt ha ra]

/-- One more in the first number: more than there is. -/
theorem minus_more {t u : Tal} (h : val2 t.a < val2 u.a) : t.minus u = none := by
  unfold Tal.minus
  rw [if_neg]
  unfold leP
  simp; omega
theorem okB_cons' {last : Int} {p : Bar} {r : List Bar} : okB last (p :: r) = true ↔ last < p.1 ∧ p.1 < 1920 ∧ p.2 ≠ 0 ∧ okB p.1 r = true := by
  simp [okB, and_assoc]
theorem cnt_mem : ∀ {l : List Bar} {last : Int} {p : Bar}, -1 ≤ last → okB last l = true → p ∈ l → cnt l p.1.toNat = p.2
  | [], _, _, _, _, h => by simp at h
  | q :: r, last, p, h0, ho, hp => by
    obtain ⟨h1, h2, h3, h4⟩ := (okB_cons' (last := last) (p := q) (r := r)).1 ho
    simp only [cnt]
    rcases List.mem_cons.1 hp with rfl | hp
    · rw [if_pos rfl]
    · have hq := okB_mem h4 p hp
      rw [if_neg (by omega)]
      exact cnt_mem (by omega) h4 hp
/-- Where sums are low, what was put is taken. -/
theorem bnd_back {n : Nat} {t u : Tal} (ht : t.Rng) (hu : u.Rng) (ot : t.ok = true) (ou : u.ok = true) (hB : Bnd n (t.plus u)) (hn : n ≤ 4194304) : (t.plus u).minus u = some t := by
  have ha := hB.a
  have hb := hB.b
  have hc := hB.c
  unfold Tal.minus
  rw [if_pos ⟨plus_ge ht.a hu.a, plus_ge ht.b hu.b, plus_ge ht.c hu.c⟩]
  have hl : lessB (t.plus u).l u.l = some t.l := less_merge ot ou ht.l hu.l fun p hp => by
    have h1 := hB.l p.1.toNat
    have h2 : cnt (t.plus u).l p.1.toNat = p.2 := cnt_mem (last := -1) (by omega) mergeB_ok hp
    rw [h2] at h1
    unfold M64; omega
  rw [hl]
  simp only [Option.map_some]
  have ne : ∀ q : P2, val2 q ≤ n * 79228162532711081667253501952 → q ≠ of2 M128 := fun q hq h => by
    rw [h, val2_of2] at hq
    unfold M128 at hq
    omega
  have e1 : minusP (t.plus u).a u.a = t.a := minus_plus ht.a hu.a (ne _ ha)
  have e2 : minusP (t.plus u).b u.b = t.b := minus_plus ht.b hu.b (ne _ hb)
  have e3 : minusP (t.plus u).c u.c = t.c := minus_plus ht.c hu.c (ne _ hc)
  rw [e1, e2, e3]
/-- As much as there may be is not taken from it. -/
theorem bnd_max {n : Nat} {t u : Tal} (hB : Bnd n t) (hn : n ≤ 4194304) (hu : u.a = (M64, M64)) : t.minus u = none := by
  refine minus_more ?_
  have ha := hB.a
  rw [hu]
  unfold val2 M64 at *
  simp only
  omega
end
end Go.Eng.S

namespace Go.Eng.S
open Go Go.Eng Go.Proofs
set_option linter.constructorNameAsVariable false
noncomputable section
attribute [local irreducible] bsel barsOf mergeB lessB

def talG (p : PutR) : GT := toGT p.tal
/-- What an hour's edge has of puts. -/
def hK : List PutR → Int → Edge → GT
  | [], _, _ => .zero
  | p :: r, h, e => if p.hour = h ∧ p.edge = e then (talG p).plus (hK r h e) else hK r h e
theorem hK_snoc : ∀ (K : List PutR) (c : PutR) (h : Int) (e : Edge), hK (K ++ [c]) h e = if c.hour = h ∧ c.edge = e then (hK K h e).plus (talG c) else hK K h e
  | [], c, h, e => by
    simp only [List.nil_append, hK]
    split
    · exact GT.comm _ _
    · rfl
  | d :: r, c, h, e => by
    simp only [List.cons_append, hK, hK_snoc r c h e]
    by_cases h1 : d.hour = h ∧ d.edge = e
    · rw [if_pos h1, if_pos h1]
      split
      · exact (GT.assoc _ _ _).symm
      · rfl
    · rw [if_neg h1, if_neg h1]
/-- It holds what there was, and puts. -/
def HoldsP (S0 : Int → Edge → GT) (G : RollF) (K : List PutR) : Prop := ∀ h e, G h e = ((S0 h e).plus (hK K h e)).1
/-- A put that can be. -/
structure CanP (p : PutR) : Prop where
  hour : 0 ≤ p.hour ∧ p.hour < 2097152
  ok : p.tal.ok = true
  rng : p.tal.Rng
  low : Low p.tal
theorem talG_val {p : PutR} (h : CanP p) : (talG p).1 = p.tal := toGT_val h.ok h.rng
theorem HoldsP.put {S0 : Int → Edge → GT} {G : RollF} {K : List PutR} (h : HoldsP S0 G K) {p : PutR} (hp : CanP p) : HoldsP S0 (setF G p.hour p.edge ((G p.hour p.edge).plus p.tal)) (K ++ [p]) := by
  intro hh e
  rw [hK_snoc]
  unfold setF
  by_cases h1 : p.hour = hh ∧ p.edge = e
  · rw [if_pos h1, if_pos ⟨h1.1.symm, h1.2.symm⟩, h, h1.1, h1.2, ← GT.assoc]
    show _ = ((S0 hh e).plus (hK K hh e)).1.plus (talG p).1
    rw [talG_val hp]
  · rw [if_neg h1, if_neg (fun h => h1 ⟨h.1.symm, h.2.symm⟩)]
    exact h hh e
/-- The first of them at its place: the rest, and it. -/
theorem HoldsP.head {S0 : Int → Edge → GT} {G : RollF} {K : List PutR} {p : PutR} (h : HoldsP S0 G (p :: K)) (hp : CanP p) : G p.hour p.edge = ((S0 p.hour p.edge).plus (hK K p.hour p.edge)).1.plus p.tal := by
  rw [h]
  simp only [hK, and_self, if_true]
  rw [GT.comm (talG p), ← GT.assoc]
  show _ = _
  rw [← talG_val hp]
  rfl
theorem HoldsP.take {S0 : Int → Edge → GT} {G : RollF} {K : List PutR} {p : PutR} (h : HoldsP S0 G (p :: K)) : HoldsP S0 (setF G p.hour p.edge ((S0 p.hour p.edge).plus (hK K p.hour p.edge)).1) K := by
  intro hh e
  unfold setF
  by_cases h1 : hh = p.hour ∧ e = p.edge
  · rw [if_pos h1, h1.1, h1.2]
  · rw [if_neg h1, h]
    simp only [hK]
    rw [if_neg fun c => h1 ⟨c.1.symm, c.2.symm⟩]
theorem hK_bnd {K : List PutR} (hK0 : ∀ p, p ∈ K → CanP p) (h : Int) (e : Edge) : Bnd K.length (hK K h e).1 := by
  induction K with
  | nil => exact .zero
  | cons p r ih =>
    have ih := ih fun q hq => hK0 q (List.mem_cons_of_mem _ hq)
    have hp := hK0 p (List.mem_cons_self ..)
    simp only [hK]
    split
    · have h1 : Bnd 1 (talG p).1 := by rw [talG_val hp]; exact .low hp.low hp.rng
      have := h1.plus ih (talG p).2.2 (hK r h e).2.2 (talG p).2.1 (hK r h e).2.1
      rw [List.length_cons, Nat.add_comm]
      exact this
    · exact ih.mono (by rw [List.length_cons]; omega)
/-- The first of them is taken. -/
theorem take_head {S0 : Int → Edge → GT} {G : RollF} {K : List PutR} {p : PutR} {n0 : Nat} (h : HoldsP S0 G (p :: K)) (hc : ∀ q, q ∈ p :: K → CanP q) (hB : ∀ h e, Bnd n0 (S0 h e).1) (hn : n0 + (K.length + 1) ≤ 4194304) :
    (takeR G p.hour p.edge p.tal).2 = 0 ∧ HoldsP S0 (takeR G p.hour p.edge p.tal).1 K := by
  have hp := hc p (List.mem_cons_self ..)
  have hG := h.head hp
  have hb : Bnd (n0 + (K.length + 1)) (G p.hour p.edge) := by
    rw [h]
    exact (hB _ _).plus (hK_bnd (K := p :: K) hc _ _) (S0 _ _).2.2 (hK _ _ _).2.2 (S0 _ _).2.1 (hK _ _ _).2.1
  rw [hG] at hb
  have hm := bnd_back ((S0 p.hour p.edge).plus (hK K p.hour p.edge)).2.2 hp.rng ((S0 p.hour p.edge).plus (hK K p.hour p.edge)).2.1 hp.ok hb hn
  unfold takeR
  rw [if_pos hp.hour, if_pos hp.ok, hG, hm]
  exact ⟨rfl, h.take⟩
end
end Go.Eng.S

namespace Go.Eng.S
open Go Go.Eng Go.Proofs
set_option linter.constructorNameAsVariable false
noncomputable section
attribute [local irreducible] bsel barsOf mergeB lessB

theorem putG_good {G : RollF} (hG : RollG G) {p : PutR} (hr : p.tal.Rng) : RollG (putG G p) := by
  unfold putG putR
  split
  · rename_i h
    split
    · exact hG.set mergeB_ok ((hG.rng _ _).plus hr) h
    · exact hG
  · exact hG
theorem putG_bnd {G : RollF} (hG : RollG G) {p : PutR} (hr : p.tal.Rng) (hl : Low p.tal) {n : Nat} (hB : ∀ h e, Bnd n (G h e)) (h : Int) (e : Edge) : Bnd (n + 1) (putG G p h e) := by
  unfold putG putR
  split
  · split
    · rename_i ho
      show Bnd (n + 1) (setF G p.hour p.edge ((G p.hour p.edge).plus p.tal) h e)
      unfold setF
      split
      · exact (hB _ _).plus (.low hl hr) (hG.rng _ _) hr (hG.ok _ _) ho
      · exact (hB h e).mono (by omega)
    · exact (hB h e).mono (by omega)
  · exact (hB h e).mono (by omega)
theorem fillG_bnd : ∀ {l : List PutR} {G : RollF} {n : Nat}, RollG G → (∀ p, p ∈ l → p.tal.Rng ∧ Low p.tal) → (∀ h e, Bnd n (G h e)) → RollG (fillG G l) ∧ ∀ h e, Bnd (n + l.length) (fillG G l h e)
  | [], _, _, hG, _, hB => ⟨hG, hB⟩
  | p :: r, G, n, hG, hl, hB => by
    have hp := hl p (List.mem_cons_self ..)
    obtain ⟨h1, h2⟩ := fillG_bnd (l := r) (n := n + 1) (putG_good hG hp.1) (fun q hq => hl q (List.mem_cons_of_mem _ hq)) (putG_bnd hG hp.1 hp.2 hB)
    refine ⟨h1, fun h e => ?_⟩
    have := h2 h e
    rw [List.length_cons]
    rw [show n + (r.length + 1) = n + 1 + r.length by omega]
    exact this
theorem low_fill {l : List PutR} (hl : ∀ p, p ∈ l → p.tal.Rng ∧ Low p.tal) (h : Int) (e : Edge) : Bnd l.length (fillG zeroF l h e) := by
  have := (fillG_bnd (n := 0) RollG.zero hl fun _ _ => .zero).2 h e
  rwa [Nat.zero_add] at this
end
end Go.Eng.S

namespace Go.Eng.S
open Go Go.Eng Go.Proofs
set_option linter.constructorNameAsVariable false
set_option maxRecDepth 4000
noncomputable section
attribute [local irreducible] bsel barsOf mergeB lessB

/-- The puts that are held so far; s: what there was at first, sB: ahead of the loop. -/
structure HeldI (s sB : St) (fpB : List Nat) (r : Nat) (fan : Int) (S0 : Int → Edge → GT) (E0 : List Edge) (l2 : List PutR) (x : AV) (s' : St) (k : Nat) (K : List PutR) (G : RollF) (fp : List Nat) : Prop where
  so : So putE s' x K
  new : ∀ c, c ∈ blkOf x → sB.h.get c = none
  roll : RollO s s' r fan G fp
  sub : ∀ c, c ∈ fp → c ∈ fpB ∨ sB.h.get c = none
  sep : ∀ c, c ∈ blkOf x → c ∉ fp
  holds : HoldsP S0 G K
  can : ∀ p, p ∈ K → CanP p
  mem : ∀ p, p ∈ K → p ∈ l2
  frw : Frw fpB sB s'
  fr0 : Frw [] s s'
  frs : Fr s'
  len : K.length ≤ k
  edges : ∀ h e, G h e ≠ .zero → e ∈ E0
theorem HeldI.ext {s sB : St} {fpB : List Nat} {r : Nat} {fan : Int} {S0 : Int → Edge → GT} {E0 : List Edge} {l2 : List PutR} {x : AV} {s1 s2 : St} {k : Nat} {K : List PutR} {G : RollF} {fp : List Nat} (h : HeldI s sB fpB r fan S0 E0 l2 x s1 k K G fp) (f : Frw [] s1 s2) (hfr : Fr s2) : HeldI s sB fpB r fan S0 E0 l2 x s2 k K G fp where
  so := h.so.ext f
  new := h.new
  roll := h.roll.ext f
  sub := h.sub
  sep := h.sep
  holds := h.holds
  can := h.can
  mem := h.mem
  frw := h.frw.trans (f.mono (by simp))
  fr0 := h.fr0.trans f
  frs := hfr
  len := h.len
  edges := h.edges
/-- Behind a put. -/
theorem HeldI.putd {s sB : St} {fpB : List Nat} {r : Nat} {fan : Int} {S0 : Int → Edge → GT} {E0 : List Edge} {l2 : List PutR} {x : AV} {s1 s2 : St} {k : Nat} {K : List PutR} {G : RollF} {fp fp' : List Nat} (h : HeldI s sB fpB r fan S0 E0 l2 x s1 k K G fp) {G' : RollF} (hR : RollO s s2 r fan G' fp') (hs : ∀ c, c ∈ fp' → c ∈ fp ∨ s1.h.get c = none) (f0 : Frw [] s s2) (f : Frw fp s1 s2) (hfr : Fr s2) (hB : Frw fpB sB s1) :
    So putE s2 x K ∧ (∀ c, c ∈ blkOf x → c ∉ fp') ∧ (∀ c, c ∈ fp' → c ∈ fpB ∨ sB.h.get c = none) ∧ Frw fpB sB s2 := by
  refine ⟨So.beside h.so f fun c hc hcx => h.sep c hcx hc, fun c hc hcf => ?_, fun c hc => ?_, ⟨fun c o hc ho => f.1 c o (fun hcf => ?_) (hB.1 c o hc ho), Nat.le_trans hB.2.1 f.2.1, f.2.2.trans hB.2.2⟩⟩
  · rcases hs c hcf with h1 | h1
    · exact h.sep c hc h1
    · exact h.so.there c hc h1
  · rcases hs c hc with h1 | h1
    · exact h.sub c h1
    · by_cases c1 : c ∈ fpB
      · exact .inl c1
      · exact .inr (hB.none h1 c1)
  · rcases h.sub c hcf with h1 | h1
    · exact hc h1
    · rw [h1] at ho; simp at ho
end
end Go.Eng.S

namespace Go.Eng.S
open Go Go.Eng Go.Proofs
set_option linter.constructorNameAsVariable false
set_option maxRecDepth 4000
noncomputable section
attribute [local irreducible] bsel barsOf mergeB lessB

theorem szE {n : Nat} (h : n ≤ 2097152) : (n + 1 + (n + 1) / 4 + 600) * 104 ≤ pow48 := by unfold pow48; omega
theorem sz112 {n : Nat} (h : n ≤ 2097152) : (n + 1 + (n + 1) / 4 + 600) * 112 ≤ pow48 := by unfold pow48; omega
theorem sz1 {n : Nat} (h : n ≤ 2097152) : n + 1 ≤ pow48 := by unfold pow48; omega

theorem take_step {s0 s : St} {r : Nat} {fan : Int} {G : RollF} {fp : List Nat} (h : RollO s0 s r fan G fp) (f0 : Frw [] s0 s) {hh : Int} {e : Edge} {t : Tal} {y : AV} (hy : Sl barE s y t.l) (hr : t.Rng) :
    CallsD P F.p_rollup_Rollup_Take [.ptr r 0, .int .i64 hh, edgeF e, t.V y] s fun v s' => (v = .int .i64 (takeR G hh e t).2 ∧ ∃ fp', RollO s0 s' r fan (takeR G hh e t).1 fp' ∧ (∀ c, c ∈ fp' → c ∈ fp ∨ s.h.get c = none)) ∧ Frw [] s0 s' ∧ Frw fp s s' ∧ Fr s' := by
  refine (Take_ok (hh := hh) (e := e) h.roll hy hr).mono ?_
  rintro v s' ⟨⟨⟨rfl, fp', q1, q2, q3⟩, g⟩, hfr⟩
  obtain ⟨fp2, hR2, hsub, hth⟩ := q1.trim
  refine ⟨⟨rfl, fp2, ⟨hR2, fun c hc => ?_, hth⟩, fun c hc => q3 c (hsub c hc)⟩, f0.step g h.new, g, hfr⟩
  rcases q3 c (hsub c hc) with h1 | h1
  · exact h.new c h1
  · exact f0.none h1 (by simp)
theorem moved {sB s1 s2 : St} {fpB fp fp' : List Nat} {x : AV} {K : List PutR} (hso : So putE s1 x K) (hsep : ∀ c, c ∈ blkOf x → c ∉ fp) (hsub : ∀ c, c ∈ fp → c ∈ fpB ∨ sB.h.get c = none) (hs : ∀ c, c ∈ fp' → c ∈ fp ∨ s1.h.get c = none) (f : Frw fp s1 s2) (hB : Frw fpB sB s1) :
    So putE s2 x K ∧ (∀ c, c ∈ blkOf x → c ∉ fp') ∧ (∀ c, c ∈ fp' → c ∈ fpB ∨ sB.h.get c = none) ∧ Frw fpB sB s2 := by
  refine ⟨So.beside hso f fun c hc hcx => hsep c hcx hc, fun c hc hcf => ?_, fun c hc => ?_, ⟨fun c o hc ho => f.1 c o (fun hcf => ?_) (hB.1 c o hc ho), Nat.le_trans hB.2.1 f.2.1, f.2.2.trans hB.2.2⟩⟩
  · rcases hs c hcf with h1 | h1
    · exact hsep c hc h1
    · exact hso.there c hc h1
  · rcases hs c hc with h1 | h1
    · exact hsub c h1
    · by_cases c1 : c ∈ fpB
      · exact .inl c1
      · exact .inr (hB.none h1 c1)
  · rcases hsub c hcf with h1 | h1
    · exact hc h1
    · rw [h1] at ho; simp at ho
/-- The greatest first pair. -/
def maxT (t : Tal) : Tal := { t with a := (M64, M64) }
theorem maxT_rng {t : Tal} (h : t.Rng) : (maxT t).Rng := ⟨⟨⟨by simp [maxT, M64], by simp [maxT]⟩, by simp [maxT, M64], by simp [maxT]⟩, h.b, h.c, h.l⟩

set_option maxHeartbeats 1000000 in
theorem RollupBack_ok {s : St} {fan : Int} {l1 l2 : List PutR} {x1 x2 : AV} (hx1 : Sl putE s x1 l1) (hp1 : ∀ p, p ∈ l1 → FineP s p) (hx2 : Sl putE s x2 l2) (hp2 : ∀ p, p ∈ l2 → FineP s p)
    (hn1 : l1.length < 9223372036854775808) (hn2 : l2.length < 9223372036854775808) (hbl1 : ∀ p, p ∈ l1 → p.tal.l.length < 9223372036854775808) (hbl2 : ∀ p, p ∈ l2 → p.tal.l.length < 9223372036854775808) :
    CallsA P F.spoorlaw15_RollupBack [.int .i64 fan, x1, x2] s fun v _ => v = .bool true := by
  refine vc.spoorlaw15_RollupBack_ok ((alive_ok s).mono ?_)
  rintro _ s2 ⟨rfl, rfl⟩
  refine ⟨true, rfl, (filled_ok (fan := fan) hx1 hp1 hn1).a.mono ?_⟩
  rintro v s5 ⟨⟨hv, f5⟩, hfr5⟩
  split at hv
  · rename_i hfan
    obtain ⟨r, fp0, rfl, hRO⟩ := hv
    refine ⟨.ptr r 0, rfl, bsel_of (fun c => by simp at c) fun _ => nilK_ptr (bsel_of (fun c => by simp at c) fun _ => ?_)⟩
    refine (room_ok (hx1.ext f5) (fun p hp => (hp1 p hp).ext f5) hn1 hbl1).a.mono ?_
    rintro _ s9 ⟨⟨c1, rfl, hc1⟩, f9, hfr9⟩
    refine ⟨c1, rfl, bsel_of (fun _ => rfl) fun cc1 => ?_⟩
    obtain ⟨hl1, hlow1⟩ := hc1 (by simpa using cc1)
    refine (room_ok (hx2.ext (f5.trans f9)) (fun p hp => (hp2 p hp).ext (f5.trans f9)) hn2 hbl2).a.mono ?_
    rintro _ s12 ⟨⟨c2, rfl, hc2⟩, f12, hfr12⟩
    refine ⟨c2, rfl, bsel_of (fun _ => rfl) fun cc2 => ?_⟩
    obtain ⟨hl2, hlow2⟩ := hc2 (by simpa using cc2)
    have f0_12 := (f5.trans f9).trans f12
    have hRO12 := (hRO.ext f9).ext f12
    have hG := hRO12.roll.good
    have hE1 : ∀ h e, fillG zeroF l1 h e ≠ .zero → e ∈ l1.map (·.edge) ++ l2.map (·.edge) := fun h e hn => by
      rcases fillG_ne hn with h1 | h1
      · exact absurd rfl h1
      · exact List.mem_append_left _ h1
    have hEl : (l1.map (·.edge) ++ l2.map (·.edge)).length ≤ 2097152 := by simp only [List.length_append, List.length_map]; omega
    have hE2 : ∀ p, p ∈ l2 → p.edge ∈ l1.map (·.edge) ++ l2.map (·.edge) := fun p hp => List.mem_append_right _ (List.mem_map.2 ⟨p, hp, rfl⟩)
    have hb1 := szE hEl
    have hBnd := low_fill fun p hp => ⟨(hp1 p hp).rng, hlow1 p hp⟩
    generalize l1.map (·.edge) ++ l2.map (·.edge) = E0 at hE1 hEl hE2 hb1
    generalize hGG : fillG zeroF l1 = G0 at hRO12 hG hE1 hBnd
    refine (edges_ok hRO12.roll (a := 0) (b := 2097152) hE1 hb1).mono ?_
    rintro v14 s15 ⟨⟨L16, k1, k2⟩, f15, hfr15⟩
    refine ⟨v14, rfl, (Hours_ok (hRO12.roll.ext f15)).mono ?_⟩
    rintro _ s18 ⟨⟨lo, hi, rfl, hH⟩, f18, hfr18⟩
    have hR18 := (hRO12.ext f15).ext f18
    have f0_18 := (f0_12.trans f15).trans f18
    refine ⟨lo, hi, rfl, ?_⟩
    refine ⟨fun x23 n24 s25 m => ∃ (k : Nat) (K : List PutR) (G : RollF) (fp : List Nat), n24 = k ∧ m = l2.length - k ∧ k ≤ l2.length ∧ HeldI s2 s18 fp0 r fan (gF G0 hG) E0 l2 x23 s25 k K G fp, ⟨_, 0, [], G0, fp0, rfl, rfl, by omega, ⟨.nil _ _, by simp [blkOf], hR18, fun c hc => .inl hc, by simp [blkOf], fun h e => by simp only [hK, GT.plus_zero]; rfl, by simp, by simp, .refl _ _, f0_18, hfr18, by simp, hE1⟩⟩, ?_⟩
    rintro x23 _ s25 _ ⟨k, K, G, fp, rfl, rfl, hk, hI⟩
    have hx25 := hx2.ext hI.fr0
    refine hx25.slen (bsel_of (fun c => ?_) fun c => ?_)
    · have c : k < l2.length := by simpa using c
      have hpk := hp2 _ (List.getElem_mem c)
      have wk := wrap_succ (k := k) (by omega)
      intro s28 hB
      have hI28 := hI.ext hB.fwd hB.fr
      have hx28 := hx25.ext hB.fwd
      refine hx28.ixs rfl rfl c fun b1 o1 hR1 => ⟨_, hR1.ld1 0 rfl, hx28.ixs rfl rfl c fun b2 o2 hR2 => ⟨_, _, hR2.ldN 1 2 (by simp [putE, putF]), hx28.ixs rfl rfl c fun b3 o3 hR3 => ⟨_, _, _, _, _, _, l2[k].bars, hR3.ldN 3 7 (by simp [putE, putF]), ?_⟩⟩⟩
      refine (put_step (p := l2[k]) hI28.roll hI28.fr0 (hpk.ext hI28.fr0)).mono ?_
      rintro _ s46 ⟨⟨rfl, fp', h1, h2⟩, h3, h4, h5⟩
      obtain ⟨q1, q2, q3, q4⟩ := hI28.putd h1 h2 h3 h4 h5 hI28.frw
      have hlK := hI.len
      have hed : ∀ h e, putG G l2[k] h e ≠ .zero → e ∈ E0 := fun h e hn => by
        rcases putG_ne hn with h6 | h6
        · exact hI.edges h e h6
        · rw [h6]; exact hE2 _ (List.getElem_mem c)
      refine ⟨_, rfl, bsel_of (fun cz => ?_) fun cz => ?_⟩
      · have hcan : CanP l2[k] := by
          unfold putR at cz
          split at cz
          · rename_i hin
            split at cz
            · rename_i hok
              exact ⟨hin, hok, hpk.rng, hlow2 _ (List.getElem_mem c)⟩
            · simp at cz
          · simp at cz
        have hput : putG G l2[k] = setF G l2[k].hour l2[k].edge ((G l2[k].hour l2[k].edge).plus l2[k].tal) := by
          unfold putG putR; rw [if_pos hcan.hour, if_pos hcan.ok]
        have hx46 := hx2.ext h3
        refine hx46.ixs rfl rfl c fun b4 o4 hR4 => ⟨_, _, _, _, _, _, _, _, _, l2[k].bars, hR4.all rfl, ?_⟩
        intro m60 s61 hN
        have hb46 := hpk.bar.ext h3
        have hone : ones (putF l2[k]) = true := by have := hb46.onesx []; simpa [putF, ones] using this
        obtain ⟨x62, s63, p1, p2, p3, p4, p5, p6⟩ := So.append' (a := l2[k]) (q1.ext hN.fwd) ty.sl_spoorlaw15_Put rfl ty.spoorlaw15_Put rfl rfl rfl hone hN.own.rd rfl (sz112 (n := K.length) (by omega)) (sz1 (n := K.length) (by omega)) hN.fr
        refine ⟨x62, s63, p1, l2.length - (k + 1), by omega, k + 1, K ++ [l2[k]], putG G l2[k], fp', wk, rfl, by omega, ⟨p2, fun d hd => ?_, ⟨(h1.roll.ext hN.fwd).fwd p3 q2, h1.new, fun d hd => p3.gone (hN.fwd.gone (h1.there d hd) (by simp)) fun hdx => q2 d hdx hd⟩, q3, fun d hd hdf => ?_, by rw [hput]; exact hI.holds.put hcan, fun p hp => ?_, fun p hp => ?_, (q4.trans (hN.fwd.mono (by simp))).step' p3 hI.new, (h3.trans hN.fwd).step p3 (fun d hd => f0_18.none (hI.new d hd) (by simp)), p5, ?_, hed⟩⟩
        · rw [p4] at hd
          have : d = s61.nx := by simpa using hd
          rw [this]
          refine hfr18 _ ?_
          have e1 := q4.2.1
          have e2 := hN.fwd.2.1
          omega
        · rw [p4] at hd
          have : d = s61.nx := by simpa using hd
          exact Fr.ne hN.fr (hN.fwd.gone (h1.there d hdf) (by simp)) this
        · rcases List.mem_append.1 hp with hp | hp
          · exact hI.can p hp
          · have : p = l2[k] := by simpa using hp
            rw [this]; exact hcan
        · rcases List.mem_append.1 hp with hp | hp
          · exact hI.mem p hp
          · have : p = l2[k] := by simpa using hp
            rw [this]; exact List.getElem_mem c
        · rw [List.length_append, List.length_singleton]; omega
      · have hput : putG G l2[k] = G := by
          unfold putG
          unfold putR at cz ⊢
          split at cz
          · rename_i hin
            split at cz
            · simp at cz
            · rename_i hok
              rw [if_pos hin, if_neg hok]
          · rename_i hin
            rw [if_neg hin]
        rw [hput] at h1
        exact ⟨l2.length - (k + 1), by omega, k + 1, K, G, fp', wk, rfl, by omega, ⟨q1, hI.new, h1, q3, q2, hI.holds, hI.can, hI.mem, q4, h3, h5, by omega, hI.edges⟩⟩
    · have c : k = l2.length := by simp at c; omega
      have hG0 : ∀ h e, Bnd l1.length (gF G0 hG h e).1 := hBnd
      have hlK := hI.len
      have hbndG : ∀ h e, Bnd (l1.length + K.length) (G h e) := fun h e => by
        rw [hI.holds]
        exact (hG0 h e).plus (hK_bnd hI.can h e) (gF G0 hG h e).2.2 (hK K h e).2.2 (gF G0 hG h e).2.1 (hK K h e).2.1
      refine hI.so.sl.slen ?_
      refine ⟨fun n69 s70 m => ∃ (j : Nat) (fp : List Nat), n69 = (j : Int) - 1 ∧ m = j ∧ j ≤ K.length ∧ HeldI s2 s18 fp0 r fan (gF G0 hG) E0 l2 x23 s70 l2.length K G fp, ⟨_, K.length, fp, wrap_i64 (by omega) (by omega), rfl, by omega, by rw [c] at hI; exact hI⟩, ?_⟩
      rintro _ s70 j ⟨_, fpj, rfl, rfl, hj, hI70⟩
      refine bsel_of (fun cj => ?_) fun cj => ?_
      · have cj : 1 ≤ j := by simp at cj; omega
        have hjl : j - 1 < K.length := by omega
        have hidx : (j : Int) - 1 = ((j - 1 : Nat) : Int) := by omega
        have hcan := hI.can K[j - 1] (List.getElem_mem hjl)
        have hmem := hI.mem K[j - 1] (List.getElem_mem hjl)
        intro s72 hB
        have hI72 := hI70.ext hB.fwd hB.fr
        have hsl72 := hI72.so.sl
        refine hsl72.ixs rfl hidx hjl fun b1 o1 hR1 => ⟨_, hR1.ld1 0 rfl, hsl72.ixs rfl hidx hjl fun b2 o2 hR2 => ⟨_, hR2.ld1 0 rfl, ?_⟩⟩
        have hh := hcan.hour
        rw [wrap_i64 (a := K[j - 1].hour + 1) (by omega) (by omega)]
        refine (edges_okD hI72.roll.roll (a := K[j - 1].hour) (b := K[j - 1].hour + 1) hI.edges hb1).mono ?_
        rintro v79 s80 ⟨⟨⟨L79, m1, m2⟩, f80⟩, hfr80⟩
        have hsl80 := hsl72.ext f80
        refine ⟨v79, rfl, hsl80.ixs rfl hidx hjl fun b3 o3 hR3 => ⟨_, _, _, _, _, _, K[j - 1].bars, hR3.ldN 3 7 (by simp [putE, putF]), ?_⟩⟩
        intro m91 s92 h92
        have hfine := hp2 _ hmem
        have hbar80 := hfine.bar.ext (hI72.fr0.trans f80)
        obtain ⟨s93, w1, w2, w3, w4, w5, w6⟩ := h92.own.wrAll (K[j - 1].tal.C K[j - 1].bars) (hbar80.onesx []) rfl
        obtain ⟨s94, u1, u2, u3, u4, u5, u6⟩ := w2.wrN 0 [.int .u64 18446744073709551615, .int .u64 18446744073709551615] rfl (by simp [Tal.C])
        refine ⟨s93, w1, s94, u1, ?_⟩
        have g94 : Frw [] s80 s94 := (h92.fwd.step w3 (by simpa using h92.gone)).step u3 (by simpa using h92.gone)
        have hfr94 : Fr s94 := (h92.fr.wr h92.own.there w4 w6).wr w2.there u4 u6
        intro s95 hB2
        have g95 := (f80.trans g94).trans hB2.fwd
        have hI95 := hI72.ext g95 hB2.fr
        have hsl95 := hI95.so.sl
        have o91 := u2.ext hB2.fwd
        refine hsl95.ixs rfl hidx hjl fun b4 o4 hR4 => ⟨_, hR4.ld1 0 rfl, hsl95.ixs rfl hidx hjl fun b5 o5 hR5 => ⟨_, _, hR5.ldN 1 2 (by simp [putE, putF]), _, _, _, _, _, _, K[j - 1].bars, o91.all rfl, ?_⟩⟩
        have hbar95 := hfine.bar.ext hI95.fr0
        refine (take_step hI95.roll hI95.fr0 (hh := K[j - 1].hour) (e := K[j - 1].edge) (t := maxT K[j - 1].tal) hbar95 (maxT_rng hfine.rng)).mono ?_
        rintro _ s111 ⟨⟨rfl, fp', t1, t2⟩, t3, t4, t5⟩
        have hnone : (G K[j - 1].hour K[j - 1].edge).minus (maxT K[j - 1].tal) = none := bnd_max (hbndG _ _) (by omega) rfl
        have htk : takeR G K[j - 1].hour K[j - 1].edge (maxT K[j - 1].tal) = (G, 152) := by
          unfold takeR; rw [if_pos hcan.hour, if_pos (show (maxT K[j - 1].tal).ok = true from hcan.ok), hnone]
        rw [htk] at t1 ⊢
        refine ⟨152, rfl, bsel_of (fun c => by simp at c) fun _ => ?_⟩
        obtain ⟨q1, q2, q3, q4⟩ := hI95.putd t1 t2 t3 t4 t5 hI95.frw
        have hI111 : HeldI s2 s18 fp0 r fan (gF G0 hG) E0 l2 x23 s111 l2.length K G fp' := ⟨q1, hI95.new, t1, q3, q2, hI.holds, hI.can, hI.mem, q4, t3, t5, hI95.len, hI.edges⟩
        have hsl111 := q1.sl
        refine hsl111.ixs rfl hidx hjl fun b6 o6 hR6 => ⟨_, hR6.ld1 0 rfl, hsl111.ixs rfl hidx hjl fun b7 o7 hR7 => ⟨_, hR7.ld1 0 rfl, ?_⟩⟩
        rw [wrap_i64 (a := K[j - 1].hour + 1) (by omega) (by omega)]
        refine (edges_okD t1.roll (a := K[j - 1].hour) (b := K[j - 1].hour + 1) hI.edges hb1).mono ?_
        rintro v119 s120 ⟨⟨⟨L119, y1, y2⟩, f120⟩, hfr120⟩
        have m80 : EtS s72 s120 v79 L79 := ((m1.ext (g94.trans hB2.fwd)).fwd t4 (fun c hc => hI72.roll.there c hc)).ext f120
        have yl := told_lenS y2 (sumR_ne hI.edges)
        rw [etP_len] at yl
        refine ⟨v119, rfl, (SameEdges_ok y1.so.sl m80.so.sl (fun y hy => (y1.bars y hy).1) (fun y hy => (m80.bars y hy).1) (y2.unique m2) (by omega) (told_bars y2)).mono ?_⟩
        rintro _ s123 ⟨⟨rfl, f123⟩, hfr123⟩
        exact ⟨true, rfl, bsel_of (fun c => by simp at c) fun _ => ⟨j - 1, by omega, j - 1, fp', by rw [wrap_i64 (by omega) (by omega)]; omega, rfl, by omega, hI111.ext (f120.trans f123) hfr123⟩⟩
      · refine ⟨fun n128 s129 m => ∃ (k : Nat) (fp : List Nat) (G' : RollF), n128 = k ∧ m = K.length - k ∧ k ≤ K.length ∧ So putE s129 x23 K ∧ RollO s2 s129 r fan G' fp ∧ (∀ c, c ∈ fp → c ∈ fp0 ∨ s18.h.get c = none) ∧ (∀ c, c ∈ blkOf x23 → c ∉ fp) ∧ HoldsP (gF G0 hG) G' (K.drop k) ∧ Frw fp0 s18 s129 ∧ Frw [] s2 s129 ∧ Fr s129, ⟨_, 0, fpj, G, rfl, rfl, by omega, hI70.so, hI70.roll, hI70.sub, hI70.sep, hI.holds, hI70.frw, hI70.fr0, hI70.frs⟩, ?_⟩
        rintro _ s129 _ ⟨k, fpk, G', rfl, rfl, hk3, z1, z2, z3, z4, z5, z6, z7, z8⟩
        refine z1.sl.slen (bsel_of (fun ck => ?_) fun ck => ?_)
        · have ck : k < K.length := by simpa using ck
          have wk := wrap_succ (k := k) (by omega)
          have hmem := hI.mem K[k] (List.getElem_mem ck)
          rw [drop_at ck] at z5
          intro s132 hB
          have z1' := z1.ext hB.fwd
          have hsl := z1'.sl
          refine hsl.ixs rfl rfl ck fun b1 o1 hR1 => ⟨_, hR1.ld1 0 rfl, hsl.ixs rfl rfl ck fun b2 o2 hR2 => ⟨_, _, hR2.ldN 1 2 (by simp [putE, putF]), hsl.ixs rfl rfl ck fun b3 o3 hR3 => ⟨_, _, _, _, _, _, K[k].bars, hR3.ldN 3 7 (by simp [putE, putF]), ?_⟩⟩⟩
          have f132 := z7.trans hB.fwd
          refine (take_step (z2.ext hB.fwd) f132 (hh := K[k].hour) (e := K[k].edge) (t := K[k].tal) ((hp2 _ hmem).bar.ext f132) (hp2 _ hmem).rng).mono ?_
          rintro _ s150 ⟨⟨rfl, fp', t1, t2⟩, t3, t4, t5⟩
          obtain ⟨th1, th2⟩ := take_head z5 (fun q hq => hI.can q (by
            rw [← drop_at ck] at hq
            exact List.mem_of_mem_drop hq)) hG0 (by rw [List.length_drop]; omega)
          obtain ⟨q1, q2, q3, q4⟩ := moved z1' z4 z3 t2 t4 (z6.trans (hB.fwd.mono (by simp)))
          rw [th1]
          exact ⟨0, rfl, bsel_of (fun c => by simp at c) fun _ => ⟨K.length - (k + 1), by omega, k + 1, fp', _, wk, rfl, by omega, q1, t1, q3, q2, th2, q4, t3, t5⟩⟩
        · have ck : k = K.length := by simp at ck; omega
          rw [ck, List.drop_length] at z5
          have hGG' : G' = G0 := by
            funext h e
            rw [z5 h e]
            simp only [hK, GT.plus_zero]
            rfl
          subst hGG'
          refine (Hours_ok z2.roll).mono ?_
          rintro _ s154 ⟨⟨lo', hi', rfl, hH'⟩, f154, hfr154⟩
          obtain ⟨e1, e2⟩ := hH'.unique hH
          subst e1; subst e2
          refine ⟨lo', hi', rfl, bsel_of (fun _ => bsel_of (fun _ => ?_) fun c => by simp at c) fun c => by simp at c⟩
          refine (edges_ok (z2.roll.ext f154) (a := 0) (b := 2097152) hE1 hb1).mono ?_
          rintro v157 s158 ⟨⟨L159, y1, y2⟩, f158, hfr158⟩
          have k158 : EtS s12 s158 v14 L16 := (((k1.et.ext f18).fwd z6 fun c hc => hRO12.there c hc).ext f154).ext f158
          have yl := told_lenS y2 (sumR_ne hE1)
          rw [etP_len] at yl
          refine ⟨v157, rfl, (SameEdges_ok y1.et.so.sl k158.so.sl (fun y hy => (y1.et.bars y hy).1) (fun y hy => (k158.bars y hy).1) (y2.unique k2) (by omega) (told_bars y2)).a.mono ?_⟩
          rintro _ _ ⟨⟨rfl, _⟩, _⟩
          exact ⟨true, rfl, rfl⟩
  · rename_i hfan
    subst hv
    refine ⟨.nilptr, rfl, bsel_of (fun c => by simp at c) fun _ => nilK_nilptr (bsel_of (fun _ => bsel_of (fun _ => bsel_of (fun _ => rfl) fun c1 => ?_) fun c => by simp at c) fun c => by simp at c)⟩
    simp only [decide_eq_false_iff_not] at c1
    have : fan > 16 := by omega
    simp [this]
end
end Go.Eng.S

namespace Go.Eng.S
open Go Go.Eng Go.Proofs
noncomputable section
variable {H : Type} {enc : TypeId × Value → H} {w : World} {base : Nat} {held : Bool} {fuel fuel' : Nat}
theorem maxLen_lt {n : Nat} (h : n ≤ maxLen) : n < 9223372036854775808 := Nat.lt_of_le_of_lt h (by decide)
theorem RollupBack_walk {fan : Int} {v u : Value} {x y : DataW H × List MemPlace} (h : DataW.trod enc P w base (fun _ => true) held fuel T.sl_spoorlaw15_Put [v] = some x) (h' : DataW.trod enc P w base (fun _ => true) held fuel' T.sl_spoorlaw15_Put [u] = some y) :
    Calls P F.spoorlaw15_RollupBack #[.int .i64 fan, v, u] w fun e w' => e = .returned (.bool true) ∧ Kept w w' := by
  obtain ⟨a, l, h1, h2, h3, _, h4, h5⟩ := puts_read h
  obtain ⟨b, m, k1, k2, k3, _, k4, k5⟩ := puts_read h'
  exact CallsA.top (RollupBack_ok h2 h3 k2 k3 (maxLen_lt h4) (maxLen_lt k4) (fun p hp => maxLen_lt (h5 p hp)) (fun p hp => maxLen_lt (k5 p hp))) (.cons (.int _ _) (.cons (absV_ok h1) (.cons (absV_ok k1) .nil)))
end
end Go.Eng.S

