/-
  Spans as a row hands them in.
  'ForestRings', 'ForestMore': the walks.
-/
import Derived.Test.YtapfgpnolcjbbaaDoorSGftoSGo
import Derived.Test.YtapfgpnolcjbbaaDoorW35to37
import Derived.Test.YtapfgpnolcjbbaaDoorW15to27
import Derived.Test.YtapfgpnolcjbbaaDoorW13to14
set_option linter.unusedVariables false
set_option linter.unusedSimpArgs false
namespace Go.Eng.S
open Go Go.Eng Go.Proofs
set_option linter.constructorNameAsVariable false
noncomputable section
instance : Inhabited AttrC := ⟨⟨⟨#[]⟩, 0, ⟨#[]⟩, 0⟩⟩
instance : Inhabited EvC := ⟨⟨0, ⟨#[]⟩⟩⟩
theorem links_read {H : Type} {enc : TypeId × Value → H} {w : World} {base : Nat} {held : Bool} {fuel : Nat} {v : Value} {x : DataW H × List MemPlace} (h : DataW.trod enc P w base (fun _ => true) held fuel T.sl_api_SpanID [v] = some x) :
  ∃ (a : AV) (l : List Int), absV w.heap.size v = some a ∧ Sl linkE (stW w) a l ∧ l.length ≤ maxLen := by
 obtain ⟨a, l, h1, h2, _, h4, _⟩ := slice_read2 linkE (fun _ => True) h Tryd.underlying36 (by kernel_rfl) fun n cs y hy hl => by
  obtain ⟨hr, e0, _, w0⟩ := DataW.trod_int Tryd.underlying35 hy
  subst e0
  refine ⟨hr, trivial, fun j hj => ?_⟩
  have hj : j < 1 := hj
  obtain rfl : j = 0 := by omega
  exact ⟨_, _, rfl, rfl, rfl⟩
 exact ⟨a, l, h1, h2, h4⟩
set_option maxRecDepth 100000 in
theorem attrs_read {H : Type} {enc : TypeId × Value → H} {w : World} {base : Nat} {held : Bool} {fuel : Nat} {v : Value} {x : DataW H × List MemPlace} (h : DataW.trod enc P w base (fun _ => true) held fuel T.sl_api_Attr [v] = some x) :
  ∃ (a : AV) (l : List AttrC), absV w.heap.size v = some a ∧ Sl attrE (stW w) a l ∧ l.length ≤ maxLen := by
 obtain ⟨a, l, h1, h2, _, h4, _⟩ := slice_read2 (α := AttrC) attrE (fun _ => True) h Tryd.underlying39 (by kernel_rfl) fun n cs y hy hl => by
  have hl : cs.length = 4 := hl
  obtain ⟨xs, n, _, _, _, hx, hf⟩ := DataW.trod_struct Tryd.underlying88 hy
  change xs.length = 2 at hx
  have hf' := fun i f (hf0 : _) => hf i f hf0
  have g0 := hf' 0 _ rfl
  have g1 := hf' 1 _ rfl
  rw [List.getElem?_eq_getElem (by omega)] at g0 g1
  change DataW.trod enc P w base (fun _ => true) held n T.ystring_9 (List.take (P.cellsOf T.ystring_9) (List.drop 0 cs)) = _ at g0
  change DataW.trod enc P w base (fun _ => true) held n T.api_Value (List.take (P.cellsOf T.api_Value) (List.drop 1 cs)) = _ at g1
  obtain ⟨s0, e0, _, _⟩ := DataW.trod_string Tryd.underlying9 g0
  obtain ⟨xs1, n1, _, _, hl1, hx1, hf1⟩ := DataW.trod_struct Tryd.underlying86 g1
  change xs1.length = 3 at hx1
  have k0 := hf1 0 _ rfl
  have k1 := hf1 1 _ rfl
  have k2 := hf1 2 _ rfl
  rw [List.getElem?_eq_getElem (by omega)] at k0 k1 k2
  rw [show P.cellsOf T.api_Value = 3 by kernel_rfl] at k0 k1 k2
  change DataW.trod enc P w base (fun _ => true) held n1 T.api_ValueKind (List.take (P.cellsOf T.api_ValueKind) (List.drop 0 (List.take 3 (List.drop 1 cs)))) = _ at k0
  change DataW.trod enc P w base (fun _ => true) held n1 T.ystring_9 (List.take (P.cellsOf T.ystring_9) (List.drop 1 (List.take 3 (List.drop 1 cs)))) = _ at k1
  change DataW.trod enc P w base (fun _ => true) held n1 T.int64 (List.take (P.cellsOf T.int64) (List.drop 2 (List.take 3 (List.drop 1 cs)))) = _ at k2
  obtain ⟨kd, e1, _, w1⟩ := DataW.trod_int Tryd.underlying84 k0
  obtain ⟨s1, e2, _, _⟩ := DataW.trod_string Tryd.underlying9 k1
  obtain ⟨nm, e3, _, w3⟩ := DataW.trod_int Tryd.underlying2 k2
  rw [show P.cellsOf T.ystring_9 = 1 by kernel_rfl] at e0 e2
  rw [show P.cellsOf T.api_ValueKind = 1 by kernel_rfl] at e1
  rw [show P.cellsOf T.int64 = 1 by kernel_rfl] at e3
  obtain ⟨v0, v1, v2, v3, rfl⟩ : ∃ v0 v1 v2 v3, cs = [v0, v1, v2, v3] := by
   match cs, hl with
   | [v0, v1, v2, v3], _ => exact ⟨v0, v1, v2, v3, rfl⟩
  simp at e0 e1 e2 e3
  subst e0; subst e1; subst e2; subst e3
  refine ⟨⟨s0, kd, s1, nm⟩, trivial, fun j hj => ?_⟩
  match j, hj with
  | 0, _ => exact ⟨_, _, rfl, rfl, rfl⟩
  | 1, _ => exact ⟨_, _, rfl, rfl, rfl⟩
  | 2, _ => exact ⟨_, _, rfl, rfl, rfl⟩
  | 3, _ => exact ⟨_, _, rfl, rfl, rfl⟩
 exact ⟨a, l, h1, h2, h4⟩
set_option maxRecDepth 100000 in
theorem events_read {H : Type} {enc : TypeId × Value → H} {w : World} {base : Nat} {held : Bool} {fuel : Nat} {v : Value} {x : DataW H × List MemPlace} (h : DataW.trod enc P w base (fun _ => true) held fuel T.sl_api_Event [v] = some x) :
  ∃ (a : AV) (l : List EvC), absV w.heap.size v = some a ∧ Sl evE (stW w) a l ∧ l.length ≤ maxLen := by
 obtain ⟨a, l, h1, h2, _, h4, _⟩ := slice_read2 (α := EvC) evE (fun _ => True) h Tryd.underlying40 (by kernel_rfl) fun n cs y hy hl => by
  have hl : cs.length = 2 := hl
  obtain ⟨xs, n, _, _, _, hx, hf⟩ := DataW.trod_struct Tryd.underlying90 hy
  change xs.length = 2 at hx
  have hf' := fun i f (hf0 : _) => hf i f hf0
  have g0 := hf' 0 _ rfl
  have g1 := hf' 1 _ rfl
  rw [List.getElem?_eq_getElem (by omega)] at g0 g1
  change DataW.trod enc P w base (fun _ => true) held n T.int64 (List.take (P.cellsOf T.int64) (List.drop 0 cs)) = _ at g0
  change DataW.trod enc P w base (fun _ => true) held n T.ystring_9 (List.take (P.cellsOf T.ystring_9) (List.drop 1 cs)) = _ at g1
  obtain ⟨at', e0, _, w0⟩ := DataW.trod_int Tryd.underlying2 g0
  obtain ⟨s0, e1, _, _⟩ := DataW.trod_string Tryd.underlying9 g1
  rw [show P.cellsOf T.ystring_9 = 1 by kernel_rfl] at e1
  rw [show P.cellsOf T.int64 = 1 by kernel_rfl] at e0
  obtain ⟨v0, v1, rfl⟩ : ∃ v0 v1, cs = [v0, v1] := by
   match cs, hl with
   | [v0, v1], _ => exact ⟨v0, v1, rfl⟩
  simp at e0 e1
  subst e0; subst e1
  refine ⟨⟨at', s0⟩, trivial, fun j hj => ?_⟩
  match j, hj with
  | 0, _ => exact ⟨_, _, rfl, rfl, rfl⟩
  | 1, _ => exact ⟨_, _, rfl, rfl, rfl⟩
 exact ⟨a, l, h1, h2, h4⟩
instance : Inhabited SpX := ⟨⟨⟨0, 0, 0, 0, [], ⟨#[]⟩, ⟨#[]⟩, 0, 0, 0, 0, [], []⟩, .nilslice, .nilslice, .nilslice⟩⟩
def SpX.OkT (g3 g4 : Nat) (w : World) (a : SpX) : Prop := a.At (stT g3 g4 w) ∧ a.c.lk.length < 9223372036854775808 ∧ a.c.atr.length < 9223372036854775808 ∧ a.c.ev.length < 9223372036854775808
set_option maxRecDepth 100000 in
set_option maxHeartbeats 1000000 in
theorem spans_read {H : Type} {enc : TypeId × Value → H} {w : World} {base : Nat} {held : Bool} {fuel : Nat} {v : Value} {x : DataW H × List MemPlace} {g3 g4 : Nat} (hT : TabsW g3 g4 w) (h : DataW.trod enc P w base (fun _ => true) held fuel T.sl_api_Span [v] = some x) :
  ∃ (a : AV) (l : List SpX), absV w.heap.size v = some a ∧ Sl spE (stT g3 g4 w) a l ∧ (∀ c, c ∈ l → c.OkT g3 g4 w) ∧ ArgS a ∧ l.length ≤ maxLen ∧ l.length ≤ slcLen x.1 := by
 obtain ⟨a, l, h1, h2, h3, h4, h5⟩ := slice_read2 spE (SpX.OkT g3 g4 w) h Tryd.underlying22 (by kernel_rfl) fun n cs y hy hl => by
  have hl : cs.length = 13 := hl
  obtain ⟨xs, n, _, _, _, hx, hf⟩ := DataW.trod_struct Tryd.underlying42 hy
  change xs.length = 12 at hx
  have hf' := fun i f (hf0 : _) => hf i f hf0
  have g0 := hf' 0 _ rfl
  have g1 := hf' 1 _ rfl
  have g2 := hf' 2 _ rfl
  have g3' := hf' 3 _ rfl
  have g4' := hf' 4 _ rfl
  have g5 := hf' 5 _ rfl
  have g6 := hf' 6 _ rfl
  have g7 := hf' 7 _ rfl
  have g8 := hf' 8 _ rfl
  have g9 := hf' 9 _ rfl
  have g10 := hf' 10 _ rfl
  have g11 := hf' 11 _ rfl
  rw [List.getElem?_eq_getElem (by omega)] at g0 g1 g2 g3' g4' g5 g6 g7 g8 g9 g10 g11
  change DataW.trod enc P w base (fun _ => true) held n T.api_TraceID (List.take (P.cellsOf T.api_TraceID) (List.drop 0 cs)) = _ at g0
  change DataW.trod enc P w base (fun _ => true) held n T.api_SpanID (List.take (P.cellsOf T.api_SpanID) (List.drop 2 cs)) = _ at g1
  change DataW.trod enc P w base (fun _ => true) held n T.api_SpanID (List.take (P.cellsOf T.api_SpanID) (List.drop 3 cs)) = _ at g2
  change DataW.trod enc P w base (fun _ => true) held n T.sl_api_SpanID (List.take (P.cellsOf T.sl_api_SpanID) (List.drop 4 cs)) = _ at g3'
  change DataW.trod enc P w base (fun _ => true) held n T.ystring_9 (List.take (P.cellsOf T.ystring_9) (List.drop 5 cs)) = _ at g4'
  change DataW.trod enc P w base (fun _ => true) held n T.ystring_9 (List.take (P.cellsOf T.ystring_9) (List.drop 6 cs)) = _ at g5
  change DataW.trod enc P w base (fun _ => true) held n T.api_Kind (List.take (P.cellsOf T.api_Kind) (List.drop 7 cs)) = _ at g6
  change DataW.trod enc P w base (fun _ => true) held n T.api_Status (List.take (P.cellsOf T.api_Status) (List.drop 8 cs)) = _ at g7
  change DataW.trod enc P w base (fun _ => true) held n T.int64 (List.take (P.cellsOf T.int64) (List.drop 9 cs)) = _ at g8
  change DataW.trod enc P w base (fun _ => true) held n T.int64 (List.take (P.cellsOf T.int64) (List.drop 10 cs)) = _ at g9
  change DataW.trod enc P w base (fun _ => true) held n T.sl_api_Attr (List.take (P.cellsOf T.sl_api_Attr) (List.drop 11 cs)) = _ at g10
  change DataW.trod enc P w base (fun _ => true) held n T.sl_api_Event (List.take (P.cellsOf T.sl_api_Event) (List.drop 12 cs)) = _ at g11
  obtain ⟨hi, lo, e0, _, _⟩ := pair_read g0 Tryd.underlying34 rfl rfl rfl rfl Tryd.underlying32 Tryd.underlying32 (by kernel_rfl) (by kernel_rfl) (by kernel_rfl)
  obtain ⟨id, e1, _, _⟩ := DataW.trod_int Tryd.underlying35 g1
  obtain ⟨par, e2, _, _⟩ := DataW.trod_int Tryd.underlying35 g2
  obtain ⟨svc, e4, _, _⟩ := DataW.trod_string Tryd.underlying9 g4'
  obtain ⟨op, e5, _, _⟩ := DataW.trod_string Tryd.underlying9 g5
  obtain ⟨kd, e6, _, _⟩ := DataW.trod_int Tryd.underlying37 g6
  obtain ⟨st, e7, _, _⟩ := DataW.trod_int Tryd.underlying38 g7
  obtain ⟨t0, e8, _, _⟩ := DataW.trod_int Tryd.underlying2 g8
  obtain ⟨t1, e9, _, _⟩ := DataW.trod_int Tryd.underlying2 g9
  rw [show P.cellsOf T.api_TraceID = 2 by kernel_rfl] at e0
  rw [show P.cellsOf T.api_SpanID = 1 by kernel_rfl] at e1 e2
  rw [show P.cellsOf T.ystring_9 = 1 by kernel_rfl] at e4 e5
  rw [show P.cellsOf T.api_Kind = 1 by kernel_rfl] at e6
  rw [show P.cellsOf T.api_Status = 1 by kernel_rfl] at e7
  rw [show P.cellsOf T.int64 = 1 by kernel_rfl] at e8 e9
  rw [show P.cellsOf T.sl_api_SpanID = 1 by kernel_rfl] at g3'
  rw [show P.cellsOf T.sl_api_Attr = 1 by kernel_rfl] at g10
  rw [show P.cellsOf T.sl_api_Event = 1 by kernel_rfl] at g11
  obtain ⟨v0, v1, v2, v3, v4, v5, v6, v7, v8, v9, v10, v11, v12, rfl⟩ : ∃ v0 v1 v2 v3 v4 v5 v6 v7 v8 v9 v10 v11 v12, cs = [v0, v1, v2, v3, v4, v5, v6, v7, v8, v9, v10, v11, v12] := by
   match cs, hl with
   | [v0, v1, v2, v3, v4, v5, v6, v7, v8, v9, v10, v11, v12], _ => exact ⟨v0, v1, v2, v3, v4, v5, v6, v7, v8, v9, v10, v11, v12, rfl⟩
  obtain ⟨xa, lk, q1, q2, q3⟩ := links_read (v := v4) g3'
  obtain ⟨ya, atr, q4, q5, q6⟩ := attrs_read (v := v11) g10
  obtain ⟨za, ev, q7, q8, q9⟩ := events_read (v := v12) g11
  simp at e0 e1 e2 e4 e5 e6 e7 e8 e9
  obtain ⟨rfl, rfl⟩ := e0
  subst e1; subst e2; subst e4; subst e5; subst e6; subst e7; subst e8; subst e9
  refine ⟨⟨⟨hi, lo, id, par, lk, svc, op, kd, st, t0, t1, atr, ev⟩, xa, ya, za⟩, ⟨⟨?_, ?_, ?_⟩, ?_, ?_, ?_⟩, fun j hj => ?_⟩
  ·exact q2.toT hT q1 (fun a c hc n e => by simp [oneE, idK] at hc; rw [← hc] at e; simp at e)
  ·exact q5.toT hT q4 (fun a c hc n e => by simp [attrE] at hc; rw [← hc] at e; simp at e)
  ·exact q8.toT hT q7 (fun a c hc n e => by simp [evE] at hc; rw [← hc] at e; simp at e)
  ·show lk.length < _; unfold maxLen at q3; omega
  ·show atr.length < _; unfold maxLen at q6; omega
  ·show ev.length < _; unfold maxLen at q9; omega
  ·match j, hj with
   | 0, _ => exact ⟨_, _, rfl, rfl, rfl⟩
   | 1, _ => exact ⟨_, _, rfl, rfl, rfl⟩
   | 2, _ => exact ⟨_, _, rfl, rfl, rfl⟩
   | 3, _ => exact ⟨_, _, rfl, rfl, rfl⟩
   | 4, _ => exact ⟨_, _, rfl, rfl, q1⟩
   | 5, _ => exact ⟨_, _, rfl, rfl, rfl⟩
   | 6, _ => exact ⟨_, _, rfl, rfl, rfl⟩
   | 7, _ => exact ⟨_, _, rfl, rfl, rfl⟩
   | 8, _ => exact ⟨_, _, rfl, rfl, rfl⟩
   | 9, _ => exact ⟨_, _, rfl, rfl, rfl⟩
   | 10, _ => exact ⟨_, _, rfl, rfl, rfl⟩
   | 11, _ => exact ⟨_, _, rfl, rfl, q4⟩
   | 12, _ => exact ⟨_, _, rfl, rfl, q7⟩
 exact ⟨a, l, h1, h2.toT hT h1 (fun a c hc n e => by simp [spE, SpX.cells] at hc; rw [← hc] at e; simp at e), h3, absV_arg h1 h2.len, h4, h5⟩
end
end Go.Eng.S

namespace Go.Eng.S
open Go Go.Eng Go.Proofs Go.RowKit Go.Lib
set_option linter.constructorNameAsVariable false
noncomputable section
theorem u8x : U8Extra P Tryd.validS_ren :=
 ⟨by kernel_rfl, by kernel_rfl, by kernel_rfl, by kernel_rfl, by kernel_rfl, by kernel_rfl, by kernel_rfl⟩
theorem tabsW_of {w : World} (h3 : VarReads P w "unicode/utf8.first" firstData) (h4 : VarReads P w "unicode/utf8.acceptRanges" acceptData) : TabsW 0 1 w := by
 have key : ∀ {n : String} {d : DataW Unit} {g m : Nat} {t : TypeId} {e : TypeId} {q : Nat}, VarReads P w n d → P.globalNamed n = some g → (P.globals[g]?).map (·.type) = some t → P.underlying t = some (.array q e) → P.cellsOf t = m → ∃ arr e fz, w.heap[g]? = some (.cells arr e fz) ∧ arr.size = m := by
  intro n d g m t e q h hg hy hu hm
  obtain ⟨g', t', cs, fuel, p, e1, e2, e3, e4⟩ := h
  rw [hg] at e1
  have : g = g' := by simpa using e1
  subst this
  rw [hy] at e2
  have : t = t' := by simpa using e2
  subst this
  obtain ⟨_, _, _, _, hl, _, _⟩ := DataW.trod_array hu e4
  unfold World.var? at e3
  rw [hg] at e3
  simp only [Option.bind_some] at e3
  split at e3
  ·rename_i cs' e' fz hc
   have : cs' = cs := by simpa using e3
   subst this
   exact ⟨_, _, _, hc, by rw [← hm, ← hl]; simp⟩
  ·simp at e3
 exact ⟨utf8Tabs_of_readsT (U8Types.of196 Tryd.validS) u8x h3 h4, by decide, by unfold GG; decide, by unfold GG; decide,
  key h3 (g := 0) (t := T.y256_uint8_145) (by kernel_rfl) (by kernel_rfl) Tryd.underlying145 (by kernel_rfl),
  key h4 (g := 1) (t := T.y16_utf8_acceptRange_148) (by kernel_rfl) (by kernel_rfl) Tryd.underlying148 (by kernel_rfl)⟩
theorem ForestMore_walk {H : Type} {enc : TypeId × Value → H} {w : World} {base : Nat} {held : Bool} {fuel : Nat} {v : Value} {x : DataW H × List MemPlace} (hT : TabsW 0 1 w) (h : DataW.trod enc P w base (fun _ => true) held fuel T.sl_api_Span [v] = some x) :
  Calls P F.spoorlaw10_ForestMore #[v] w fun e w' => e = .returned (.bool true) ∧ Below w.heap.size w w' := by
 obtain ⟨a, l, h1, h2, h3, h4, _⟩ := spans_read hT h
 exact CallsA.topT hT (ForestMore_ok (stT_tabs hT) h2 h3 h4) (.cons (absT_ok h1) .nil)
end
end Go.Eng.S

