/-
  'CallsSums': a call and tallies as a row hands them in; the walk.
-/
import Derived.Test.YthjagnpghdcbcaaGreatDoorSZn
import Derived.Test.YthjagnpghdcbcaaGreatDoorSYatoSYk
import Derived.SizedLaws
namespace Go.Eng.S
open Go Go.Eng Go.Proofs
set_option linter.constructorNameAsVariable false
noncomputable section
theorem bars_read2 {H : Type} {enc : TypeId × Value → H} {w : World} {base : Nat} {held : Bool} {fuel : Nat} {v : Value} {x : DataW H × List MemPlace} (h : DataW.trod enc P w base (fun _ => true) held fuel T.sl_api_Bar [v] = some x) :
  ∃ (a : AV) (l : List Bar), absV w.heap.size v = some a ∧ Sl barE (stW w) a l ∧ RngB l ∧ l.length ≤ slcLen x.1 := by
 obtain ⟨a, l, h1, h2, h3, _, h5⟩ := slice_read2 barE RngP h Tryz.underlying29 (by kernel_rfl) fun n cs y hy hl => by
  obtain ⟨a, b, rfl, wa, wb⟩ := pair_read hy Tryz.underlying43 rfl rfl rfl rfl Tryz.underlying3 Tryz.underlying24 (by kernel_rfl) (by kernel_rfl) (by kernel_rfl)
  have h1 := bounds_i64 wa
  have h2 := bounds_u64 wb
  refine ⟨(a, b), ⟨h1.1, by omega, h2.1, h2.2⟩, fun j hj => ?_⟩
  match j, hj with
  | 0, _ => exact ⟨_, _, rfl, rfl, rfl⟩
  | 1, _ => exact ⟨_, _, rfl, rfl, rfl⟩
 exact ⟨a, l, h1, h2, h3, h5⟩
set_option maxRecDepth 100000 in
theorem tal_read2 {H : Type} {enc : TypeId × Value → H} {w : World} {base : Nat} {held : Bool} {v : Value} {d : DataW H} {p : List MemPlace} {r : Reach} {b0 : Nat} (hval : Value.okWide P w r b0 T.api_Tally v) (h : DataW.Trod enc P w base (fun _ => true) held T.api_Tally v d p) :
  ∃ (x : AV) (t : Tal) (y : DataW H), VR (phiW w) (t.V x) v ∧ Sl barE (stW w) x t.l ∧ t.Rng ∧ (∃ parts, d = .agg parts ∧ parts[3]? = some y) ∧ t.l.length ≤ slcLen y := by
 simp only [Value.okWide, show P.underlying T.api_Tally = some _ from Tryz.underlying31] at hval
 obtain ⟨cs, rfl, hsz, _⟩ := hval
 obtain ⟨fuel, h⟩ := h
 obtain ⟨xs, n, hxd, hxe, hl, hx, hf⟩ := DataW.trod_struct Tryz.underlying31 h
 rw [show P.cellsOf T.api_Tally = 7 by kernel_rfl] at hl
 have hl : cs.toList.length = 7 := hl
 have hf' := fun i f (hf0 : _) => hf i f hf0
 change xs.length = 4 at hx
 have g0 := hf' 0 _ rfl
 have g1 := hf' 1 _ rfl
 have g2 := hf' 2 _ rfl
 have g3 := hf' 3 _ rfl
 rw [List.getElem?_eq_getElem (by omega)] at g0 g1 g2 g3
 have pr : ∀ {n : Nat} {cs : List Value} {y : DataW H × List MemPlace}, DataW.trod enc P w base (fun _ => true) held n T.api_Nat cs = some y → ∃ a b, cs = [.int .u64 a, .int .u64 b] ∧ Rng2 (a, b) := by
  intro n cs y hy
  obtain ⟨a, b, rfl, wa, wb⟩ := pair_read hy Tryz.underlying28 rfl rfl rfl rfl Tryz.underlying24 Tryz.underlying24 (by kernel_rfl) (by kernel_rfl) (by kernel_rfl)
  exact ⟨a, b, rfl, bounds_u64 wa, bounds_u64 wb⟩
 obtain ⟨a1, a2, e0, r0⟩ := pr g0
 obtain ⟨b1, b2, e1, r1⟩ := pr g1
 obtain ⟨c1, c2, e2, r2⟩ := pr g2
 obtain ⟨v0, v1, v2, v3, v4, v5, v6, hc⟩ : ∃ v0 v1 v2 v3 v4 v5 v6, cs.toList = [v0, v1, v2, v3, v4, v5, v6] := by
  match cs.toList, hl with
  | [v0, v1, v2, v3, v4, v5, v6], _ => exact ⟨v0, v1, v2, v3, v4, v5, v6, rfl⟩
 have hcs : (Value.agg cs).cells.toList = [v0, v1, v2, v3, v4, v5, v6] := hc
 rw [hcs] at e0 e1 e2 g3
 change List.take (P.cellsOf T.api_Nat) (List.drop 0 [v0, v1, v2, v3, v4, v5, v6]) = _ at e0
 change List.take (P.cellsOf T.api_Nat) (List.drop 2 [v0, v1, v2, v3, v4, v5, v6]) = _ at e1
 change List.take (P.cellsOf T.api_Nat) (List.drop 4 [v0, v1, v2, v3, v4, v5, v6]) = _ at e2
 change DataW.trod enc P w base (fun _ => true) held n T.sl_api_Bar (List.take (P.cellsOf T.sl_api_Bar) (List.drop 6 [v0, v1, v2, v3, v4, v5, v6])) = _ at g3
 rw [show P.cellsOf T.api_Nat = 2 by kernel_rfl] at e0 e1 e2
 rw [show P.cellsOf T.sl_api_Bar = 1 by kernel_rfl] at g3
 simp at e0 e1 e2
 obtain ⟨rfl, rfl⟩ := e0
 obtain ⟨rfl, rfl⟩ := e1
 obtain ⟨rfl, rfl⟩ := e2
 obtain ⟨x, l, q1, q2, q3, q4⟩ := bars_read2 (v := v6) g3
 refine ⟨x, ⟨(a1, a2), (b1, b2), (c1, c2), l⟩, xs[3].1, ?_, q2, ⟨r0, r1, r2, q3⟩, ⟨xs.map (·.1), (Prod.mk.inj hxe).1, by rw [List.getElem?_map, List.getElem?_eq_getElem (by omega)]; rfl⟩, q4⟩
 have : cs = ([.int .u64 a1, .int .u64 a2, .int .u64 b1, .int .u64 b2, .int .u64 c1, .int .u64 c2, v6] : List Value).toArray := by rw [← hc]
 rw [this]
 exact .agg (.cons (.int _ _) (.cons (.int _ _) (.cons (.int _ _) (.cons (.int _ _) (.cons (.int _ _) (.cons (.int _ _) (.cons (absV_ok q1) .nil)))))))
set_option maxRecDepth 100000 in
theorem call_read {H : Type} {enc : TypeId × Value → H} {w : World} {base : Nat} {held : Bool} {v : Value} {d : DataW H} {p : List MemPlace} {r : Reach} {b0 : Nat} (hval : Value.okWide P w r b0 T.api_Call v) (h : DataW.Trod enc P w base (fun _ => true) held T.api_Call v d p) :
  ∃ c : CallR, VR (phiW w) (.agg (callF c)) v ∧ c.Rng := by
 simp only [Value.okWide, show P.underlying T.api_Call = some _ from Tryz.underlying26] at hval
 obtain ⟨cs0, rfl, hsz, _⟩ := hval
 obtain ⟨fuel, h⟩ := h
 obtain ⟨xs, n, _, _, hl, hx, hf⟩ := DataW.trod_struct Tryz.underlying26 h
 rw [show P.cellsOf T.api_Call = 5 by kernel_rfl] at hl
 change xs.length = 4 at hx
 have hf' := fun i f (hf0 : _) => hf i f hf0
 have g0 := hf' 0 _ rfl
 have g1 := hf' 1 _ rfl
 have g2 := hf' 2 _ rfl
 have g3 := hf' 3 _ rfl
 rw [List.getElem?_eq_getElem (by omega)] at g0 g1 g2 g3
 have hl : cs0.toList.length = 5 := hl
 obtain ⟨v0, v1, v2, v3, v4, hc⟩ : ∃ v0 v1 v2 v3 v4, cs0.toList = [v0, v1, v2, v3, v4] := by
  match cs0.toList, hl with
  | [v0, v1, v2, v3, v4], _ => exact ⟨v0, v1, v2, v3, v4, rfl⟩
 have hcs : (Value.agg cs0).cells.toList = [v0, v1, v2, v3, v4] := hc
 rw [hcs] at g0 g1 g2 g3
 change DataW.trod enc P w base (fun _ => true) held n T.int64 (List.take (P.cellsOf T.int64) (List.drop 0 [v0, v1, v2, v3, v4])) = _ at g0
 change DataW.trod enc P w base (fun _ => true) held n T.api_Edge (List.take (P.cellsOf T.api_Edge) (List.drop 1 [v0, v1, v2, v3, v4])) = _ at g1
 change DataW.trod enc P w base (fun _ => true) held n T.ybool_4 (List.take (P.cellsOf T.ybool_4) (List.drop 3 [v0, v1, v2, v3, v4])) = _ at g2
 change DataW.trod enc P w base (fun _ => true) held n T.uint64 (List.take (P.cellsOf T.uint64) (List.drop 4 [v0, v1, v2, v3, v4])) = _ at g3
 obtain ⟨hr, e0, _, w0⟩ := DataW.trod_int Tryz.underlying2 g0
 obtain ⟨xs1, n1, _, _, hl1, hx1, hf1⟩ := DataW.trod_struct Tryz.underlying23 g1
 obtain ⟨bd, e2, _⟩ := DataW.trod_bool Tryz.underlying4 g2
 obtain ⟨sf, e3, _, w3⟩ := DataW.trod_int Tryz.underlying24 g3
 rw [show P.cellsOf T.int64 = 1 by kernel_rfl] at e0
 rw [show P.cellsOf T.ybool_4 = 1 by kernel_rfl] at e2
 rw [show P.cellsOf T.uint64 = 1 by kernel_rfl] at e3
 change xs1.length = 2 at hx1
 have k0 := hf1 0 _ rfl
 have k1 := hf1 1 _ rfl
 rw [List.getElem?_eq_getElem (by omega)] at k0 k1
 rw [show P.cellsOf T.api_Edge = 2 by kernel_rfl] at k0 k1
 change DataW.trod enc P w base (fun _ => true) held n1 T.ystring_9 (List.take (P.cellsOf T.ystring_9) (List.drop 0 (List.take 2 (List.drop 1 [v0, v1, v2, v3, v4])))) = _ at k0
 change DataW.trod enc P w base (fun _ => true) held n1 T.ystring_9 (List.take (P.cellsOf T.ystring_9) (List.drop 1 (List.take 2 (List.drop 1 [v0, v1, v2, v3, v4])))) = _ at k1
 obtain ⟨s0, e4, _, _⟩ := DataW.trod_string Tryz.underlying9 k0
 obtain ⟨s1, e5, _, _⟩ := DataW.trod_string Tryz.underlying9 k1
 rw [show P.cellsOf T.ystring_9 = 1 by kernel_rfl] at e4 e5
 simp at e0 e2 e3 e4 e5
 subst e0; subst e2; subst e3; subst e4; subst e5
 have h1 := bounds_i64 w0
 have h2 := bounds_u64 w3
 refine ⟨⟨hr, (s0, s1), bd, sf⟩, ?_, ⟨h1.1, show hr < _ by omega⟩, h2.1, h2.2⟩
 have : cs0 = ([.int .i64 hr, .string s0, .string s1, .bool bd, .int .u64 sf] : List Value).toArray := by rw [← hc]
 rw [this]
 exact .agg (.cons (.int _ _) (.cons (.str _) (.cons (.str _) (.cons (.bool _) (.cons (.int _ _) .nil)))))
set_option maxRecDepth 100000 in
theorem CallsSums_walk {H : Type} {enc : TypeId × Value → H} {w : World} {base b0 : Nat} {held : Bool} {r : Reach} {v0 v1 v2 : Value} {d0 d1 d2 : DataW H} {p0 p1 p2 : List MemPlace}
  (hv0 : Value.okWide P w r b0 T.api_Call v0) (h0 : DataW.Trod enc P w base (fun _ => true) held T.api_Call v0 d0 p0) (hv1 : Value.okWide P w r b0 T.api_Tally v1) (h1 : DataW.Trod enc P w base (fun _ => true) held T.api_Tally v1 d1 p1) (hv2 : Value.okWide P w r b0 T.api_Tally v2) (h2 : DataW.Trod enc P w base (fun _ => true) held T.api_Tally v2 d2 p2)
  (hs1 : ∀ parts y, d1 = .agg parts → parts[3]? = some y → slcLen y * 16 ≤ 140737488351232) (hs2 : ∀ parts y, d2 = .agg parts → parts[3]? = some y → slcLen y * 16 ≤ 140737488351232) :
  Calls P F.spoorlaw14_CallsSums #[v0, v1, v2] w fun e w' => e = .returned (.bool true) ∧ Kept w w' := by
 obtain ⟨c, c1, c2⟩ := call_read hv0 h0
 obtain ⟨x, t, y, t1, t2, t3, ⟨pa, t4, t5⟩, t6⟩ := tal_read2 hv1 h1
 obtain ⟨x', u, y', u1, u2, u3, ⟨pb, u4, u5⟩, u6⟩ := tal_read2 hv2 h2
 have k1 := hs1 pa y t4 t5
 have k2 := hs2 pb y' u4 u5
 exact CallsA.top (CallsSums_ok t2 u2 c2 t3 u3 (by unfold pow48; omega) (by unfold pow48; omega)) (.cons c1 (.cons t1 (.cons u1 .nil)))
end
end Go.Eng.S

