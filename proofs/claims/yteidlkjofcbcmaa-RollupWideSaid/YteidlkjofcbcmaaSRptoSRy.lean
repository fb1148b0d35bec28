/-
  Calls put to a rollup, a range of them: the walk.
  A rollup's blocks alone; a list of sums as it may be laid.
  The sums of a range as one thing.
  A rollup that puts are put to.
  A range's windows.
  A range is covered by windows.
-/
import Derived.Test.YteidlkjofcbcmaaSRstoSRo
import Derived.Test.YteidlkjofcbcmaaW15to23
import Derived.Test.YteidlkjofcbcmaaSVr4to2
namespace Go.Eng.S
open Go Go.Eng Go.Proofs
set_option linter.constructorNameAsVariable false
set_option maxRecDepth 4000
noncomputable section
attribute [local irreducible] bsel barsOf mergeB
theorem nilK_ptr {t : TypeId} {b o : Nat} {K : Bool → Prop} (h : K false) : nilK (.ptr t) (.ptr b o) true K := by simpa [nilK, nilT] using h
theorem nilK_nilptr {t : TypeId} {K : Bool → Prop} (h : K true) : nilK (.ptr t) .nilptr true K := by simpa [nilK, nilT] using h
theorem Fr.ne {s : St} (h : Fr s) {c : Nat} (hc : s.h.get c ≠ none) : c ≠ s.nx := by
 rintro rfl; exact hc (h _ (Nat.le_refl _))
theorem sz_le {k n c : Nat} (hk : k ≤ n + 2) (hc : c ≤ 104) (hlen : (n + 2 + (n + 2) / 4 + 600) * 104 ≤ pow48) : (k + k / 4 + 600) * c ≤ pow48 := Nat.le_trans (Nat.mul_le_mul (by omega) hc) hlen
theorem sz_le' {k n : Nat} (hk : k ≤ n + 2) (hlen : (n + 2 + (n + 2) / 4 + 600) * 104 ≤ pow48) : k ≤ pow48 := Nat.le_trans (by omega) hlen
structure ListsI (s67 : St) (a b : Int) (K : List CallR) (x : AV) (s : St) (j : Nat) (XS : List (AV × List ET)) : Prop where
 so : So lsE s x XS
 new : ∀ c, c ∈ blkOf x → s67.h.get c = none
 each : ∀ p, p ∈ XS → (∀ c, c ∈ blkOf p.1 → c ∉ blkOf x) ∧ Sl etE s p.1 p.2 ∧ ∀ y, y ∈ p.2 → FineE s y ∧ ∀ c, c ∈ blkOf y.2.2 → c ∉ blkOf x
 told : etP (XS.flatMap (·.2)) = callsIn a b (K.take j)
 len : XS.length ≤ j
 len2 : (XS.flatMap (·.2)).length ≤ j
theorem callsIn_succ {a b : Int} {K : List CallR} {j : Nat} (hj : j < K.length) : callsIn a b (K.take (j + 1)) = callsIn a b (K.take j) ++ (if decide (a ≤ K[j].hour) && decide (K[j].hour < b) then [(K[j].edge, oneT K[j])] else []) := by
 rw [← List.take_append_getElem hj]
 unfold callsIn
 rw [List.filter_append, List.map_append]
 congr 1
 cases h : (decide (a ≤ K[j].hour) && decide (K[j].hour < b)) <;> simp [h]
theorem ListsI.skip {s67 : St} {a b : Int} {K : List CallR} {x : AV} {s : St} {j : Nat} {XS : List (AV × List ET)} (h : ListsI s67 a b K x s j XS) (hj : j < K.length) (hn : ¬ (a ≤ K[j].hour ∧ K[j].hour < b)) : ListsI s67 a b K x s (j + 1) XS where
 so := h.so
 new := h.new
 each := h.each
 told := by
  rw [callsIn_succ hj, if_neg (by simpa using hn), List.append_nil]; exact h.told
 len := by have := h.len; omega
 len2 := by have := h.len2; omega
theorem FineE.ext {s s' : St} {y : ET} (h : FineE s y) (hf : Frw [] s s') : FineE s' y := ⟨h.bar.ext hf, h.ok, h.rng, h.ne⟩
theorem ListsI.next {s67 : St} {a b : Int} {K : List CallR} {x : AV} {s75 s84 s97 : St} {j : Nat} {XS : List (AV × List ET)} (h : ListsI s67 a b K x s75 j XS) (f75 : Frw [] s67 s75) (hfr75 : Fr s75) (hB : Bump s75 16 s84) (hj : j < K.length) (hin : a ≤ K[j].hour ∧ K[j].hour < b) (hr : K[j].Rng) (hlen : (K.length + 2 + (K.length + 2) / 4 + 600) * 104 ≤ pow48) {z : AV} (hz : Sl barE s97 z (oneT K[j]).l) (hg : Gone s84 z) (f97 : Frw [] s84 s97) (hG : Gro s84 s97) :
  ∃ (x' : AV) (s' : St), appendX D (hsetS (hsetS s97 (s75.nx + 13) (cellsO [.slice (s75.nx + 12) 0 1 (.exact 1)])) (s75.nx + 12) (cellsO (etF (K[j].edge, oneT K[j], z)))) T.sl_sl_api_EdgeTally T.sl_sl_api_EdgeTally x (.slice (s75.nx + 13) 0 1 (.exact 1)) = some (x', s') ∧ ListsI s67 a b K x' s' (j + 1) (XS ++ [(.slice (s75.nx + 12) 0 1 (.exact 1), [(K[j].edge, oneT K[j], z)])]) ∧ Frw [] s67 s' ∧ Fr s' := by
 have hfree13 : s97.h.get (s75.nx + 13) = none := bump_free hB (by omega) hG
 have hfree12 : s97.h.get (s75.nx + 12) = none := bump_free hB (by omega) hG
 have hnx : s75.nx + 16 ≤ s97.nx := by have := hB.lt; have := hG.2.1; omega
 have p1 := hsetS_fwd (o := cellsO [.slice (s75.nx + 12) 0 1 (.exact 1)]) hfree13
 have x1 := hsetS_own (s := s97) (b := s75.nx + 13) (cs := [.slice (s75.nx + 12) 0 1 (.exact 1)])
 have y1 := hsetS_fr (o := cellsO [.slice (s75.nx + 12) 0 1 (.exact 1)]) hG.1 (show s75.nx + 13 < s97.nx by omega)
 have free12 : (hsetS s97 (s75.nx + 13) (cellsO [.slice (s75.nx + 12) 0 1 (.exact 1)])).h.get (s75.nx + 12) = none := by
  simp only [hsetS, PT.get_set]; rw [if_neg (by omega)]; exact hfree12
 have hnxA : (hsetS s97 (s75.nx + 13) (cellsO [.slice (s75.nx + 12) 0 1 (.exact 1)])).nx = s97.nx := rfl
 generalize hsetS s97 (s75.nx + 13) (cellsO [.slice (s75.nx + 12) 0 1 (.exact 1)]) = sA at p1 x1 y1 free12 hnxA ⊢
 have p2 := hsetS_fwd (o := cellsO (etF (K[j].edge, oneT K[j], z))) free12
 have x2 := hsetS_own (s := sA) (b := s75.nx + 12) (cs := etF (K[j].edge, oneT K[j], z))
 have y2 := hsetS_fr (o := cellsO (etF (K[j].edge, oneT K[j], z))) y1 (show s75.nx + 12 < sA.nx by omega)
 generalize hsetS sA (s75.nx + 12) (cellsO (etF (K[j].edge, oneT K[j], z))) = sB at p2 x2 y2 ⊢
 have fB : Frw [] s97 sB := p1.trans p2
 have f75B : Frw [] s75 sB := (hB.fwd.trans f97).trans fB
 have hjl := h.len
 have hb1 : (XS.length + 1 + (XS.length + 1) / 4 + 600) * 24 ≤ pow48 := sz_le (by omega) (by omega) hlen
 have hb2 : XS.length + 1 ≤ pow48 := sz_le' (by omega) hlen
 obtain ⟨x', s', q1, q2, q3, q4, q5, q6⟩ := So.append' (a := ((.slice (s75.nx + 12) 0 1 (.exact 1), [(K[j].edge, oneT K[j], z)]) : AV × List ET)) (h.so.ext f75B) ty.sl_sl_api_EdgeTally rfl ty.sl_api_EdgeTally rfl rfl rfl rfl (x1.ext p2).rd rfl hb1 hb2 y2
 have hthere : ∀ c, c ∈ blkOf x → s75.h.get c ≠ none := So.there h.so
 have n12 : ∀ c, c ∈ blkOf x → c ≠ s75.nx + 12 := by
  rintro c hc rfl
  exact hthere _ hc (hfr75 _ (by omega))
 have x2' := x2.fwd q3 fun hc => n12 _ hc rfl
 have hz' : Sl barE s' z (oneT K[j]).l := (hz.ext fB).beside q3 fun c hc => .inr fun hcz => hB.fwd.gone (hthere c hc) (by simp) (hg c hcz)
 have old : ∀ c, sB.h.get c ≠ none → c ∉ blkOf x' := by
  intro c hc hx
  rw [q4] at hx
  have : c = sB.nx := by simpa using hx
  exact Fr.ne y2 hc this
 refine ⟨x', s', q1, ⟨q2, fun c hc => ?_, fun p hp => ?_, ?_, ?_, ?_⟩, (f75.trans f75B).step q3 h.new, q5⟩
 ·rw [q4] at hc
  have : c = sB.nx := by simpa using hc
  rw [this]
  exact (f75.trans f75B).none (y2 _ (Nat.le_refl _)) (by simp)
 ·rcases List.mem_append.1 hp with hp | hp
  ·obtain ⟨e1, e2, e3⟩ := h.each p hp
   have e2B := e2.ext f75B
   refine ⟨fun c hc => old c (Sl.there e2B c hc), e2B.beside q3 fun c hc => .inr fun hcp => e1 c hcp hc, fun y hy => ?_⟩
   obtain ⟨g1, g2⟩ := e3 y hy
   have g1B := g1.ext f75B
   exact ⟨⟨g1B.bar.beside q3 fun c hc => .inr fun hcp => g2 c hcp hc, g1.ok, g1.rng, g1.ne⟩, fun c hc => old c (Sl.there g1B.bar c hc)⟩
  ·have : p = (.slice (s75.nx + 12) 0 1 (.exact 1), [(K[j].edge, oneT K[j], z)]) := by simpa using hp
   subst this
   refine ⟨fun c hc => old c ?_, .inr ⟨_, 0, 1, .exact 1, rfl, rfl, ?_⟩, fun y hy => ?_⟩
   ·have : c = s75.nx + 12 := by simpa [blkOf] using hc
    rw [this]; exact x2.there
   ·have := x2'.rd
    simpa [etE] using this
   ·have : y = (K[j].edge, oneT K[j], z) := by simpa using hy
    subst this
    exact ⟨⟨hz', oneT_ok hr, oneT_rng hr, oneT_ne _⟩, fun c hc => old c (Sl.there (hz.ext fB) c hc)⟩
 ·rw [callsIn_succ hj, if_pos (by simpa using hin), List.flatMap_append, etP_append, h.told]
  rfl
 ·rw [List.length_append, List.length_singleton]; have := h.len; omega
 ·rw [List.flatMap_append, List.length_append, List.flatMap_cons, List.flatMap_nil, List.append_nil, List.length_singleton]; have := h.len2; omega
end
end Go.Eng.S

namespace Go.Eng.S
open Go Go.Eng Go.Proofs
set_option linter.constructorNameAsVariable false
noncomputable section
attribute [local irreducible] bsel barsOf mergeB
theorem hp_some : ∀ {l : List (Nat × AObj)} {b : Nat} {o : AObj}, (b, o) ∈ l → (∀ o', (b, o') ∈ l → o' = o) → (hp l).get b = some o
 | [], _, _, h, _ => by simp at h
 | (c, x) :: r, b, o, h, hu => by
  simp only [hp, PT.get_set]
  split
  ·rename_i e
   subst e
   rw [hu x (List.mem_cons_self ..)]
  ·rename_i e
   rcases List.mem_cons.1 h with h | h
   ·simp only [Prod.mk.injEq] at h
    exact absurd h.1 e
   ·exact hp_some h fun o' ho' => hu o' (List.mem_cons_of_mem _ ho')
def hpX (s : St) (fp : List Nat) : PT AObj := hp (fp.filterMap fun b => (s.h.get b).map fun o => (b, o))
theorem hpX_get {s : St} {fp : List Nat} {b : Nat} {o : AObj} : (hpX s fp).get b = some o ↔ b ∈ fp ∧ s.h.get b = some o := by
 have hmem : ∀ {b o}, (b, o) ∈ fp.filterMap (fun b => (s.h.get b).map fun o => (b, o)) ↔ b ∈ fp ∧ s.h.get b = some o := by
  intro b o
  simp only [List.mem_filterMap, Option.map_eq_some_iff, Prod.mk.injEq]
  constructor
  ·rintro ⟨c, h1, x, h2, rfl, rfl⟩; exact ⟨h1, h2⟩
  ·rintro ⟨h1, h2⟩; exact ⟨b, h1, o, h2, rfl, rfl⟩
 constructor
 ·intro h; exact hmem.1 (hp_get h)
 ·intro h
  refine hp_some (hmem.2 h) fun o' ho' => ?_
  have := (hmem.1 ho').2
  rw [h.2] at this
  simpa using this.symm
theorem Roll.alone {s : St} {r : Nat} {fan : Int} {G : RollF} {fp : List Nat} (h : Roll s r fan G fp) (hf : Fr s) : Roll { s with h := hpX s fp } r fan G fp := by
 refine h.fwd (X := (List.range s.nx).filter fun c => decide (c ∉ fp)) ⟨fun c o hc ho => ?_, Nat.le_refl _, rfl⟩ fun c hc => by simpa using (List.mem_filter.1 hc).2
 have hlt : c < s.nx := by
  refine Classical.byContradiction fun hn => ?_
  rw [hf c (by omega)] at ho; simp at ho
 have : c ∈ fp := by
  refine Classical.byContradiction fun hn => hc ?_
  exact List.mem_filter.2 ⟨List.mem_range.2 hlt, by simpa using hn⟩
 exact hpX_get.2 ⟨this, ho⟩
end
end Go.Eng.S

namespace Go.Eng.S
open Go Go.Eng Go.Proofs
set_option linter.constructorNameAsVariable false
noncomputable section
attribute [local irreducible] bsel barsOf mergeB
section
variable {s : St} {L : List (Edge × Tal)}
end
def PW (R : AV → AV → Prop) (x y : List AV) : Prop := x.length = y.length ∧ ∀ (i : Nat) (b : AV), y[i]? = some b → ∃ a, x[i]? = some a ∧ R a b
theorem PW.nil {R : AV → AV → Prop} : PW R [] [] := ⟨rfl, by simp⟩
theorem PW.cons {R : AV → AV → Prop} {a b : AV} {x y : List AV} (h : R a b) (hs : PW R x y) : PW R (a :: x) (b :: y) :=
 ⟨by simp [hs.1], fun i c hc => by
  cases i with
  | zero => simp at hc; subst hc; exact ⟨a, by simp, h⟩
  | succ i => simpa using hs.2 i c (by simpa using hc)⟩
theorem PW.append {R : AV → AV → Prop} {x y x' y' : List AV} (h : PW R x y) (h' : PW R x' y') : PW R (x ++ x') (y ++ y') := by
 refine ⟨by simp [h.1, h'.1], fun i b hb => ?_⟩
 by_cases c : i < y.length
 ·rw [List.getElem?_append_left c] at hb
  obtain ⟨a, h1, h2⟩ := h.2 i b hb
  exact ⟨a, by rw [List.getElem?_append_left (by rw [h.1]; exact c)]; exact h1, h2⟩
 ·rw [List.getElem?_append_right (by omega)] at hb
  obtain ⟨a, h1, h2⟩ := h'.2 _ b hb
  exact ⟨a, by rw [List.getElem?_append_right (by rw [h.1]; omega), h.1]; exact h1, h2⟩
end
end Go.Eng.S

namespace Go.Eng.S
open Go Go.Eng Go.Proofs
set_option linter.constructorNameAsVariable false
set_option maxRecDepth 4000
noncomputable section
attribute [local irreducible] bsel barsOf mergeB
structure PutR where
 hour : Int
 edge : Edge
 tal : Tal
 bars : AV
def putF (p : PutR) : List AV := [.int .i64 p.hour, .str p.edge.1, .str p.edge.2, .int .u64 p.tal.a.1, .int .u64 p.tal.a.2, .int .u64 p.tal.b.1, .int .u64 p.tal.b.2, .int .u64 p.tal.c.1, .int .u64 p.tal.c.2, p.bars]
def putE : Enc PutR := ⟨putF, 10, by decide, fun _ => rfl⟩
structure FineP (s : St) (p : PutR) : Prop where
 bar : Sl barE s p.bars p.tal.l
 rng : p.tal.Rng
theorem FineP.ext {s s' : St} {p : PutR} (h : FineP s p) (hf : Frw [] s s') : FineP s' p := ⟨h.bar.ext hf, h.rng⟩
def putG (G : RollF) (p : PutR) : RollF := (putR G p.hour p.edge p.tal).1
def fillG (G : RollF) (l : List PutR) : RollF := l.foldl putG G
theorem putG_ne {G : RollF} {p : PutR} {h : Int} {e : Edge} (hn : putG G p h e ≠ .zero) : G h e ≠ .zero ∨ e = p.edge := by
 unfold putG putR at hn
 split at hn
 ·split at hn
  ·simp only [setF] at hn
   split at hn
   ·rename_i c; exact .inr c.2
   ·exact .inl hn
  ·exact .inl hn
 ·exact .inl hn
theorem fillG_ne : ∀ {l : List PutR} {G : RollF} {h : Int} {e : Edge}, fillG G l h e ≠ .zero → G h e ≠ .zero ∨ e ∈ l.map (·.edge)
 | [], _, _, _, hn => .inl hn
 | p :: r, G, h, e, hn => by
  rcases fillG_ne (l := r) hn with h1 | h1
  ·rcases putG_ne h1 with h2 | h2
   ·exact .inl h2
   ·exact .inr (by rw [h2]; exact List.mem_cons_self ..)
  ·exact .inr (List.mem_cons_of_mem _ h1)
structure RollO (s0 s : St) (r : Nat) (fan : Int) (G : RollF) (fp : List Nat) : Prop where
 roll : Roll s r fan G fp
 new : ∀ c, c ∈ fp → s0.h.get c = none
 there : ∀ c, c ∈ fp → s.h.get c ≠ none
theorem RollO.ext {s0 s s' : St} {r : Nat} {fan : Int} {G : RollF} {fp : List Nat} (h : RollO s0 s r fan G fp) (hf : Frw [] s s') : RollO s0 s' r fan G fp := ⟨h.roll.ext hf, h.new, fun c hc => hf.gone (h.there c hc) (by simp)⟩
theorem nilK_ptr' {t : TypeId} {b o : Nat} {K : Bool → Prop} (h : K true) : nilK (.ptr t) (.ptr b o) false K := by simpa [nilK, nilT] using h
theorem put_step {s0 s : St} {r : Nat} {fan : Int} {G : RollF} {fp : List Nat} (h : RollO s0 s r fan G fp) (f0 : Frw [] s0 s) {p : PutR} (hp : FineP s p) :
  CallsD P F.p_rollup_Rollup_Put [.ptr r 0, .int .i64 p.hour, edgeF p.edge, p.tal.V p.bars] s fun v s' => (v = .int .i64 (putR G p.hour p.edge p.tal).2 ∧ ∃ fp', RollO s0 s' r fan (putG G p) fp' ∧ (∀ c, c ∈ fp' → c ∈ fp ∨ s.h.get c = none)) ∧ Frw [] s0 s' ∧ Frw fp s s' ∧ Fr s' := by
 refine (Put_ok (hh := p.hour) (e := p.edge) h.roll hp.bar hp.rng).mono ?_
 rintro v s' ⟨⟨⟨rfl, fp', q1, q2, q3⟩, g⟩, hfr⟩
 obtain ⟨fp2, hR2, hsub, hth⟩ := q1.trim
 refine ⟨⟨rfl, fp2, ⟨hR2, fun c hc => ?_, hth⟩, fun c hc => q3 c (hsub c hc)⟩, f0.step g h.new, g, hfr⟩
 rcases q3 c (hsub c hc) with h1 | h1
 ·exact h.new c h1
 ·exact f0.none h1 (by simp)
theorem filled_ok {s : St} {fan : Int} {x : AV} {l : List PutR} (hx : Sl putE s x l) (hp : ∀ p, p ∈ l → FineP s p) (hlen : l.length < 9223372036854775808) :
  CallsD P F.spoorlaw15_filled [.int .i64 fan, x] s fun v s' => ((if 2 ≤ fan ∧ fan ≤ 16 then ∃ r fp, v = .ptr r 0 ∧ RollO s s' r fan (fillG zeroF l) fp else v = .nilptr) ∧ Frw [] s s') ∧ Fr s' := by
 refine CallsD.of fun hfr => vc.spoorlaw15_filled_ok ((New_ok (s := s) (fan := fan)).mono ?_)
 rintro v s2 ⟨⟨hv, f2⟩, hfr2⟩
 split at hv
 ·rename_i hfan
  obtain ⟨r, fp0, rfl, hR0, hnew0⟩ := hv
  obtain ⟨fp1, hR1, hsub1, hth1⟩ := hR0.trim
  refine ⟨.ptr r 0, 0, rfl, bsel_of (fun c => by simp at c) fun _ => ?_⟩
  refine ⟨fun n s8 m => ∃ (k : Nat) (fp : List Nat), n = k ∧ m = l.length - k ∧ k ≤ l.length ∧ RollO s s8 r fan (fillG zeroF (l.take k)) fp ∧ Frw [] s s8 ∧ Fr s8, ⟨_, 0, fp1, rfl, rfl, by omega, ⟨hR1, fun c hc => hnew0 c (hsub1 c hc), hth1⟩, f2, hfr2⟩, ?_⟩
  rintro _ s8 _ ⟨k, fp, rfl, rfl, hk, hR, f8, hfr8⟩
  refine (hx.ext f8).slen (bsel_of (fun c => ?_) fun c => ?_)
  ·have c : k < l.length := by simpa using c
   refine nilK_ptr' (bsel_of (fun _ => ?_) fun c => by simp at c)
   intro s12 hB
   have f12 := f8.trans hB.fwd
   have hx12 := hx.ext f12
   refine hx12.ixs rfl rfl c fun b1 o1 hR1 => ⟨_, hR1.ld1 0 rfl, hx12.ixs rfl rfl c fun b2 o2 hR2 => ⟨_, _, hR2.ldN 1 2 (by simp [putE, putF]), hx12.ixs rfl rfl c fun b3 o3 hR3 => ⟨_, _, _, _, _, _, l[k].bars, hR3.ldN 3 7 (by simp [putE, putF]), ?_⟩⟩⟩
   refine (put_step (p := l[k]) (hR.ext hB.fwd) f12 ((hp _ (List.getElem_mem c)).ext f12)).mono ?_
   rintro v s30 ⟨⟨rfl, fp', h1, h2⟩, h3, _, h4⟩
   refine ⟨_, rfl, l.length - (k + 1), by omega, k + 1, fp', wrap_succ (by omega), rfl, by omega, ?_, h3, h4⟩
   rw [← List.take_append_getElem c]
   unfold fillG at h1 ⊢
   rw [List.foldl_append]
   exact h1
  ·have c : k = l.length := by simp at c; omega
   subst c
   rw [List.take_length] at hR
   exact ⟨by rw [if_pos hfan]; exact ⟨r, fp, rfl, hR⟩, f8⟩
 ·rename_i hfan
  subst hv
  exact ⟨.nilptr, 1, rfl, bsel_of (fun _ => ⟨by rw [if_neg hfan], f2⟩) fun c => by simp at c⟩
end
end Go.Eng.S

namespace Go.Eng.S
open Go Go.Eng Go.Proofs
set_option linter.constructorNameAsVariable false
set_option maxRecDepth 4000
noncomputable section
attribute [local irreducible] bsel barsOf mergeB
theorem EtS.fwd {s0 s s' : St} {x : AV} {L : List ET} {M : List Nat} (h : EtS s0 s x L) (hf : Frw M s s') (hM : ∀ c, c ∈ M → s0.h.get c ≠ none) : EtS s0 s' x L where
 so := h.so.beside hf fun c hc hx => hM c hc (h.new c hx)
 bars := fun y hy => ⟨(h.bars y hy).1.beside hf fun c hc => .inr fun hx => hM c hc ((h.bars y hy).2 c hx), (h.bars y hy).2⟩
 new := h.new
theorem EtS.base {s0 s1 s : St} {x : AV} {L : List ET} (h : EtS s1 s x L) (hf : Frw [] s0 s1) : EtS s0 s x L where
 so := h.so
 bars := fun y hy => ⟨(h.bars y hy).1, fun c hc => hf.none ((h.bars y hy).2 c hc) (by simp)⟩
 new := fun c hc => hf.none (h.new c hc) (by simp)
theorem window_ok {s : St} {r : Nat} {fan : Int} {G : RollF} {fp : List Nat} (hR : Roll s r fan G fp) {a w : Int} (ha : 0 ≤ a ∧ a ≤ 2097152) (hw : 0 ≤ w ∧ w ≤ 33554432) {E0 : List Edge} (hE : ∀ h e, G h e ≠ .zero → e ∈ E0) (hb : (E0.length + 1 + (E0.length + 1) / 4 + 600) * 104 ≤ pow48) :
  CallsA P F.p_rollup_Rollup_window [.ptr r 0, .int .i64 a, .int .i64 w] s fun v s' => (∃ x L, v = .agg [.int .i64 a, .int .i64 w, x] ∧ EtS s s' x L ∧ ToldL (sumH G hR.good a (a + w)) (etP L)) ∧ Frw [] s s' ∧ Fr s' := by
 refine vc.p_rollup_Rollup_window_ok ?_
 intro m1 s2 h2
 rw [wrap_i64 (by omega) (by omega)]
 refine (sum_ok (hR.ext h2.fwd) (a := a) (b := a + w) hE hb).mono ?_
 rintro v s4 ⟨⟨L, h1, h3⟩, h4, h5⟩
 have hv : Sl etE s4 v L := h1.et.so.sl
 refine ⟨v, rfl, hv.one ?_⟩
 obtain ⟨s6, w1, w2, w3, w4, w5, w6⟩ := (h2.own.ext h4).wrAll [.int .i64 a, .int .i64 w, v] (hv.onesx []) rfl
 refine ⟨s6, w1, _, _, _, w2.all rfl, ⟨v, L, rfl, (h1.et.fwd w3 fun c hc => ?_).base h2.fwd, h3⟩, (h2.fwd.trans h4).step w3 (by simpa using h2.gone), h5.wr (h2.own.ext h4).there w4 w6⟩
 have : c = m1 := by simpa using hc
 rw [this]; exact h2.own.there
structure WinR where
 at_ : Int
 width : Int
 x : AV
 L : List ET
def winF (w : WinR) : List AV := [.int .i64 w.at_, .int .i64 w.width, w.x]
def winE : Enc WinR := ⟨winF, 3, by decide, fun _ => rfl⟩
def chainW (a : Int) : List WinR → Int → Prop
 | [], b => a = b
 | w :: r, b => w.at_ = a ∧ 1 ≤ w.width ∧ Int.tmod a w.width = 0 ∧ chainW (a + w.width) r b
theorem chainW_snoc {w : WinR} : ∀ {W : List WinR} {a b : Int}, chainW a W b → w.at_ = b → 1 ≤ w.width → Int.tmod b w.width = 0 → chainW a (W ++ [w]) (b + w.width)
 | [], a, b, h, h1, h2, h3 => by
  have h : a = b := h
  subst h
  exact ⟨h1, h2, h3, rfl⟩
 | v :: r, a, b, ⟨g1, g2, g3, g4⟩, h1, h2, h3 => ⟨g1, g2, g3, chainW_snoc g4 h1 h2 h3⟩
theorem chainW_len : ∀ {W : List WinR} {a b : Int}, chainW a W b → a + W.length ≤ b
 | [], a, b, h => by have h : a = b := h; simp; omega
 | v :: r, a, b, ⟨_, g2, _, g4⟩ => by have := chainW_len g4; simp only [List.length_cons]; omega
structure WinS (s0 s : St) (G : RollF) (hG : RollG G) (x : AV) (W : List WinR) : Prop where
 so : So winE s x W
 new : ∀ c, c ∈ blkOf x → s0.h.get c = none
 each : ∀ w, w ∈ W → Sl etE s w.x w.L ∧ Apart w.x x ∧ (∀ y, y ∈ w.L → Sl barE s y.2.2 y.2.1.l ∧ Apart y.2.2 x) ∧ ToldL (sumH G hG w.at_ (w.at_ + w.width)) (etP w.L)
theorem WinS.ext {s0 s s' : St} {G : RollF} {hG : RollG G} {x : AV} {W : List WinR} (h : WinS s0 s G hG x W) (hf : Frw [] s s') : WinS s0 s' G hG x W where
 so := h.so.ext hf
 new := h.new
 each := fun w hw => by
  obtain ⟨h1, h2, h3, h4⟩ := h.each w hw
  exact ⟨h1.ext hf, h2, fun y hy => ⟨(h3 y hy).1.ext hf, (h3 y hy).2⟩, h4⟩
theorem WinS.next {s0 s s1 s2 : St} {G : RollF} {hG : RollG G} {x : AV} {W : List WinR} {m : Nat} {w : WinR} (h : WinS s0 s G hG x W) (f0 : Frw [] s0 s) (hfr : Fr s) (hw : EtS s s1 w.x w.L) (ht : ToldL (sumH G hG w.at_ (w.at_ + w.width)) (etP w.L)) (f1 : Frw [] s s1) (hN : NewO s1 (cellsO (winF w)) m s2) (hlen : W.length ≤ 4194304) :
  ∃ x' s3, appendX D s2 T.sl_api_Window T.sl_api_Window x (.slice m 0 1 (.exact 1)) = some (x', s3) ∧ WinS s0 s3 G hG x' (W ++ [w]) ∧ Frw [] s0 s3 ∧ Fr s3 := by
 have f2 := f1.trans hN.fwd
 obtain ⟨x', s3, q1, q2, q3, q4, q5, q6⟩ := So.append' (a := w) (h.so.ext f2) ty.sl_api_Window rfl ty.api_Window rfl rfl rfl (show ones (winF w) = true by have := hw.so.sl.onesx []; simpa [winF, ones] using this) hN.own.rd rfl (show (W.length + 1 + (W.length + 1) / 4 + 600) * 40 ≤ pow48 by unfold pow48; omega) (by unfold pow48; omega) hN.fr
 have old : ∀ c, s2.h.get c ≠ none → c ∉ blkOf x' := fun c hc hx => by
  rw [q4] at hx
  have : c = s2.nx := by simpa using hx
  rw [this] at hc
  exact hc (hN.fr _ (Nat.le_refl _))
 have hth := So.there h.so
 refine ⟨x', s3, q1, ⟨q2, fun c hc => ?_, fun v hv => ?_⟩, (f0.trans f2).step q3 h.new, q5⟩
 ·rw [q4] at hc
  have : c = s2.nx := by simpa using hc
  rw [this]
  exact (f0.trans f2).none (hN.fr _ (Nat.le_refl _)) (by simp)
 ·rcases List.mem_append.1 hv with hv | hv
  ·obtain ⟨h1, h2, h3, h4⟩ := h.each v hv
   have h12 := h1.ext f2
   refine ⟨h12.beside q3 fun c hc => .inr fun hx => h2 c hx hc, fun c hc => old c (Sl.there h12 c hc), fun y hy => ?_, h4⟩
   have h32 := (h3 y hy).1.ext f2
   exact ⟨h32.beside q3 fun c hc => .inr fun hx => (h3 y hy).2 c hx hc, fun c hc => old c (Sl.there h32 c hc)⟩
  ·have : v = w := by simpa using hv
   subst this
   have h12 := hw.so.sl.ext hN.fwd
   refine ⟨h12.beside q3 fun c hc => .inr fun hx => hth c hc (hw.new c hx), fun c hc => old c (Sl.there h12 c hc), fun y hy => ?_, ht⟩
   have h32 := (hw.bars y hy).1.ext hN.fwd
   exact ⟨h32.beside q3 fun c hc => .inr fun hx => hth c hc ((hw.bars y hy).2 c hx), fun c hc => old c (Sl.there h32 c hc)⟩
end
end Go.Eng.S

namespace Go.Eng.S
open Go Go.Eng Go.Proofs
set_option linter.constructorNameAsVariable false
set_option maxRecDepth 4000
noncomputable section
attribute [local irreducible] bsel barsOf mergeB
end
end Go.Eng.S

