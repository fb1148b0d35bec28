/-
  Calls put to a rollup, a range of them: plain laws, and a rollup's own blocks.
  Calls put to a rollup, a range of them: the walk.
  A rollup's blocks alone; a list of sums as it may be laid.
  The sums of a range as one thing.
  A rollup that puts are put to.
  A range's windows.
  A range is covered by windows.
-/
import Derived.Test.YteidlkjofcbcmaaSRstoSRn
import Derived.Test.YteidlkjofcbcmaaSPatoSRe
import Derived.Test.YteidlkjofcbcmaaW15to21
import Derived.Test.YteidlkjofcbcmaaSVr4
import Derived.Test.YteidlkjofcbcmaaSVr5
namespace Go.Eng.S
open Go Go.Eng Go.Proofs
set_option linter.constructorNameAsVariable false
noncomputable section
attribute [local irreducible] bsel barsOf mergeB

/-! ### A rollup's own blocks are there -/
theorem Roll.trim {s : St} {r : Nat} {fan : Int} {G : RollF} {fp : List Nat} (h : Roll s r fan G fp) : ∃ fp', Roll s r fan G fp' ∧ (∀ c, c ∈ fp' → c ∈ fp) ∧ ∀ c, c ∈ fp' → s.h.get c ≠ none := by
  obtain ⟨m, M, h⟩ := h
  have hin : ∀ {c}, c ∈ fp → s.h.get c ≠ none → c ∈ fp.filter fun c => (s.h.get c).isSome := by
    intro c h1 h2
    refine List.mem_filter.2 ⟨h1, ?_⟩
    cases e : s.h.get c with
    | none => exact absurd e h2
    | some => rfl
  refine ⟨fp.filter fun c => (s.h.get c).isSome, ⟨m, M, h.own, h.map, h.good, hin h.rf h.own.there, hin h.mf h.map.there, fun hh x hx => ?_, h.none, h.inj⟩, fun c hc => (List.mem_filter.1 hc).1, fun c hc => ?_⟩
  · obtain ⟨b, N, h1, h2, h3, h4⟩ := h.inner hh x hx
    refine ⟨b, N, h1, ⟨h2.map, h2.ne, fun e v hv => ?_, h2.none⟩, hin h3 h2.map.there, h4⟩
    obtain ⟨z, g1, g2, g3, g4⟩ := h2.some e v hv
    exact ⟨z, g1, g2, g3, fun c hc => hin (g4 c hc) (g2.there c hc)⟩
  · have := (List.mem_filter.1 hc).2
    intro e
    rw [e] at this; simp at this
/-! ### What calls come to -/
def oneG (c : CallR) : GT := toGT (oneT c)
/-- What an hour's edge has of calls. -/
def gK : List CallR → Int → Edge → GT
  | [], _, _ => .zero
  | c :: r, h, e => if c.hour = h ∧ c.edge = e then (oneG c).plus (gK r h e) else gK r h e
theorem gK_snoc : ∀ (K : List CallR) (c : CallR) (h : Int) (e : Edge), gK (K ++ [c]) h e = if c.hour = h ∧ c.edge = e then (gK K h e).plus (oneG c) else gK K h e
  | [], c, h, e => by
    simp only [List.nil_append, gK]
    split
    · exact GT.comm _ _
    · rfl
  | d :: r, c, h, e => by
    simp only [List.cons_append, gK, gK_snoc r c h e]
    by_cases h1 : d.hour = h ∧ d.edge = e
    · rw [if_pos h1, if_pos h1]
      split
      · exact (GT.assoc _ _ _).symm
      · rfl
    · rw [if_neg h1, if_neg h1]
theorem gK_ne {K : List CallR} {h : Int} {e : Edge} (hn : gK K h e ≠ .zero) : e ∈ K.map (·.edge) := by
  induction K with
  | nil => exact absurd rfl hn
  | cons c r ih =>
    simp only [gK] at hn
    split at hn
    · rename_i hc
      exact List.mem_map.2 ⟨c, List.mem_cons_self .., hc.2⟩
    · rw [List.map_cons]
      exact List.mem_cons_of_mem _ (ih hn)
theorem gsum_if {H : List Int} (hH : H.Nodup) (f : Int → GT) (k : Int) (a : GT) : gsum (H.map fun h => if k = h then a.plus (f h) else f h) = if k ∈ H then a.plus (gsum (H.map f)) else gsum (H.map f) := by
  induction H with
  | nil => simp
  | cons x r ih =>
    obtain ⟨h1, h2⟩ := List.nodup_cons.1 hH
    simp only [List.map_cons, gsum]
    rw [ih h2]
    by_cases e : k = x
    · subst e
      rw [if_pos rfl, if_neg h1, if_pos (List.mem_cons_self ..), GT.assoc]
    · rw [if_neg e]
      by_cases hk : k ∈ r
      · rw [if_pos hk, if_pos (List.mem_cons_of_mem _ hk), ← GT.assoc, GT.comm (f x) a, GT.assoc]
      · rw [if_neg hk, if_neg (by simp [e, hk])]
def callsIn (a b : Int) (K : List CallR) : List (Edge × Tal) := (K.filter fun c => decide (a ≤ c.hour) && decide (c.hour < b)).map fun c => (c.edge, oneT c)
theorem sumE_calls (a b : Int) (K : List CallR) (e : Edge) : sumE (callsIn a b K) e = gsum ((hrs a b).map fun h => gK K h e) := by
  induction K with
  | nil =>
    symm
    refine gsum_zero fun x hx => ?_
    obtain ⟨h, _, rfl⟩ := List.mem_map.1 hx
    rfl
  | cons c r ih =>
    have e1 : (fun h => gK (c :: r) h e) = fun h => if c.hour = h then (if c.edge = e then (oneG c).plus (gK r h e) else gK r h e) else gK r h e := by
      funext h
      simp only [gK]
      by_cases h1 : c.hour = h <;> by_cases h2 : c.edge = e <;> simp [h1, h2]
    rw [e1]
    by_cases h2 : c.edge = e
    · simp only [h2, if_true]
      rw [gsum_if (hrs_nodup a b), ← ih]
      unfold callsIn
      by_cases h3 : c.hour ∈ hrs a b
      · rw [if_pos h3, List.filter_cons_of_pos (by simpa using mem_hrs.1 h3), List.map_cons]
        unfold sumE
        rw [List.filter_cons_of_pos (by simpa using h2), List.map_cons]
        rfl
      · rw [if_neg h3, List.filter_cons_of_neg (by rw [mem_hrs] at h3; simpa using h3)]
    · simp only [h2, if_false, ite_self]
      rw [← ih]
      unfold callsIn
      by_cases h3 : c.hour ∈ hrs a b
      · rw [List.filter_cons_of_pos (by simpa using mem_hrs.1 h3), List.map_cons]
        unfold sumE
        rw [List.filter_cons_of_neg (by simpa using h2)]
      · rw [List.filter_cons_of_neg (by rw [mem_hrs] at h3; simpa using h3)]

/-- A rollup holds what calls come to. -/
def Holds (G : RollF) (K : List CallR) : Prop := ∀ h e, G h e = (gK K h e).1
theorem Holds.put {G : RollF} {K : List CallR} (h : Holds G K) {c : CallR} (hc : c.Rng) : Holds (setF G c.hour c.edge ((G c.hour c.edge).plus (oneT c))) (K ++ [c]) := by
  intro hh e
  rw [gK_snoc]
  unfold setF
  by_cases h1 : c.hour = hh ∧ c.edge = e
  · rw [if_pos h1, if_pos ⟨h1.1.symm, h1.2.symm⟩, h, h1.1, h1.2]
    show _ = (gK K hh e).1.plus (oneG c).1
    unfold oneG
    rw [toGT_val (oneT_ok hc) (oneT_rng hc)]
  · rw [if_neg h1, if_neg (fun h => h1 ⟨h.1.symm, h.2.symm⟩)]
    exact h hh e
theorem Holds.sum {G : RollF} {K : List CallR} (h : Holds G K) (hG : RollG G) (a b : Int) : sumH G hG a b = sumE (callsIn a b K) := by
  funext e
  rw [sumE_calls]
  unfold sumH
  congr 1
  exact List.map_congr_left fun x _ => Subtype.ext (h x e)
theorem Holds.mem {G : RollF} {K : List CallR} (h : Holds G K) (hh : Int) (e : Edge) (hn : G hh e ≠ .zero) : e ∈ K.map (·.edge) := by
  rw [h] at hn
  exact gK_ne (GT.val_ne.1 hn)
end
end Go.Eng.S

namespace Go.Eng.S
open Go Go.Eng Go.Proofs
set_option linter.constructorNameAsVariable false
set_option maxRecDepth 4000
noncomputable section
attribute [local irreducible] bsel barsOf mergeB

theorem nilK_ptr {t : TypeId} {b o : Nat} {K : Bool → Prop} (h : K false) : nilK (.ptr t) (.ptr b o) true K := by simpa [nilK, nilT] using h
theorem nilK_nilptr {t : TypeId} {K : Bool → Prop} (h : K true) : nilK (.ptr t) .nilptr true K := by simpa [nilK, nilT] using h
theorem Fr.ne {s : St} (h : Fr s) {c : Nat} (hc : s.h.get c ≠ none) : c ≠ s.nx := by
  rintro rfl; exact hc (h _ (Nat.le_refl _))

theorem sz_le {k n c : Nat} (hk : k ≤ n + 2) (hc : c ≤ 104) (hlen : (n + 2 + (n + 2) / 4 + 600) * 104 ≤ pow48) : (k + k / 4 + 600) * c ≤ pow48 := Nat.le_trans (Nat.mul_le_mul (by omega) hc) hlen
theorem sz_le' {k n : Nat} (hk : k ≤ n + 2) (hlen : (n + 2 + (n + 2) / 4 + 600) * 104 ≤ pow48) : k ≤ pow48 := Nat.le_trans (by omega) hlen
/-- The lists of those that are in the range. -/
structure ListsI (s67 : St) (a b : Int) (K : List CallR) (x : AV) (s : St) (j : Nat) (XS : List (AV × List ET)) : Prop where
  so : So lsE s x XS
  new : ∀ c, c ∈ blkOf x → s67.h.get c = none
  each : ∀ p, p ∈ XS → (∀ c, c ∈ blkOf p.1 → c ∉ blkOf x) ∧ Sl etE s p.1 p.2 ∧ ∀ y, y ∈ p.2 → FineE s y ∧ ∀ c, c ∈ blkOf y.2.2 → c ∉ blkOf x
  told : etP (XS.flatMap (·.2)) = callsIn a b (K.take j)
  len : XS.length ≤ j
  len2 : (XS.flatMap (·.2)).length ≤ j
theorem callsIn_succ {a b : Int} {K : List CallR} {j : Nat} (hj : j < K.length) : callsIn a b (K.take (j + 1)) = callsIn a b (K.take j) ++ (if decide (a ≤ K[j].hour) && decide (K[j].hour < b) then [(K[j].edge, oneT K[j])] else []) := by
  rw [← List.take_append_getElem hj]
  unfold callsIn
  rw [List.filter_append, List.map_append]
  congr 1
  cases h : (decide (a ≤ K[j].hour) && decide (K[j].hour < b)) <;> simp [h]
theorem ListsI.skip {s67 : St} {a b : Int} {K : List CallR} {x : AV} {s : St} {j : Nat} {XS : List (AV × List ET)} (h : ListsI s67 a b K x s j XS) (hj : j < K.length) (hn : ¬ (a ≤ K[j].hour ∧ K[j].hour < b)) : ListsI s67 a b K x s (j + 1) XS where
  so := h.so
  new := h.new
  each := h.each
  told := by
    rw [callsIn_succ hj, if_neg (by simpa using hn), List.append_nil]; exact h.told
  len := by have := h.len; omega
  len2 := by have := h.len2; omega
theorem FineE.ext {s s' : St} {y : ET} (h : FineE s y) (hf : Frw [] s s') : FineE s' y := ⟨h.bar.ext hf, h.ok, h.rng, h.ne⟩

/-- One list more. -/
theorem ListsI.next {s67 : St} {a b : Int} {K : List CallR} {x : AV} {s75 s84 s97 : St} {j : Nat} {XS : List (AV × List ET)} (h : ListsI s67 a b K x s75 j XS) (f75 : Frw [] s67 s75) (hfr75 : Fr s75) (hB : Bump s75 16 s84) (hj : j < K.length) (hin : a ≤ K[j].hour ∧ K[j].hour < b) (hr : K[j].Rng) (hlen : (K.length + 2 + (K.length + 2) / 4 + 600) * 104 ≤ pow48) {z : AV} (hz : Sl barE s97 z (oneT K[j]).l) (hg : Gone s84 z) (f97 : Frw [] s84 s97) (hG : Gro s84 s97) :
    ∃ (x' : AV) (s' : St), appendX D (hsetS (hsetS s97 (s75.nx + 13) (cellsO [.slice (s75.nx + 12) 0 1 (.exact 1)])) (s75.nx + 12) (cellsO (etF (K[j].edge, oneT K[j], z)))) T.sl_sl_api_EdgeTally T.sl_sl_api_EdgeTally x (.slice (s75.nx + 13) 0 1 (.exact 1)) = some (x', s') ∧ ListsI s67 a b K x' s' (j + 1) (XS ++ [(.slice (s75.nx + 12) 0 1 (.exact 1), [(K[j].edge, oneT K[j], z)])]) ∧ Frw [] s67 s' ∧ Fr s' := by
  have hfree13 : s97.h.get (s75.nx + 13) = none := bump_free hB (by omega) hG
  have hfree12 : s97.h.get (s75.nx + 12) = none := bump_free hB (by omega) hG
  have hnx : s75.nx + 16 ≤ s97.nx := by have := hB.lt; have := hG.2.1; omega
  have p1 := hsetS_fwd (o := cellsO [.slice (s75.nx + 12) 0 1 (.exact 1)]) hfree13
  have x1 := hsetS_own (s := s97) (b := s75.nx + 13) (cs := [.slice (s75.nx + 12) 0 1 (.exact 1)])
  have y1 := hsetS_fr (o := cellsO [.slice (s75.nx + 12) 0 1 (.exact 1)]) hG.1 (show s75.nx + 13 < s97.nx by omega)
  have free12 : (hsetS s97 (s75.nx + 13) (cellsO [.slice (s75.nx + 12) 0 1 (.exact 1)])).h.get (s75.nx + 12) = none := by
    simp only [hsetS, PT.get_set]; rw [if_neg (by omega)]; exact hfree12
  have hnxA : (hsetS s97 (s75.nx + 13) (cellsO [.slice (s75.nx + 12) 0 1 (.exact 1)])).nx = s97.nx := rfl
  generalize hsetS s97 (s75.nx + 13) (cellsO [.slice (s75.nx + 12) 0 1 (.exact 1)]) = sA at p1 x1 y1 free12 hnxA ⊢
  have p2 := hsetS_fwd (o := cellsO (etF (K[j].edge, oneT K[j], z))) free12
  have x2 := hsetS_own (s := sA) (b := s75.nx + 12) (cs := etF (K[j].edge, oneT K[j], z))
  have y2 := hsetS_fr (o := cellsO (etF (K[j].edge, oneT K[j], z))) y1 (show s75.nx + 12 < sA.nx by omega)
  generalize hsetS sA (s75.nx + 12) (cellsO (etF (K[j].edge, oneT K[j], z))) = sB at p2 x2 y2 ⊢
  have fB : Frw [] s97 sB := p1.trans p2
  have f75B : Frw [] s75 sB := (hB.fwd.trans f97).trans fB
  have hjl := h.len
  have hb1 : (XS.length + 1 + (XS.length + 1) / 4 + 600) * 24 ≤ pow48 := sz_le (by omega) (by omega) hlen
  have hb2 : XS.length + 1 ≤ pow48 := sz_le' (by omega) hlen
  obtain ⟨x', s', q1, q2, q3, q4, q5, q6⟩ := So.append' (a := ((.slice (s75.nx + 12) 0 1 (.exact 1), [(K[j].edge, oneT K[j], z)]) : AV × List ET)) (h.so.ext f75B) ty.sl_sl_api_EdgeTally rfl ty.sl_api_EdgeTally rfl rfl rfl rfl (x1.ext p2).rd rfl hb1 hb2 y2
  have hthere : ∀ c, c ∈ blkOf x → s75.h.get c ≠ none := So.there h.so
  have n12 : ∀ c, c ∈ blkOf x → c ≠ s75.nx + 12 := by
    rintro c hc rfl
    exact hthere _ hc (hfr75 _ (by omega))
  have x2' := x2.fwd q3 fun hc => n12 _ hc rfl
  have hz' : Sl barE s' z (oneT K[j]).l := (hz.ext fB).beside q3 fun c hc => .inr fun hcz => hB.fwd.gone (hthere c hc) (by simp) (hg c hcz)
  have old : ∀ c, sB.h.get c ≠ none → c ∉ blkOf x' := by
    intro c hc hx
    rw [q4] at hx
    have : c = sB.nx := by simpa using hx
    exact Fr.ne y2 hc this
  refine ⟨x', s', q1, ⟨q2, fun c hc => ?_, fun p hp => ?_, ?_, ?_, ?_⟩, (f75.trans f75B).step q3 h.new, q5⟩
  · rw [q4] at hc
    have : c = sB.nx := by simpa using hc
    rw [this]
    exact (f75.trans f75B).none (y2 _ (Nat.le_refl _)) (by simp)
  · rcases List.mem_append.1 hp with hp | hp
    · obtain ⟨e1, e2, e3⟩ := h.each p hp
      have e2B := e2.ext f75B
      refine ⟨fun c hc => old c (Sl.there e2B c hc), e2B.beside q3 fun c hc => .inr fun hcp => e1 c hcp hc, fun y hy => ?_⟩
      obtain ⟨g1, g2⟩ := e3 y hy
      have g1B := g1.ext f75B
      exact ⟨⟨g1B.bar.beside q3 fun c hc => .inr fun hcp => g2 c hcp hc, g1.ok, g1.rng, g1.ne⟩, fun c hc => old c (Sl.there g1B.bar c hc)⟩
    · have : p = (.slice (s75.nx + 12) 0 1 (.exact 1), [(K[j].edge, oneT K[j], z)]) := by simpa using hp
      subst this
      refine ⟨fun c hc => old c ?_, .inr ⟨_, 0, 1, .exact 1, rfl, rfl, ?_⟩, fun y hy => ?_⟩
      · have : c = s75.nx + 12 := by simpa [blkOf] using hc
        rw [this]; exact x2.there
      · have := x2'.rd
        simpa [etE] using this
      · have : y = (K[j].edge, oneT K[j], z) := by simpa using hy
        subst this
        exact ⟨⟨hz', oneT_ok hr, oneT_rng hr, oneT_ne _⟩, fun c hc => old c (Sl.there (hz.ext fB) c hc)⟩
  · rw [callsIn_succ hj, if_pos (by simpa using hin), List.flatMap_append, etP_append, h.told]
    rfl
  · rw [List.length_append, List.length_singleton]; have := h.len; omega
  · rw [List.flatMap_append, List.length_append, List.flatMap_cons, List.flatMap_nil, List.append_nil, List.length_singleton]; have := h.len2; omega

end
end Go.Eng.S

namespace Go.Eng.S
open Go Go.Eng Go.Proofs
set_option linter.constructorNameAsVariable false
noncomputable section
attribute [local irreducible] bsel barsOf mergeB

/-! ### Clean blocks -/
def ClB (s : St) (b : Nat) : Prop := ∃ o, s.h.get b = some o ∧ ClO o
theorem cl_own {s : St} {b : Nat} {cs : List AV} (h : Own s b cs) (hc : ∀ a, a ∈ cs → cln a = true) : ClB s b := by
  obtain ⟨c, h1, h2⟩ := h
  refine ⟨_, h1, fun i a hi ha => ?_⟩
  obtain ⟨_, hg⟩ := PT.getAll_spec _ c 0 _ h2
  have := hg i hi
  rw [Nat.zero_add, ha] at this
  exact hc a (List.mem_iff_getElem?.2 ⟨i, this.symm⟩)
theorem cl_map {κ : Type} [DecidableEq κ] {f : κ → AV} {s : St} {b : Nat} {m : List (κ × AV)} (h : MapS f s b m) (hf : ∀ k, cln (f k) = true) (hv : ∀ k v, mget m k = some v → cln v = true) : ClB s b := by
  have hnd := h.nodup
  obtain ⟨es, clock, h1, rfl, _⟩ := h
  refine ⟨_, h1, fun e he => ?_⟩
  simp only [encE, List.mem_map] at he
  obtain ⟨e', he', rfl⟩ := he
  refine ⟨hf _, hv e'.1 e'.2.1 (mget_of_mem hnd ?_)⟩
  simp only [kv, List.mem_map]
  exact ⟨e', he', rfl⟩
theorem bar_int {l : List Bar} {a : AV} (h : a ∈ l.flatMap barE.f) : ∃ k n, a = .int k n := by
  obtain ⟨p, _, hp⟩ := List.mem_flatMap.1 h
  simp [barE] at hp
  rcases hp with rfl | rfl
  · exact ⟨_, _, rfl⟩
  · exact ⟨_, _, rfl⟩
theorem cl_so {s : St} {z : AV} {l : List Bar} (h : So barE s z l) : ∀ c, c ∈ blkOf z → ClB s c := by
  rcases h with ⟨rfl, _⟩ | ⟨b1, k1, n1, c1, rfl, _, q3, q4⟩
  · simp [blkOf]
  · intro c hc
    have : c = b1 := by simpa [blkOf] using hc
    subst this
    refine ⟨_, q3, fun i a hi ha => ?_⟩
    obtain ⟨_, hg⟩ := PT.getAll_spec _ c1 0 _ q4
    have := hg i hi
    rw [Nat.zero_add, ha] at this
    obtain ⟨k, n, rfl⟩ := bar_int (List.mem_iff_getElem?.2 ⟨i, this.symm⟩)
    rfl
theorem so_cln {s : St} {z : AV} {l : List Bar} (h : So barE s z l) : cln z = true := by
  rcases h with ⟨rfl, _⟩ | ⟨b1, k1, n1, c1, rfl, _, _, _⟩ <;> rfl

open Classical in
/-- The blocks that a rollup is, and no others. -/
theorem Roll.trimC {s : St} {r : Nat} {fan : Int} {G : RollF} {fp : List Nat} (h : Roll s r fan G fp) : ∃ fp', Roll s r fan G fp' ∧ (∀ c, c ∈ fp' → c ∈ fp) ∧ ∀ c, c ∈ fp' → ClB s c := by
  obtain ⟨m, M, h⟩ := h
  have hin : ∀ {c}, c ∈ fp → ClB s c → c ∈ fp.filter fun c => decide (ClB s c) := fun h1 h2 => List.mem_filter.2 ⟨h1, by simpa using h2⟩
  have hr : ClB s r := cl_own h.own (by simp [cln])
  have hm : ClB s m := cl_map h.map (fun _ => rfl) fun k v hv => by
    obtain ⟨b, N, rfl, _⟩ := h.inner k v hv
    rfl
  refine ⟨fp.filter fun c => decide (ClB s c), ⟨m, M, h.own, h.map, h.good, hin h.rf hr, hin h.mf hm, fun hh x hx => ?_, h.none, h.inj⟩, fun c hc => (List.mem_filter.1 hc).1, fun c hc => by simpa using (List.mem_filter.1 hc).2⟩
  obtain ⟨b, N, h1, h2, h3, h4⟩ := h.inner hh x hx
  have hb : ClB s b := cl_map h2.map (fun _ => rfl) fun k v hv => by
    obtain ⟨z, rfl, g2, _⟩ := h2.some k v hv
    simp [Tal.V, cln, clnL, so_cln g2]
  refine ⟨b, N, h1, ⟨h2.map, h2.ne, fun e v hv => ?_, h2.none⟩, hin h3 hb, h4⟩
  obtain ⟨z, g1, g2, g3, g4⟩ := h2.some e v hv
  exact ⟨z, g1, g2, g3, fun c hc => hin (g4 c hc) (cl_so g2 c hc)⟩

/-! ### A rollup alone -/
theorem hp_some : ∀ {l : List (Nat × AObj)} {b : Nat} {o : AObj}, (b, o) ∈ l → (∀ o', (b, o') ∈ l → o' = o) → (hp l).get b = some o
  | [], _, _, h, _ => by simp at h
  | (c, x) :: r, b, o, h, hu => by
    simp only [hp, PT.get_set]
    split
    · rename_i e
      subst e
      rw [hu x (List.mem_cons_self ..)]
    · rename_i e
      rcases List.mem_cons.1 h with h | h
      · simp only [Prod.mk.injEq] at h
        exact absurd h.1 e
      · exact hp_some h fun o' ho' => hu o' (List.mem_cons_of_mem _ ho')
def hpX (s : St) (fp : List Nat) : PT AObj := hp (fp.filterMap fun b => (s.h.get b).map fun o => (b, o))
theorem hpX_get {s : St} {fp : List Nat} {b : Nat} {o : AObj} : (hpX s fp).get b = some o ↔ b ∈ fp ∧ s.h.get b = some o := by
  have hmem : ∀ {b o}, (b, o) ∈ fp.filterMap (fun b => (s.h.get b).map fun o => (b, o)) ↔ b ∈ fp ∧ s.h.get b = some o := by
    intro b o
    simp only [List.mem_filterMap, Option.map_eq_some_iff, Prod.mk.injEq]
    constructor
    · rintro ⟨c, h1, x, h2, rfl, rfl⟩; exact ⟨h1, h2⟩
    · rintro ⟨h1, h2⟩; exact ⟨b, h1, o, h2, rfl, rfl⟩
  constructor
  · intro h; exact hmem.1 (hp_get h)
  · intro h
    refine hp_some (hmem.2 h) fun o' ho' => ?_
    have := (hmem.1 ho').2
    rw [h.2] at this
    simpa using this.symm
theorem Roll.alone {s : St} {r : Nat} {fan : Int} {G : RollF} {fp : List Nat} (h : Roll s r fan G fp) (hf : Fr s) : Roll { s with h := hpX s fp } r fan G fp := by
  refine h.fwd (X := (List.range s.nx).filter fun c => decide (c ∉ fp)) ⟨fun c o hc ho => ?_, Nat.le_refl _, rfl⟩ fun c hc => by simpa using (List.mem_filter.1 hc).2
  have hlt : c < s.nx := by
    refine Classical.byContradiction fun hn => ?_
    rw [hf c (by omega)] at ho; simp at ho
  have : c ∈ fp := by
    refine Classical.byContradiction fun hn => hc ?_
    exact List.mem_filter.2 ⟨List.mem_range.2 hlt, by simpa using hn⟩
  exact hpX_get.2 ⟨this, ho⟩

/-! ### As it may be laid -/
def zV (s : St) (t : Tal) (i : Nat) : AV := if t.l = [] then .nilslice else .slice (s.nx + 1 + i) 0 t.l.length (.var (s.nc + 1 + i) 0)
def canL (s : St) (L : List (Edge × Tal)) : List ET := L.mapIdx fun i p => (p.1, p.2, zV s p.2 i)
def zO (s : St) (t : Tal) (i : Nat) : AObj := .cells (PT.setAll .nil 0 (t.l.flatMap barE.f)) (t.l.length * 2) (some (s.nc + 1 + i, 2))
def putZ (s : St) (h : PT AObj) : List (Edge × Tal) → Nat → PT AObj
  | [], _ => h
  | p :: r, i => if p.2.l = [] then putZ s h r (i + 1) else (putZ s h r (i + 1)).set (s.nx + 1 + i) (zO s p.2 i)
theorem putZ_get {s : St} {h : PT AObj} : ∀ {L : List (Edge × Tal)} {i b : Nat}, (putZ s h L i).get b = (match (if s.nx + 1 + i ≤ b then L[b - (s.nx + 1 + i)]? else none) with
    | some p => if p.2.l = [] then h.get b else some (zO s p.2 (b - (s.nx + 1)))
    | none => h.get b)
  | [], i, b => by simp [putZ]
  | p :: r, i, b => by
    have ih := putZ_get (s := s) (h := h) (L := r) (i := i + 1) (b := b)
    have hne : b ≠ s.nx + 1 + i → (putZ s h (p :: r) i).get b = (putZ s h r (i + 1)).get b := by
      intro hb
      simp only [putZ]
      split
      · rfl
      · rw [PT.get_set, if_neg hb]
    by_cases hb : b = s.nx + 1 + i
    · subst hb
      rw [if_pos (Nat.le_refl _), Nat.sub_self, List.getElem?_cons_zero]
      rw [if_neg (by omega)] at ih
      simp only [putZ]
      split
      · rename_i e
        rw [ih]
      · rename_i e
        rw [PT.get_set_same, show s.nx + 1 + i - (s.nx + 1) = i by omega]
    · rw [hne hb, ih]
      by_cases hc : s.nx + 1 + i ≤ b
      · rw [if_pos hc, if_pos (by omega), show b - (s.nx + 1 + i) = b - (s.nx + 1 + (i + 1)) + 1 by omega, List.getElem?_cons_succ]
      · rw [if_neg hc, if_neg (by omega)]
def mainO (s : St) (L : List (Edge × Tal)) : AObj := .cells (PT.setAll .nil 0 ((canL s L).flatMap etF)) (L.length * 9) (some (s.nc, 9))
def canS (s : St) (L : List (Edge × Tal)) : St :=
  { s with h := putZ s (if L = [] then s.h else s.h.set s.nx (mainO s L)) L 0, nx := s.nx + 1 + L.length, nc := s.nc + 1 + L.length }
def canV (s : St) (L : List (Edge × Tal)) : AV := if L = [] then .nilslice else .slice s.nx 0 L.length (.var s.nc 0)
end
end Go.Eng.S

namespace Go.Eng.S
open Go Go.Eng Go.Proofs
set_option linter.constructorNameAsVariable false
noncomputable section
attribute [local irreducible] bsel barsOf mergeB

section
variable {s : St} {L : List (Edge × Tal)}
theorem canS_old {b : Nat} (hb : b < s.nx) : (canS s L).h.get b = s.h.get b := by
  show (putZ s _ L 0).get b = _
  rw [putZ_get, if_neg (by omega)]
  simp only
  split
  · rfl
  · rw [PT.get_set, if_neg (by omega)]
theorem canS_main (hL : L ≠ []) : (canS s L).h.get s.nx = some (mainO s L) := by
  show (putZ s _ L 0).get s.nx = _
  rw [putZ_get, if_neg (by omega), if_neg hL]
  simp only
  rw [PT.get_set_same]
theorem canS_main0 (hf : Fr s) (hL : L = []) : (canS s L).h.get s.nx = none := by
  show (putZ s _ L 0).get s.nx = _
  rw [putZ_get, if_neg (by omega), if_pos hL]
  exact hf _ (Nat.le_refl _)
theorem base_none (hf : Fr s) {b : Nat} (hb : s.nx < b) : (if L = [] then s.h else s.h.set s.nx (mainO s L)).get b = none := by
  split
  · exact hf _ (by omega)
  · rw [PT.get_set, if_neg (by omega)]; exact hf _ (by omega)
theorem canS_z (hf : Fr s) {i : Nat} (hi : i < L.length) : (canS s L).h.get (s.nx + 1 + i) = if L[i].2.l = [] then none else some (zO s L[i].2 i) := by
  show (putZ s _ L 0).get (s.nx + 1 + i) = _
  rw [putZ_get, if_pos (by omega), show s.nx + 1 + i - (s.nx + 1 + 0) = i by omega, List.getElem?_eq_getElem hi]
  simp only
  rw [base_none hf (by omega)]
theorem canS_top (hf : Fr s) {b : Nat} (hb : s.nx + 1 + L.length ≤ b) : (canS s L).h.get b = none := by
  show (putZ s _ L 0).get b = _
  rw [putZ_get, if_pos (by omega), List.getElem?_eq_none (by omega)]
  simp only
  exact base_none hf (by omega)
theorem canS_fr (hf : Fr s) : Fr (canS s L) := fun b hb => canS_top hf hb
theorem canS_gro (hf : Fr s) : Gro s (canS s L) := ⟨canS_fr hf, by show s.nx ≤ s.nx + 1 + L.length; omega, fun b hb hn => by rw [canS_old hb]; exact hn⟩
theorem canS_frw (hf : Fr s) : Frw [] s (canS s L) := ⟨fun b o _ ho => by
  have : b < s.nx := by
    refine Classical.byContradiction fun hn => ?_
    rw [hf b (by omega)] at ho; simp at ho
  rw [canS_old this]; exact ho, by show s.nx ≤ s.nx + 1 + L.length; omega, rfl⟩
theorem canL_len : (canL s L).length = L.length := by simp [canL]
theorem canL_at {i : Nat} (hi : i < L.length) : (canL s L)[i]'(by rw [canL_len]; exact hi) = (L[i].1, L[i].2, zV s L[i].2 i) := by simp [canL]
theorem canL_etP : etP (canL s L) = L := by
  refine List.ext_getElem (by rw [etP_len, canL_len]) fun i h1 h2 => ?_
  rw [etP_at (by rw [canL_len]; exact h2), canL_at h2]
theorem etF_flat (l : List ET) : (l.flatMap etF).length = l.length * 9 := etE.flat_len l
theorem setAll_all {cs : List AV} {n : Nat} (h : cs.length = n) : (PT.setAll .nil 0 cs).getAll 0 n = some cs := by
  refine getAll_of h fun i hi => ?_
  rw [Nat.zero_add, PT.get_setAll, if_pos (by omega)]
  simp
theorem setAll_at {cs : List AV} {i : Nat} (h : i < cs.length) : (PT.setAll .nil 0 cs : PT AV).get i = cs[i]? := by
  rw [PT.get_setAll, if_pos (by omega)]
  simp

theorem can_ets (hf : Fr s) : EtS s (canS s L) (canV s L) (canL s L) where
  so := by
    unfold canV
    split
    · rename_i h
      subst h
      exact .nil _ _
    · rename_i h
      refine .inr ⟨s.nx, s.nc, L.length, _, rfl, ?_, canS_main h, ?_⟩
      · exact (etF_flat _).trans (by rw [canL_len]; rfl)
      · exact setAll_all ((etF_flat _).trans (by rw [canL_len]; rfl))
  bars := fun y hy => by
    obtain ⟨i, hi, rfl⟩ := List.mem_iff_getElem.1 hy
    rw [canL_len] at hi
    rw [canL_at hi]
    unfold zV
    by_cases h : L[i].2.l = []
    · simp only [h, if_true]
      exact ⟨.nil _ _, by simp [blkOf]⟩
    · simp only [h, if_false]
      refine ⟨.inr ⟨_, 0, _, _, rfl, barE.flat_len _, _, _, _, (canS_z hf hi).trans (if_neg h), by rw [barE.flat_len]; exact Nat.le_of_eq (by rw [Nat.zero_add]; rfl), ?_⟩, fun c hc => ?_⟩
      · exact setAll_all rfl
      · have : c = s.nx + 1 + i := by simpa [blkOf] using hc
        rw [this]; exact hf _ (by omega)
  new := fun c hc => by
    unfold canV at hc
    split at hc
    · simp [blkOf] at hc
    · have : c = s.nx := by simpa [blkOf] using hc
      rw [this]; exact hf _ (Nat.le_refl _)
end

/-! ### What has come is that -/
def capK : AV → Option Nat
  | .slice _ _ _ (.var k _) => some k
  | _ => none
/-- Pointwise. -/
def PW (R : AV → AV → Prop) (x y : List AV) : Prop := x.length = y.length ∧ ∀ (i : Nat) (b : AV), y[i]? = some b → ∃ a, x[i]? = some a ∧ R a b
theorem PW.nil {R : AV → AV → Prop} : PW R [] [] := ⟨rfl, by simp⟩
theorem PW.cons {R : AV → AV → Prop} {a b : AV} {x y : List AV} (h : R a b) (hs : PW R x y) : PW R (a :: x) (b :: y) :=
  ⟨by simp [hs.1], fun i c hc => by
    cases i with
    | zero => simp at hc; subst hc; exact ⟨a, by simp, h⟩
    | succ i => simpa using hs.2 i c (by simpa using hc)⟩
theorem PW.append {R : AV → AV → Prop} {x y x' y' : List AV} (h : PW R x y) (h' : PW R x' y') : PW R (x ++ x') (y ++ y') := by
  refine ⟨by simp [h.1, h'.1], fun i b hb => ?_⟩
  by_cases c : i < y.length
  · rw [List.getElem?_append_left c] at hb
    obtain ⟨a, h1, h2⟩ := h.2 i b hb
    exact ⟨a, by rw [List.getElem?_append_left (by rw [h.1]; exact c)]; exact h1, h2⟩
  · rw [List.getElem?_append_right (by omega)] at hb
    obtain ⟨a, h1, h2⟩ := h'.2 _ b hb
    exact ⟨a, by rw [List.getElem?_append_right (by rw [h.1]; omega), h.1]; exact h1, h2⟩
theorem PW.flat {R : AV → AV → Prop} : ∀ {X Y : List ET}, X.length = Y.length → (∀ i (h1 : i < X.length) (h2 : i < Y.length), PW R (etF X[i]) (etF Y[i])) → PW R (X.flatMap etF) (Y.flatMap etF)
  | [], [], _, _ => .nil
  | [], _ :: _, h, _ => by simp at h
  | _ :: _, [], h, _ => by simp at h
  | x :: X, y :: Y, hl, h => by
    rw [List.flatMap_cons, List.flatMap_cons]
    exact (h 0 (by simp) (by simp)).append (PW.flat (by simpa using hl) fun i h1 h2 => h (i + 1) (by simpa using h1) (by simpa using h2))

theorem iso_of {s s1 : St} {fp : List Nat} {v1 : AV} {L1 : List ET} (hf : Fr s) (hE : EtO { s with h := hpX s fp } s1 v1 L1) (hw : Frw [] { s with h := hpX s fp } s1) : ∃ θ κ, Iso s (hpX s fp) v1 s1 (canV s (etP L1)) (canS s (etP L1)) θ κ := by
  have hlen : (etP L1).length = L1.length := etP_len L1
  have hnil : etP L1 = [] ↔ L1 = [] := by
    rw [← List.length_eq_zero_iff, hlen, List.length_eq_zero_iff]
  let θ : Nat → Option Nat := fun b => if b = s.nx then (blkOf v1).head? else (if s.nx + 1 ≤ b then L1[b - (s.nx + 1)]? else none).bind fun y => (blkOf y.2.2).head?
  let κ : Nat → Option Nat := fun k => if k = s.nc then capK v1 else (if s.nc + 1 ≤ k then L1[k - (s.nc + 1)]? else none).bind fun y => capK y.2.2
  have θ0 : θ s.nx = (blkOf v1).head? := if_pos rfl
  have κ0 : κ s.nc = capK v1 := if_pos rfl
  have θi : ∀ i (hi : i < L1.length), θ (s.nx + 1 + i) = (blkOf L1[i].2.2).head? := fun i hi => by
    show (if s.nx + 1 + i = s.nx then _ else _) = _
    rw [if_neg (by omega), if_pos (by omega), show s.nx + 1 + i - (s.nx + 1) = i by omega, List.getElem?_eq_getElem hi]
    rfl
  have κi : ∀ i (hi : i < L1.length), κ (s.nc + 1 + i) = capK L1[i].2.2 := fun i hi => by
    show (if s.nc + 1 + i = s.nc then _ else _) = _
    rw [if_neg (by omega), if_pos (by omega), show s.nc + 1 + i - (s.nc + 1) = i by omega, List.getElem?_eq_getElem hi]
    rfl
  have θtop : ∀ b, s.nx + 1 + L1.length ≤ b → θ b = none := fun b hb => by
    show (if b = s.nx then _ else _) = _
    rw [if_neg (by omega), if_pos (by omega), List.getElem?_eq_none (by omega)]
    rfl
  have κtop : ∀ b, s.nc + 1 + L1.length ≤ b → κ b = none := fun b hb => by
    show (if b = s.nc then _ else _) = _
    rw [if_neg (by omega), if_pos (by omega), List.getElem?_eq_none (by omega)]
    rfl
  have where_ : ∀ b, s.nx ≤ b → b = s.nx ∨ (∃ i, ∃ _ : i < L1.length, b = s.nx + 1 + i) ∨ s.nx + 1 + L1.length ≤ b := by
    intro b hb
    rcases Nat.eq_or_lt_of_le hb with h | h
    · exact .inl h.symm
    · rcases Nat.lt_or_ge b (s.nx + 1 + L1.length) with h2 | h2
      · exact .inr (.inl ⟨b - (s.nx + 1), by omega, by omega⟩)
      · exact .inr (.inr h2)
  have head : ∀ {x : AV} {d : Nat}, (blkOf x).head? = some d → d ∈ blkOf x := fun h => List.mem_of_mem_head? (by rw [h]; rfl)
  -- an element's list
  have zcv : ∀ i (hi : i < L1.length), CV s θ κ L1[i].2.2 (zV s L1[i].2.1 i) := by
    intro i hi
    obtain ⟨h1, h2⟩ := hE.bso _ (List.getElem_mem hi)
    have t1 := θi i hi
    have t2 := κi i hi
    unfold zV
    by_cases h : L1[i].2.1.l = []
    · rw [if_pos h, h2 h]; exact .nilslice
    · rw [if_neg h]
      rcases h1 with ⟨_, h3⟩ | ⟨d, q, m, c, e, g1, g2, g3⟩
      · have := congrArg List.length h3
        rw [barE.flat_len] at this
        have h0 : L1[i].2.1.l.length ≠ 0 := fun h0 => h (List.length_eq_zero_iff.1 h0)
        simp only [List.length_nil] at this
        exact absurd this (Nat.mul_ne_zero h0 (by decide))
      · rw [barE.flat_len] at g1
        have hm : L1[i].2.1.l.length = m := Nat.eq_of_mul_eq_mul_right barE.pos g1
        rw [e] at t1 t2 ⊢
        rw [hm]
        exact .slice 0 m (by omega) t1 (by omega) t2
  refine ⟨θ, κ, fun b o hb => hw.1 b o (by simp) hb, fun b hb => canS_old hb, fun b o0 hb ho => ?_, fun b b' d hb hb' h1 h2 => ?_, fun b hb => θtop b (by rw [← hlen]; exact hb), fun k hk => κtop k (by rw [← hlen]; exact hk), ?_, (canS_frw hf).2.1, by show s.nc ≤ s.nc + 1 + _; omega, rfl, hw.2.2⟩
  · rcases where_ b hb with rfl | ⟨i, hi, rfl⟩ | h
    · -- the list
      have hL : etP L1 ≠ [] := fun h => by rw [canS_main0 hf h] at ho; simp at ho
      rw [canS_main hL] at ho
      simp only [Option.some.injEq] at ho
      subst ho
      rcases hE.et.so with ⟨_, h3⟩ | ⟨d, q, m, c, e, g1, g2, g3⟩
      · have := congrArg List.length h3
        rw [etE.flat_len] at this
        have h0 : L1.length ≠ 0 := fun h0 => hL (hnil.2 (List.length_eq_zero_iff.1 h0))
        exact absurd this (Nat.mul_ne_zero h0 (by decide))
      · rw [etE.flat_len] at g1
        have hm : L1.length = m := Nat.eq_of_mul_eq_mul_right etE.pos g1
        rw [e] at θ0 κ0
        refine ⟨d, _, θ0, g2, hE.et.new d (by rw [e]; simp [blkOf]), ?_⟩
        unfold mainO
        rw [hlen, ← hm]
        refine .mk (by decide) (Nat.le_refl _) κ0 fun i a0 hi ha => ?_
        have hcl : ((canL s (etP L1)).flatMap etF).length = L1.length * 9 := by rw [etF_flat, canL_len, hlen]
        rw [setAll_at (by rw [hcl]; exact hi)] at ha
        have pw : PW (CV s θ κ) (L1.flatMap etF) ((canL s (etP L1)).flatMap etF) := by
          refine PW.flat (by rw [canL_len, hlen]) fun j h1 h2 => ?_
          rw [canL_at (by rw [hlen]; exact h1), etP_at h1]
          exact .cons (.str _) (.cons (.str _) (.cons (.int _ _) (.cons (.int _ _) (.cons (.int _ _) (.cons (.int _ _) (.cons (.int _ _) (.cons (.int _ _) (.cons (zcv j h1) .nil))))))))
        obtain ⟨a1, k1, k2⟩ := pw.2 i a0 ha
        obtain ⟨_, hg⟩ := PT.getAll_spec _ c 0 _ g3
        have := hg i (by rw [← hm]; exact hi)
        rw [Nat.zero_add] at this
        exact ⟨a1, by rw [this]; exact k1, k2⟩
    · rw [canS_z hf (by rw [hlen]; exact hi), etP_at hi] at ho
      split at ho
      · simp at ho
      · rename_i h
        simp only [Option.some.injEq] at ho
        subst ho
        have t1 := θi i hi
        have t2 := κi i hi
        obtain ⟨h1, h2⟩ := hE.bso _ (List.getElem_mem hi)
        have hnew := (hE.et.bars _ (List.getElem_mem hi)).2
        rcases h1 with ⟨_, h3⟩ | ⟨d, q, m, c, e, g1, g2, g3⟩
        · have := congrArg List.length h3
          rw [barE.flat_len] at this
          have h0 : L1[i].2.1.l.length ≠ 0 := fun h0 => h (List.length_eq_zero_iff.1 h0)
          exact absurd this (Nat.mul_ne_zero h0 (by decide))
        · rw [barE.flat_len] at g1
          have hm : L1[i].2.1.l.length = m := Nat.eq_of_mul_eq_mul_right barE.pos g1
          rw [e] at t1 t2
          refine ⟨d, _, t1, g2, hnew d (by rw [e]; simp [blkOf]), ?_⟩
          unfold zO
          rw [← hm]
          refine .mk (by decide) (by omega) t2 fun j a0 hj ha => ?_
          have hcl : (L1[i].2.1.l.flatMap barE.f).length = L1[i].2.1.l.length * 2 := barE.flat_len _
          rw [setAll_at (by rw [hcl]; exact hj)] at ha
          obtain ⟨_, hg⟩ := PT.getAll_spec _ c 0 _ g3
          have := hg j (by rw [← hm]; exact hj)
          rw [Nat.zero_add, ha] at this
          obtain ⟨k, n, rfl⟩ := bar_int (List.mem_iff_getElem?.2 ⟨j, ha⟩)
          exact ⟨_, this, .int _ _⟩
    · rw [canS_top hf (by rw [hlen]; exact h)] at ho
      simp at ho
  · rcases where_ b hb with rfl | ⟨i, hi, rfl⟩ | h
    · rw [θ0] at h1
      rcases where_ b' hb' with rfl | ⟨j, hj, rfl⟩ | h'
      · rfl
      · rw [θi j hj] at h2
        exact absurd (head h1) (hE.sep _ (List.getElem_mem hj) d (head h2))
      · rw [θtop b' h'] at h2; simp at h2
    · rw [θi i hi] at h1
      rcases where_ b' hb' with rfl | ⟨j, hj, rfl⟩ | h'
      · rw [θ0] at h2
        exact absurd (head h2) (hE.sep _ (List.getElem_mem hi) d (head h1))
      · rw [θi j hj] at h2
        have hp := List.pairwise_iff_getElem.1 hE.apart
        rcases Nat.lt_trichotomy i j with c | c | c
        · exact absurd (head h2) (hp i j hi hj c d (head h1))
        · rw [c]
        · exact absurd (head h1) (hp j i hj hi c d (head h2))
      · rw [θtop b' h'] at h2; simp at h2
    · rw [θtop b h] at h1; simp at h1
  · unfold canV
    by_cases h : etP L1 = []
    · rw [if_pos h, hE.isnil (hnil.1 h)]; exact .nilslice
    · rw [if_neg h]
      rcases hE.et.so with ⟨_, h3⟩ | ⟨d, q, m, c, e, g1, g2, g3⟩
      · have := congrArg List.length h3
        rw [etE.flat_len] at this
        have h0 : L1.length ≠ 0 := fun h0 => h (hnil.2 (List.length_eq_zero_iff.1 h0))
        exact absurd this (Nat.mul_ne_zero h0 (by decide))
      · rw [etE.flat_len] at g1
        have hm : L1.length = m := Nat.eq_of_mul_eq_mul_right etE.pos g1
        rw [e] at θ0 κ0
        rw [hlen, hm]
        rw [e]
        exact .slice 0 m (Nat.le_refl _) θ0 (Nat.le_refl _) κ0

/-- There is such a list. -/
theorem told_exists : ∀ (E0 : List Edge) (S : Edge → GT), (∀ e, S e ≠ .zero → e ∈ E0) → ∃ L, ToldL S L
  | [], S, h => ⟨[], ToldL.none fun e => Classical.byContradiction fun hn => by simpa using h e hn⟩
  | e :: r, S, h => by
    obtain ⟨L, hL⟩ := told_exists r (fun x => if x = e then .zero else S x) fun x hx => by
      by_cases c : x = e
      · rw [if_pos c] at hx; exact absurd rfl hx
      · rw [if_neg c] at hx
        rcases List.mem_cons.1 (h x hx) with h1 | h1
        · exact absurd h1 c
        · exact h1
    by_cases h0 : S e = .zero
    · refine ⟨L, ?_⟩
      have : (fun x => if x = e then .zero else S x) = S := funext fun x => by
        by_cases c : x = e
        · rw [if_pos c, c, h0]
        · rw [if_neg c]
      rw [← this]; exact hL
    · have hne : ∀ p, p ∈ L → p.1 ≠ e := fun p hp c => by
        have := hL.at hp
        rw [c, if_pos rfl] at this
        exact this.2 this.1
      have hx : addE (fun x => if x = e then .zero else S x) e (S e) = S := funext fun x => by
        unfold addE
        by_cases c : x = e
        · rw [if_pos c]; simp only; rw [if_pos c, GT.zero_plus, c]
        · rw [if_neg c]; simp only; rw [if_neg c]
      rw [← hx]
      refine ⟨_, hL.ins (k := L.findIdx fun p => ssLt e p.1) (fun i hi hlt => ?_) (fun i hi hge => ?_) h0⟩
      · have h1 := List.not_of_lt_findIdx hlt
        have h1 : ssLt e L[i].1 = false := by simpa using h1
        cases h2 : ssLt L[i].1 e with
        | true => rfl
        | false => exact absurd (ssLt_total h2 h1) (hne _ (List.getElem_mem hi))
      · have hk : (L.findIdx fun p => ssLt e p.1) < L.length := by omega
        have h1 := List.findIdx_getElem (w := hk)
        rcases Nat.eq_or_lt_of_le hge with c | c
        · subst c; exact h1
        · exact ssLt_trans h1 (hL.lt c hi)
theorem sumR_ne {G : RollF} {hG : RollG G} {a b : Int} {E0 : List Edge} (hE : ∀ h e, G h e ≠ .zero → e ∈ E0) (e : Edge) (h : sumR G hG a b e ≠ .zero) : e ∈ E0 := by
  refine Classical.byContradiction fun hn => h ?_
  unfold sumR
  split
  · refine gsum_zero fun x hx => ?_
    obtain ⟨h', _, rfl⟩ := List.mem_map.1 hx
    exact Subtype.ext (Classical.byContradiction fun h0 => hn (hE h' e h0))
  · rfl

/-- The sums of a range: one thing. -/
theorem edges_okD {s : St} {r : Nat} {fan : Int} {G : RollF} {fp : List Nat} (hR : Roll s r fan G fp) {a b : Int} {E0 : List Edge} (hE : ∀ h e, G h e ≠ .zero → e ∈ E0) (hb : (E0.length + 1 + (E0.length + 1) / 4 + 600) * 104 ≤ pow48) :
    CallsD P F.spoorlaw15_edges [.ptr r 0, .int .i64 a, .int .i64 b] s fun v s' => ((∃ L, EtS s s' v L ∧ ToldL (sumR G hR.good a b) (etP L)) ∧ Frw [] s s') ∧ Fr s' := by
  obtain ⟨fp', hR', _, hcl⟩ := hR.trimC
  refine CallsD.fr fun hf => ?_
  have hG := hR.good
  obtain ⟨L0, hL0⟩ := told_exists E0 (sumR G hG a b) (sumR_ne hE)
  refine CallsD.canon (s0 := canS s L0) (v0 := canV s L0) (hR := hpX s fp') (fun b o hb => ?_) (edges_ok (hR'.alone hf) hE hb) (fun v1 s1 hq => ?_) (fun hf => canS_gro hf) fun hf => ⟨⟨⟨canL s L0, can_ets hf, ?_⟩, canS_frw hf⟩, canS_fr hf⟩
  · obtain ⟨h1, h2⟩ := hpX_get.1 hb
    obtain ⟨o', h3, h4⟩ := hcl b h1
    rw [h2] at h3
    simp only [Option.some.injEq] at h3
    subst h3
    exact ⟨h2, h4⟩
  · obtain ⟨⟨L1, g1, g2⟩, g3, _⟩ := hq
    have : L0 = etP L1 := hL0.unique g2
    rw [this]
    exact iso_of hf g1 g3
  · rw [canL_etP]; exact hL0
end
end Go.Eng.S

namespace Go.Eng.S
open Go Go.Eng Go.Proofs
set_option linter.constructorNameAsVariable false
set_option maxRecDepth 4000
noncomputable section
attribute [local irreducible] bsel barsOf mergeB

/-- What is put: the hour, the edge, the tally, its list of bars. -/
structure PutR where
  hour : Int
  edge : Edge
  tal : Tal
  bars : AV
def putF (p : PutR) : List AV := [.int .i64 p.hour, .str p.edge.1, .str p.edge.2, .int .u64 p.tal.a.1, .int .u64 p.tal.a.2, .int .u64 p.tal.b.1, .int .u64 p.tal.b.2, .int .u64 p.tal.c.1, .int .u64 p.tal.c.2, p.bars]
def putE : Enc PutR := ⟨putF, 10, by decide, fun _ => rfl⟩
structure FineP (s : St) (p : PutR) : Prop where
  bar : Sl barE s p.bars p.tal.l
  rng : p.tal.Rng
theorem FineP.ext {s s' : St} {p : PutR} (h : FineP s p) (hf : Frw [] s s') : FineP s' p := ⟨h.bar.ext hf, h.rng⟩
def putG (G : RollF) (p : PutR) : RollF := (putR G p.hour p.edge p.tal).1
def fillG (G : RollF) (l : List PutR) : RollF := l.foldl putG G
theorem putG_ne {G : RollF} {p : PutR} {h : Int} {e : Edge} (hn : putG G p h e ≠ .zero) : G h e ≠ .zero ∨ e = p.edge := by
  unfold putG putR at hn
  split at hn
  · split at hn
    · simp only [setF] at hn
      split at hn
      · rename_i c; exact .inr c.2
      · exact .inl hn
    · exact .inl hn
  · exact .inl hn
theorem fillG_ne : ∀ {l : List PutR} {G : RollF} {h : Int} {e : Edge}, fillG G l h e ≠ .zero → G h e ≠ .zero ∨ e ∈ l.map (·.edge)
  | [], _, _, _, hn => .inl hn
  | p :: r, G, h, e, hn => by
    rcases fillG_ne (l := r) hn with h1 | h1
    · rcases putG_ne h1 with h2 | h2
      · exact .inl h2
      · exact .inr (by rw [h2]; exact List.mem_cons_self ..)
    · exact .inr (List.mem_cons_of_mem _ h1)

/-- A rollup of its own, new since s0. -/
structure RollO (s0 s : St) (r : Nat) (fan : Int) (G : RollF) (fp : List Nat) : Prop where
  roll : Roll s r fan G fp
  new : ∀ c, c ∈ fp → s0.h.get c = none
  there : ∀ c, c ∈ fp → s.h.get c ≠ none
theorem RollO.ext {s0 s s' : St} {r : Nat} {fan : Int} {G : RollF} {fp : List Nat} (h : RollO s0 s r fan G fp) (hf : Frw [] s s') : RollO s0 s' r fan G fp := ⟨h.roll.ext hf, h.new, fun c hc => hf.gone (h.there c hc) (by simp)⟩

theorem nilK_ptr' {t : TypeId} {b o : Nat} {K : Bool → Prop} (h : K true) : nilK (.ptr t) (.ptr b o) false K := by simpa [nilK, nilT] using h
/-- One more is put. -/
theorem put_step {s0 s : St} {r : Nat} {fan : Int} {G : RollF} {fp : List Nat} (h : RollO s0 s r fan G fp) (f0 : Frw [] s0 s) {p : PutR} (hp : FineP s p) :
    CallsD P F.p_rollup_Rollup_Put [.ptr r 0, .int .i64 p.hour, edgeF p.edge, p.tal.V p.bars] s fun v s' => (v = .int .i64 (putR G p.hour p.edge p.tal).2 ∧ ∃ fp', RollO s0 s' r fan (putG G p) fp' ∧ (∀ c, c ∈ fp' → c ∈ fp ∨ s.h.get c = none)) ∧ Frw [] s0 s' ∧ Frw fp s s' ∧ Fr s' := by
  refine (Put_ok (hh := p.hour) (e := p.edge) h.roll hp.bar hp.rng).mono ?_
  rintro v s' ⟨⟨⟨rfl, fp', q1, q2, q3⟩, g⟩, hfr⟩
  obtain ⟨fp2, hR2, hsub, hth⟩ := q1.trim
  refine ⟨⟨rfl, fp2, ⟨hR2, fun c hc => ?_, hth⟩, fun c hc => q3 c (hsub c hc)⟩, f0.step g h.new, g, hfr⟩
  rcases q3 c (hsub c hc) with h1 | h1
  · exact h.new c h1
  · exact f0.none h1 (by simp)

theorem filled_ok {s : St} {fan : Int} {x : AV} {l : List PutR} (hx : Sl putE s x l) (hp : ∀ p, p ∈ l → FineP s p) (hlen : l.length < 4611686018427387904) :
    CallsD P F.spoorlaw15_filled [.int .i64 fan, x] s fun v s' => ((if 2 ≤ fan ∧ fan ≤ 16 then ∃ r fp, v = .ptr r 0 ∧ RollO s s' r fan (fillG zeroF l) fp else v = .nilptr) ∧ Frw [] s s') ∧ Fr s' := by
  refine CallsD.of fun hfr => vc.spoorlaw15_filled_ok ((New_ok (s := s) (fan := fan)).mono ?_)
  rintro v s2 ⟨⟨hv, f2⟩, hfr2⟩
  split at hv
  · rename_i hfan
    obtain ⟨r, fp0, rfl, hR0, hnew0⟩ := hv
    obtain ⟨fp1, hR1, hsub1, hth1⟩ := hR0.trim
    refine ⟨.ptr r 0, 0, rfl, bsel_of (fun c => by simp at c) fun _ => ?_⟩
    refine ⟨fun n s8 m => ∃ (k : Nat) (fp : List Nat), n = k ∧ m = l.length - k ∧ k ≤ l.length ∧ RollO s s8 r fan (fillG zeroF (l.take k)) fp ∧ Frw [] s s8 ∧ Fr s8, ⟨_, 0, fp1, rfl, rfl, by omega, ⟨hR1, fun c hc => hnew0 c (hsub1 c hc), hth1⟩, f2, hfr2⟩, ?_⟩
    rintro _ s8 _ ⟨k, fp, rfl, rfl, hk, hR, f8, hfr8⟩
    refine (hx.ext f8).slen (bsel_of (fun c => ?_) fun c => ?_)
    · have c : k < l.length := by simpa using c
      refine nilK_ptr' (bsel_of (fun _ => ?_) fun c => by simp at c)
      intro s12 hB
      have f12 := f8.trans hB.fwd
      have hx12 := hx.ext f12
      refine hx12.ixs rfl rfl c fun b1 o1 hR1 => ⟨_, hR1.ld1 0 rfl, hx12.ixs rfl rfl c fun b2 o2 hR2 => ⟨_, _, hR2.ldN 1 2 (by simp [putE, putF]), hx12.ixs rfl rfl c fun b3 o3 hR3 => ⟨_, _, _, _, _, _, l[k].bars, hR3.ldN 3 7 (by simp [putE, putF]), ?_⟩⟩⟩
      refine (put_step (p := l[k]) (hR.ext hB.fwd) f12 ((hp _ (List.getElem_mem c)).ext f12)).mono ?_
      rintro v s30 ⟨⟨rfl, fp', h1, h2⟩, h3, _, h4⟩
      refine ⟨_, rfl, l.length - (k + 1), by omega, k + 1, fp', wrap_succ (by omega), rfl, by omega, ?_, h3, h4⟩
      rw [← List.take_append_getElem c]
      unfold fillG at h1 ⊢
      rw [List.foldl_append]
      exact h1
    · have c : k = l.length := by simp at c; omega
      subst c
      rw [List.take_length] at hR
      exact ⟨by rw [if_pos hfan]; exact ⟨r, fp, rfl, hR⟩, f8⟩
  · rename_i hfan
    subst hv
    exact ⟨.nilptr, 1, rfl, bsel_of (fun _ => ⟨by rw [if_neg hfan], f2⟩) fun c => by simp at c⟩
end
end Go.Eng.S

namespace Go.Eng.S
open Go Go.Eng Go.Proofs
set_option linter.constructorNameAsVariable false
set_option maxRecDepth 4000
noncomputable section
attribute [local irreducible] bsel barsOf mergeB

theorem wide_ok {s : St} {r : Nat} {fan : Int} {G : RollF} {fp : List Nat} (hR : Roll s r fan G fp) (hfan : 2 ≤ fan ∧ fan ≤ 16) {k : Nat} (hk : k ≤ 100) :
    CallsD P F.p_rollup_Rollup_wide [.ptr r 0, .int .i64 (k : Int)] s fun v s' => (∃ w ok, v = .tuple [.int .i64 w, .bool ok] ∧ (ok = true → 1 ≤ w ∧ w ≤ 33554432 ∧ k ≤ 21)) ∧ s' = s := by
  obtain ⟨m, M, h⟩ := hR
  refine vc.p_rollup_Rollup_wide_ok (bsel_of (fun c => by simp at c; omega) fun _ => ?_)
  refine ⟨fun n3 n4 s5 m => ∃ i : Nat, n4 = i ∧ m = k - i ∧ i ≤ k ∧ i ≤ 21 ∧ ((2 ^ i : Nat) : Int) ≤ n3 ∧ n3 ≤ 33554432 ∧ s5 = s, ⟨_, 0, rfl, rfl, by omega, by omega, by simp, by omega, rfl⟩, ?_⟩
  rintro n3 _ _ _ ⟨i, rfl, rfl, hi, h21, hpow, hup, rfl⟩
  have hp1 : 0 < 2 ^ i := Nat.pow_pos (by omega)
  refine bsel_of (fun c => ?_) fun c => ⟨⟨n3, true, rfl, fun _ => ⟨by omega, hup, by simp at c; omega⟩⟩, rfl⟩
  have c : i < k := by simpa using c
  refine bsel_of (fun _ => ⟨⟨0, false, rfl, fun h => by simp at h⟩, rfl⟩) fun c2 => ?_
  have c2 : n3 < 2097152 := by simpa using c2
  have hi21 : i < 21 := by
    refine Classical.byContradiction fun hn => ?_
    have : 2 ^ 21 ≤ 2 ^ i := Nat.pow_le_pow_right (by omega) (by omega)
    omega
  have h1 : n3 * 2 ≤ n3 * fan := Int.mul_le_mul_of_nonneg_left hfan.1 (by omega)
  have h2 : n3 * fan ≤ n3 * 16 := Int.mul_le_mul_of_nonneg_left hfan.2 (by omega)
  refine ptrK_of ⟨fan, h.own.ld1 0 rfl, k - (i + 1), by omega, i + 1, wrap_succ (by omega), rfl, by omega, by omega, ?_, ?_, rfl⟩
  · rw [wrap_i64 (by omega) (by omega), Nat.pow_succ]; omega
  · rw [wrap_i64 (by omega) (by omega)]; omega

theorem EtS.fwd {s0 s s' : St} {x : AV} {L : List ET} {M : List Nat} (h : EtS s0 s x L) (hf : Frw M s s') (hM : ∀ c, c ∈ M → s0.h.get c ≠ none) : EtS s0 s' x L where
  so := h.so.beside hf fun c hc hx => hM c hc (h.new c hx)
  bars := fun y hy => ⟨(h.bars y hy).1.beside hf fun c hc => .inr fun hx => hM c hc ((h.bars y hy).2 c hx), (h.bars y hy).2⟩
  new := h.new
theorem EtS.base {s0 s1 s : St} {x : AV} {L : List ET} (h : EtS s1 s x L) (hf : Frw [] s0 s1) : EtS s0 s x L where
  so := h.so
  bars := fun y hy => ⟨(h.bars y hy).1, fun c hc => hf.none ((h.bars y hy).2 c hc) (by simp)⟩
  new := fun c hc => hf.none (h.new c hc) (by simp)

theorem window_ok {s : St} {r : Nat} {fan : Int} {G : RollF} {fp : List Nat} (hR : Roll s r fan G fp) {a w : Int} (ha : 0 ≤ a ∧ a ≤ 2097152) (hw : 0 ≤ w ∧ w ≤ 33554432) {E0 : List Edge} (hE : ∀ h e, G h e ≠ .zero → e ∈ E0) (hb : (E0.length + 1 + (E0.length + 1) / 4 + 600) * 104 ≤ pow48) :
    CallsA P F.p_rollup_Rollup_window [.ptr r 0, .int .i64 a, .int .i64 w] s fun v s' => (∃ x L, v = .agg [.int .i64 a, .int .i64 w, x] ∧ EtS s s' x L ∧ ToldL (sumH G hR.good a (a + w)) (etP L)) ∧ Frw [] s s' ∧ Fr s' := by
  refine vc.p_rollup_Rollup_window_ok ?_
  intro m1 s2 h2
  rw [wrap_i64 (by omega) (by omega)]
  refine (sum_ok (hR.ext h2.fwd) (a := a) (b := a + w) hE hb).mono ?_
  rintro v s4 ⟨⟨L, h1, h3⟩, h4, h5⟩
  have hv : Sl etE s4 v L := h1.et.so.sl
  refine ⟨v, rfl, hv.one ?_⟩
  obtain ⟨s6, w1, w2, w3, w4, w5, w6⟩ := (h2.own.ext h4).wrAll [.int .i64 a, .int .i64 w, v] (hv.onesx []) rfl
  refine ⟨s6, w1, _, _, _, w2.all rfl, ⟨v, L, rfl, (h1.et.fwd w3 fun c hc => ?_).base h2.fwd, h3⟩, (h2.fwd.trans h4).step w3 (by simpa using h2.gone), h5.wr (h2.own.ext h4).there w4 w6⟩
  have : c = m1 := by simpa using hc
  rw [this]; exact h2.own.there

/-! ### Windows -/
structure WinR where
  at_ : Int
  width : Int
  x : AV
  L : List ET
def winF (w : WinR) : List AV := [.int .i64 w.at_, .int .i64 w.width, w.x]
def winE : Enc WinR := ⟨winF, 3, by decide, fun _ => rfl⟩
/-- They go on from one another. -/
def chainW (a : Int) : List WinR → Int → Prop
  | [], b => a = b
  | w :: r, b => w.at_ = a ∧ 1 ≤ w.width ∧ Int.tmod a w.width = 0 ∧ chainW (a + w.width) r b
theorem chainW_snoc {w : WinR} : ∀ {W : List WinR} {a b : Int}, chainW a W b → w.at_ = b → 1 ≤ w.width → Int.tmod b w.width = 0 → chainW a (W ++ [w]) (b + w.width)
  | [], a, b, h, h1, h2, h3 => by
    have h : a = b := h
    subst h
    exact ⟨h1, h2, h3, rfl⟩
  | v :: r, a, b, ⟨g1, g2, g3, g4⟩, h1, h2, h3 => ⟨g1, g2, g3, chainW_snoc g4 h1 h2 h3⟩
theorem chainW_len : ∀ {W : List WinR} {a b : Int}, chainW a W b → a + W.length ≤ b
  | [], a, b, h => by have h : a = b := h; simp; omega
  | v :: r, a, b, ⟨_, g2, _, g4⟩ => by have := chainW_len g4; simp only [List.length_cons]; omega

/-- A list of windows, of one's own. -/
structure WinS (s0 s : St) (G : RollF) (hG : RollG G) (x : AV) (W : List WinR) : Prop where
  so : So winE s x W
  new : ∀ c, c ∈ blkOf x → s0.h.get c = none
  each : ∀ w, w ∈ W → Sl etE s w.x w.L ∧ Apart w.x x ∧ (∀ y, y ∈ w.L → Sl barE s y.2.2 y.2.1.l ∧ Apart y.2.2 x) ∧ ToldL (sumH G hG w.at_ (w.at_ + w.width)) (etP w.L)
theorem WinS.ext {s0 s s' : St} {G : RollF} {hG : RollG G} {x : AV} {W : List WinR} (h : WinS s0 s G hG x W) (hf : Frw [] s s') : WinS s0 s' G hG x W where
  so := h.so.ext hf
  new := h.new
  each := fun w hw => by
    obtain ⟨h1, h2, h3, h4⟩ := h.each w hw
    exact ⟨h1.ext hf, h2, fun y hy => ⟨(h3 y hy).1.ext hf, (h3 y hy).2⟩, h4⟩
theorem WinS.next {s0 s s1 s2 : St} {G : RollF} {hG : RollG G} {x : AV} {W : List WinR} {m : Nat} {w : WinR} (h : WinS s0 s G hG x W) (f0 : Frw [] s0 s) (hfr : Fr s) (hw : EtS s s1 w.x w.L) (ht : ToldL (sumH G hG w.at_ (w.at_ + w.width)) (etP w.L)) (f1 : Frw [] s s1) (hN : NewO s1 (cellsO (winF w)) m s2) (hlen : W.length ≤ 4194304) :
    ∃ x' s3, appendX D s2 T.sl_api_Window T.sl_api_Window x (.slice m 0 1 (.exact 1)) = some (x', s3) ∧ WinS s0 s3 G hG x' (W ++ [w]) ∧ Frw [] s0 s3 ∧ Fr s3 := by
  have f2 := f1.trans hN.fwd
  obtain ⟨x', s3, q1, q2, q3, q4, q5, q6⟩ := So.append' (a := w) (h.so.ext f2) ty.sl_api_Window rfl ty.api_Window rfl rfl rfl (show ones (winF w) = true by have := hw.so.sl.onesx []; simpa [winF, ones] using this) hN.own.rd rfl (show (W.length + 1 + (W.length + 1) / 4 + 600) * 40 ≤ pow48 by unfold pow48; omega) (by unfold pow48; omega) hN.fr
  have old : ∀ c, s2.h.get c ≠ none → c ∉ blkOf x' := fun c hc hx => by
    rw [q4] at hx
    have : c = s2.nx := by simpa using hx
    rw [this] at hc
    exact hc (hN.fr _ (Nat.le_refl _))
  have hth := So.there h.so
  refine ⟨x', s3, q1, ⟨q2, fun c hc => ?_, fun v hv => ?_⟩, (f0.trans f2).step q3 h.new, q5⟩
  · rw [q4] at hc
    have : c = s2.nx := by simpa using hc
    rw [this]
    exact (f0.trans f2).none (hN.fr _ (Nat.le_refl _)) (by simp)
  · rcases List.mem_append.1 hv with hv | hv
    · obtain ⟨h1, h2, h3, h4⟩ := h.each v hv
      have h12 := h1.ext f2
      refine ⟨h12.beside q3 fun c hc => .inr fun hx => h2 c hx hc, fun c hc => old c (Sl.there h12 c hc), fun y hy => ?_, h4⟩
      have h32 := (h3 y hy).1.ext f2
      exact ⟨h32.beside q3 fun c hc => .inr fun hx => (h3 y hy).2 c hx hc, fun c hc => old c (Sl.there h32 c hc)⟩
    · have : v = w := by simpa using hv
      subst this
      have h12 := hw.so.sl.ext hN.fwd
      refine ⟨h12.beside q3 fun c hc => .inr fun hx => hth c hc (hw.new c hx), fun c hc => old c (Sl.there h12 c hc), fun y hy => ?_, ht⟩
      have h32 := (hw.bars y hy).1.ext hN.fwd
      exact ⟨h32.beside q3 fun c hc => .inr fun hx => hth c hc ((hw.bars y hy).2 c hx), fun c hc => old c (Sl.there h32 c hc)⟩

end
end Go.Eng.S

namespace Go.Eng.S
open Go Go.Eng Go.Proofs
set_option linter.constructorNameAsVariable false
set_option maxRecDepth 4000
noncomputable section
attribute [local irreducible] bsel barsOf mergeB

theorem Cover_ok {s : St} {r : Nat} {fan : Int} {G : RollF} {fp : List Nat} (hR : Roll s r fan G fp) (hfan : 2 ≤ fan ∧ fan ≤ 16) {a b : Int} {E0 : List Edge} (hE : ∀ h e, G h e ≠ .zero → e ∈ E0) (hb : (E0.length + 1 + (E0.length + 1) / 4 + 600) * 104 ≤ pow48) :
    CallsA P F.p_rollup_Rollup_Cover [.ptr r 0, .int .i64 a, .int .i64 b] s fun v s' => (if rngOk a b = true then ∃ x W, v = .tuple [x, .int .i64 0] ∧ WinS s s' G hR.good x W ∧ chainW a W b else v = .tuple [.nilslice, .int .i64 151]) ∧ Frw [] s s' ∧ Fr s' := by
  have hG := hR.good
  refine CallsA.fr fun hfr => vc.p_rollup_Rollup_Cover_ok (bsel_of (fun c => ?_) fun c => bsel_of (fun c2 => ?_) fun c2 => bsel_of (fun c3 => ?_) fun c3 => ?_)
  · simp at c
    exact ⟨by rw [if_neg (by simp [rngOk]; omega)], .refl _ _, hfr⟩
  · simp at c c2
    exact ⟨by rw [if_neg (by simp [rngOk]; omega)], .refl _ _, hfr⟩
  · simp at c c2 c3
    exact ⟨by rw [if_neg (by simp [rngOk]; omega)], .refl _ _, hfr⟩
  simp at c c2 c3
  refine ⟨fun n3 x4 s5 m => ∃ W, a ≤ n3 ∧ n3 ≤ b ∧ m = (b - n3).toNat ∧ WinS s s5 G hG x4 W ∧ chainW a W n3 ∧ Frw [] s s5 ∧ Fr s5, ⟨_, [], by omega, by omega, rfl, ⟨.nil _ _, by simp [blkOf], by simp⟩, rfl, .refl _ _, hfr⟩, ?_⟩
  rintro n3 x4 s5 _ ⟨W, h1, h2, rfl, hW, hch, f5, hfr5⟩
  refine bsel_of (fun cb => ?_) fun cb => ?_
  · have cb : n3 < b := by simpa using cb
    refine ⟨fun n9 n10 s11 m => ∃ k : Nat, n10 = k ∧ k ≤ 22 ∧ m = 30 - k ∧ 1 ≤ n9 ∧ n9 ≤ 33554432 ∧ Int.tmod n3 n9 = 0 ∧ n3 + n9 ≤ b ∧ s11 = s5, ⟨_, 1, rfl, by omega, rfl, by omega, by omega, by simp, by omega, rfl⟩, ?_⟩
    rintro n9 _ s6 _ ⟨k, rfl, hk, rfl, g1, g2, g3, g4, rfl⟩
    have hR5 := hR.ext f5
    have hWl := chainW_len hch
    -- a window is taken
    have fin : CallsA P F.p_rollup_Rollup_window [.ptr r 0, .int .i64 n3, .int .i64 n9] s6 fun x17 s18 =>
        ∃ (n19 n20 : Int) (x21 : AV), x17 = .agg [.int .i64 n19, .int .i64 n20, x21] ∧ ∀ (m22 : Nat) (s23 : St), NewO s18 (cellsO [.int .i64 n19, .int .i64 n20, x21]) m22 s23 →
        ∃ (x24 : AV) (s25 : St), appendX D s23 T.sl_api_Window T.sl_api_Window x4 (.slice m22 0 1 (.exact 1)) = some (x24, s25) ∧ ∃ m26, m26 < (b - n3).toNat ∧ ∃ W, a ≤ IntKind.wrap .i64 (n3 + n9) ∧ IntKind.wrap .i64 (n3 + n9) ≤ b ∧ m26 = (b - IntKind.wrap .i64 (n3 + n9)).toNat ∧ WinS s s25 G hG x24 W ∧ chainW a W (IntKind.wrap .i64 (n3 + n9)) ∧ Frw [] s s25 ∧ Fr s25 := by
      refine (window_ok hR5 (a := n3) (w := n9) (by omega) (by omega) hE hb).mono ?_
      rintro v s18 ⟨⟨x, L, rfl, k1, k2⟩, k3, k4⟩
      refine ⟨n3, n9, x, rfl, fun m22 s23 hN => ?_⟩
      obtain ⟨x', s25, q1, q2, q3, q4⟩ := hW.next (w := ⟨n3, n9, x, L⟩) f5 hfr5 k1 k2 k3 hN (by omega)
      rw [wrap_i64 (by omega) (by omega)]
      exact ⟨x', s25, q1, (b - (n3 + n9)).toNat, by omega, _, by omega, by omega, rfl, q2, chainW_snoc (w := ⟨n3, n9, x, L⟩) hch rfl g1 g3, q3, q4⟩
    refine (wide_ok hR5 hfan (k := k) (by omega)).a.mono ?_
    rintro _ s14 ⟨⟨w, ok, rfl, hok⟩, rfl⟩
    refine ⟨w, ok, rfl, bsel_of (fun _ => fin) fun c4 => ?_⟩
    have hok := hok (by simpa using c4)
    refine ⟨by omega, bsel_of (fun _ => fin) fun c5 => bsel_of (fun _ => fin) fun c6 => ?_⟩
    rw [wrap_i64 (by omega) (by omega)] at c6
    simp only [decide_eq_false_iff_not] at c6
    exact ⟨30 - (k + 1), by omega, k + 1, wrap_succ (by omega), by omega, rfl, by omega, by omega, by simpa using c5, by omega, rfl⟩
  · have cb : n3 = b := by simp at cb; omega
    subst cb
    exact ⟨by rw [if_pos (by simp [rngOk]; omega)]; exact ⟨x4, W, rfl, hW, hch⟩, f5, hfr5⟩
end
end Go.Eng.S

