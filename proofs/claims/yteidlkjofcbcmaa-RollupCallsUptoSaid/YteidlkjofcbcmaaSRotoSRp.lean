/-
  Calls put to a rollup, a range of them: plain laws, and a rollup's own blocks.
  Calls put to a rollup, a range of them: the walk.
-/
import Derived.Test.YteidlkjofcbcmaaSRstoSRn
import Derived.Test.YteidlkjofcbcmaaSPatoSRe
namespace Go.Eng.S
open Go Go.Eng Go.Proofs
set_option linter.constructorNameAsVariable false
noncomputable section
attribute [local irreducible] bsel barsOf mergeB

/-! ### A rollup's own blocks are there -/
theorem Roll.trim {s : St} {r : Nat} {fan : Int} {G : RollF} {fp : List Nat} (h : Roll s r fan G fp) : ∃ fp', Roll s r fan G fp' ∧ (∀ c, c ∈ fp' → c ∈ fp) ∧ ∀ c, c ∈ fp' → s.h.get c ≠ none := by
  obtain ⟨m, M, h⟩ := h
  have hin : ∀ {c}, c ∈ fp → s.h.get c ≠ none → c ∈ fp.filter fun c => (s.h.get c).isSome := by
    intro c h1 h2
    refine List.mem_filter.2 ⟨h1, ?_⟩
    cases e : s.h.get c with
    | none => exact absurd e h2
    | some => rfl
  refine ⟨fp.filter fun c => (s.h.get c).isSome, ⟨m, M, h.own, h.map, h.good, hin h.rf h.own.there, hin h.mf h.map.there, fun hh x hx => ?_, h.none, h.inj⟩, fun c hc => (List.mem_filter.1 hc).1, fun c hc => ?_⟩
  · obtain ⟨b, N, h1, h2, h3, h4⟩ := h.inner hh x hx
    refine ⟨b, N, h1, ⟨h2.map, h2.ne, fun e v hv => ?_, h2.none⟩, hin h3 h2.map.there, h4⟩
    obtain ⟨z, g1, g2, g3, g4⟩ := h2.some e v hv
    exact ⟨z, g1, g2, g3, fun c hc => hin (g4 c hc) (Sl.there g2 c hc)⟩
  · have := (List.mem_filter.1 hc).2
    intro e
    rw [e] at this; simp at this
theorem So.beside {α : Type} {E : Enc α} {s s' : St} {x : AV} {l : List α} {M : List Nat} (h : So E s x l) (hf : Frw M s s') (hM : ∀ c, c ∈ M → c ∉ blkOf x) : So E s' x l := by
  rcases h with h | ⟨b1, k1, n1, c1, rfl, q2, q3, q4⟩
  · exact .inl h
  · exact .inr ⟨b1, k1, n1, c1, rfl, q2, hf.1 _ _ (fun hc => hM _ hc (by simp [blkOf])) q3, q4⟩

/-! ### What calls come to -/
def oneG (c : CallR) : GT := toGT (oneT c)
/-- What an hour's edge has of calls. -/
def gK : List CallR → Int → Edge → GT
  | [], _, _ => .zero
  | c :: r, h, e => if c.hour = h ∧ c.edge = e then (oneG c).plus (gK r h e) else gK r h e
theorem gK_snoc : ∀ (K : List CallR) (c : CallR) (h : Int) (e : Edge), gK (K ++ [c]) h e = if c.hour = h ∧ c.edge = e then (gK K h e).plus (oneG c) else gK K h e
  | [], c, h, e => by
    simp only [List.nil_append, gK]
    split
    · exact GT.comm _ _
    · rfl
  | d :: r, c, h, e => by
    simp only [List.cons_append, gK, gK_snoc r c h e]
    by_cases h1 : d.hour = h ∧ d.edge = e
    · rw [if_pos h1, if_pos h1]
      split
      · exact (GT.assoc _ _ _).symm
      · rfl
    · rw [if_neg h1, if_neg h1]
theorem gK_ne {K : List CallR} {h : Int} {e : Edge} (hn : gK K h e ≠ .zero) : e ∈ K.map (·.edge) := by
  induction K with
  | nil => exact absurd rfl hn
  | cons c r ih =>
    simp only [gK] at hn
    split at hn
    · rename_i hc
      exact List.mem_map.2 ⟨c, List.mem_cons_self .., hc.2⟩
    · rw [List.map_cons]
      exact List.mem_cons_of_mem _ (ih hn)
theorem gsum_if {H : List Int} (hH : H.Nodup) (f : Int → GT) (k : Int) (a : GT) : gsum (H.map fun h => if k = h then a.plus (f h) else f h) = if k ∈ H then a.plus (gsum (H.map f)) else gsum (H.map f) := by
  induction H with
  | nil => simp
  | cons x r ih =>
    obtain ⟨h1, h2⟩ := List.nodup_cons.1 hH
    simp only [List.map_cons, gsum]
    rw [ih h2]
    by_cases e : k = x
    · subst e
      rw [if_pos rfl, if_neg h1, if_pos (List.mem_cons_self ..), GT.assoc]
    · rw [if_neg e]
      by_cases hk : k ∈ r
      · rw [if_pos hk, if_pos (List.mem_cons_of_mem _ hk), ← GT.assoc, GT.comm (f x) a, GT.assoc]
      · rw [if_neg hk, if_neg (by simp [e, hk])]
def callsIn (a b : Int) (K : List CallR) : List (Edge × Tal) := (K.filter fun c => decide (a ≤ c.hour) && decide (c.hour < b)).map fun c => (c.edge, oneT c)
theorem sumE_calls (a b : Int) (K : List CallR) (e : Edge) : sumE (callsIn a b K) e = gsum ((hrs a b).map fun h => gK K h e) := by
  induction K with
  | nil =>
    symm
    refine gsum_zero fun x hx => ?_
    obtain ⟨h, _, rfl⟩ := List.mem_map.1 hx
    rfl
  | cons c r ih =>
    have e1 : (fun h => gK (c :: r) h e) = fun h => if c.hour = h then (if c.edge = e then (oneG c).plus (gK r h e) else gK r h e) else gK r h e := by
      funext h
      simp only [gK]
      by_cases h1 : c.hour = h <;> by_cases h2 : c.edge = e <;> simp [h1, h2]
    rw [e1]
    by_cases h2 : c.edge = e
    · simp only [h2, if_true]
      rw [gsum_if (hrs_nodup a b), ← ih]
      unfold callsIn
      by_cases h3 : c.hour ∈ hrs a b
      · rw [if_pos h3, List.filter_cons_of_pos (by simpa using mem_hrs.1 h3), List.map_cons]
        unfold sumE
        rw [List.filter_cons_of_pos (by simpa using h2), List.map_cons]
        rfl
      · rw [if_neg h3, List.filter_cons_of_neg (by rw [mem_hrs] at h3; simpa using h3)]
    · simp only [h2, if_false, ite_self]
      rw [← ih]
      unfold callsIn
      by_cases h3 : c.hour ∈ hrs a b
      · rw [List.filter_cons_of_pos (by simpa using mem_hrs.1 h3), List.map_cons]
        unfold sumE
        rw [List.filter_cons_of_neg (by simpa using h2)]
      · rw [List.filter_cons_of_neg (by rw [mem_hrs] at h3; simpa using h3)]

/-- A rollup holds what calls come to. -/
def Holds (G : RollF) (K : List CallR) : Prop := ∀ h e, G h e = (gK K h e).1
theorem Holds.put {G : RollF} {K : List CallR} (h : Holds G K) {c : CallR} (hc : c.Rng) : Holds (setF G c.hour c.edge ((G c.hour c.edge).plus (oneT c))) (K ++ [c]) := by
  intro hh e
  rw [gK_snoc]
  unfold setF
  by_cases h1 : c.hour = hh ∧ c.edge = e
  · rw [if_pos h1, if_pos ⟨h1.1.symm, h1.2.symm⟩, h, h1.1, h1.2]
    show _ = (gK K hh e).1.plus (oneG c).1
    unfold oneG
    rw [toGT_val (oneT_ok hc) (oneT_rng hc)]
  · rw [if_neg h1, if_neg (fun h => h1 ⟨h.1.symm, h.2.symm⟩)]
    exact h hh e
theorem Holds.sum {G : RollF} {K : List CallR} (h : Holds G K) (hG : RollG G) (a b : Int) : sumH G hG a b = sumE (callsIn a b K) := by
  funext e
  rw [sumE_calls]
  unfold sumH
  congr 1
  exact List.map_congr_left fun x _ => Subtype.ext (h x e)
theorem Holds.mem {G : RollF} {K : List CallR} (h : Holds G K) (hh : Int) (e : Edge) (hn : G hh e ≠ .zero) : e ∈ K.map (·.edge) := by
  rw [h] at hn
  exact gK_ne (GT.val_ne.1 hn)
end
end Go.Eng.S

namespace Go.Eng.S
open Go Go.Eng Go.Proofs
set_option linter.constructorNameAsVariable false
set_option maxRecDepth 4000
noncomputable section
attribute [local irreducible] bsel barsOf mergeB

theorem nilK_ptr {t : TypeId} {b o : Nat} {K : Bool → Prop} (h : K false) : nilK (.ptr t) (.ptr b o) true K := by simpa [nilK, nilT] using h
theorem nilK_nilptr {t : TypeId} {K : Bool → Prop} (h : K true) : nilK (.ptr t) .nilptr true K := by simpa [nilK, nilT] using h
theorem Fr.ne {s : St} (h : Fr s) {c : Nat} (hc : s.h.get c ≠ none) : c ≠ s.nx := by
  rintro rfl; exact hc (h _ (Nat.le_refl _))

theorem sz_le {k n c : Nat} (hk : k ≤ n + 2) (hc : c ≤ 104) (hlen : (n + 2 + (n + 2) / 4 + 600) * 104 ≤ pow48) : (k + k / 4 + 600) * c ≤ pow48 := Nat.le_trans (Nat.mul_le_mul (by omega) hc) hlen
theorem sz_le' {k n : Nat} (hk : k ≤ n + 2) (hlen : (n + 2 + (n + 2) / 4 + 600) * 104 ≤ pow48) : k ≤ pow48 := Nat.le_trans (by omega) hlen
/-- The lists of those that are in the range. -/
structure ListsI (s67 : St) (a b : Int) (K : List CallR) (x : AV) (s : St) (j : Nat) (XS : List (AV × List ET)) : Prop where
  so : So lsE s x XS
  new : ∀ c, c ∈ blkOf x → s67.h.get c = none
  each : ∀ p, p ∈ XS → (∀ c, c ∈ blkOf p.1 → c ∉ blkOf x) ∧ Sl etE s p.1 p.2 ∧ ∀ y, y ∈ p.2 → FineE s y ∧ ∀ c, c ∈ blkOf y.2.2 → c ∉ blkOf x
  told : etP (XS.flatMap (·.2)) = callsIn a b (K.take j)
  len : XS.length ≤ j
  len2 : (XS.flatMap (·.2)).length ≤ j
theorem callsIn_succ {a b : Int} {K : List CallR} {j : Nat} (hj : j < K.length) : callsIn a b (K.take (j + 1)) = callsIn a b (K.take j) ++ (if decide (a ≤ K[j].hour) && decide (K[j].hour < b) then [(K[j].edge, oneT K[j])] else []) := by
  rw [← List.take_append_getElem hj]
  unfold callsIn
  rw [List.filter_append, List.map_append]
  congr 1
  cases h : (decide (a ≤ K[j].hour) && decide (K[j].hour < b)) <;> simp [h]
theorem ListsI.skip {s67 : St} {a b : Int} {K : List CallR} {x : AV} {s : St} {j : Nat} {XS : List (AV × List ET)} (h : ListsI s67 a b K x s j XS) (hj : j < K.length) (hn : ¬ (a ≤ K[j].hour ∧ K[j].hour < b)) : ListsI s67 a b K x s (j + 1) XS where
  so := h.so
  new := h.new
  each := h.each
  told := by
    rw [callsIn_succ hj, if_neg (by simpa using hn), List.append_nil]; exact h.told
  len := by have := h.len; omega
  len2 := by have := h.len2; omega
theorem FineE.ext {s s' : St} {y : ET} (h : FineE s y) (hf : Frw [] s s') : FineE s' y := ⟨h.bar.ext hf, h.ok, h.rng, h.ne⟩

/-- One list more. -/
theorem ListsI.next {s67 : St} {a b : Int} {K : List CallR} {x : AV} {s75 s84 s97 : St} {j : Nat} {XS : List (AV × List ET)} (h : ListsI s67 a b K x s75 j XS) (f75 : Frw [] s67 s75) (hfr75 : Fr s75) (hB : Bump s75 16 s84) (hj : j < K.length) (hin : a ≤ K[j].hour ∧ K[j].hour < b) (hr : K[j].Rng) (hlen : (K.length + 2 + (K.length + 2) / 4 + 600) * 104 ≤ pow48) {z : AV} (hz : Sl barE s97 z (oneT K[j]).l) (hg : Gone s84 z) (f97 : Frw [] s84 s97) (hG : Gro s84 s97) :
    ∃ (x' : AV) (s' : St), appendX D (hsetS (hsetS s97 (s75.nx + 13) (cellsO [.slice (s75.nx + 12) 0 1 (.exact 1)])) (s75.nx + 12) (cellsO (etF (K[j].edge, oneT K[j], z)))) T.sl_sl_api_EdgeTally T.sl_sl_api_EdgeTally x (.slice (s75.nx + 13) 0 1 (.exact 1)) = some (x', s') ∧ ListsI s67 a b K x' s' (j + 1) (XS ++ [(.slice (s75.nx + 12) 0 1 (.exact 1), [(K[j].edge, oneT K[j], z)])]) ∧ Frw [] s67 s' ∧ Fr s' := by
  have hfree13 : s97.h.get (s75.nx + 13) = none := bump_free hB (by omega) hG
  have hfree12 : s97.h.get (s75.nx + 12) = none := bump_free hB (by omega) hG
  have hnx : s75.nx + 16 ≤ s97.nx := by have := hB.lt; have := hG.2.1; omega
  have p1 := hsetS_fwd (o := cellsO [.slice (s75.nx + 12) 0 1 (.exact 1)]) hfree13
  have x1 := hsetS_own (s := s97) (b := s75.nx + 13) (cs := [.slice (s75.nx + 12) 0 1 (.exact 1)])
  have y1 := hsetS_fr (o := cellsO [.slice (s75.nx + 12) 0 1 (.exact 1)]) hG.1 (show s75.nx + 13 < s97.nx by omega)
  have free12 : (hsetS s97 (s75.nx + 13) (cellsO [.slice (s75.nx + 12) 0 1 (.exact 1)])).h.get (s75.nx + 12) = none := by
    simp only [hsetS, PT.get_set]; rw [if_neg (by omega)]; exact hfree12
  have hnxA : (hsetS s97 (s75.nx + 13) (cellsO [.slice (s75.nx + 12) 0 1 (.exact 1)])).nx = s97.nx := rfl
  generalize hsetS s97 (s75.nx + 13) (cellsO [.slice (s75.nx + 12) 0 1 (.exact 1)]) = sA at p1 x1 y1 free12 hnxA ⊢
  have p2 := hsetS_fwd (o := cellsO (etF (K[j].edge, oneT K[j], z))) free12
  have x2 := hsetS_own (s := sA) (b := s75.nx + 12) (cs := etF (K[j].edge, oneT K[j], z))
  have y2 := hsetS_fr (o := cellsO (etF (K[j].edge, oneT K[j], z))) y1 (show s75.nx + 12 < sA.nx by omega)
  generalize hsetS sA (s75.nx + 12) (cellsO (etF (K[j].edge, oneT K[j], z))) = sB at p2 x2 y2 ⊢
  have fB : Frw [] s97 sB := p1.trans p2
  have f75B : Frw [] s75 sB := (hB.fwd.trans f97).trans fB
  have hjl := h.len
  have hb1 : (XS.length + 1 + (XS.length + 1) / 4 + 600) * 24 ≤ pow48 := sz_le (by omega) (by omega) hlen
  have hb2 : XS.length + 1 ≤ pow48 := sz_le' (by omega) hlen
  obtain ⟨x', s', q1, q2, q3, q4, q5, q6⟩ := So.append' (a := ((.slice (s75.nx + 12) 0 1 (.exact 1), [(K[j].edge, oneT K[j], z)]) : AV × List ET)) (h.so.ext f75B) ty.sl_sl_api_EdgeTally rfl ty.sl_api_EdgeTally rfl rfl rfl rfl (x1.ext p2).rd rfl hb1 hb2 y2
  have hthere : ∀ c, c ∈ blkOf x → s75.h.get c ≠ none := So.there h.so
  have n12 : ∀ c, c ∈ blkOf x → c ≠ s75.nx + 12 := by
    rintro c hc rfl
    exact hthere _ hc (hfr75 _ (by omega))
  have x2' := x2.fwd q3 fun hc => n12 _ hc rfl
  have hz' : Sl barE s' z (oneT K[j]).l := (hz.ext fB).beside q3 fun c hc => .inr fun hcz => hB.fwd.gone (hthere c hc) (by simp) (hg c hcz)
  have old : ∀ c, sB.h.get c ≠ none → c ∉ blkOf x' := by
    intro c hc hx
    rw [q4] at hx
    have : c = sB.nx := by simpa using hx
    exact Fr.ne y2 hc this
  refine ⟨x', s', q1, ⟨q2, fun c hc => ?_, fun p hp => ?_, ?_, ?_, ?_⟩, (f75.trans f75B).step q3 h.new, q5⟩
  · rw [q4] at hc
    have : c = sB.nx := by simpa using hc
    rw [this]
    exact (f75.trans f75B).none (y2 _ (Nat.le_refl _)) (by simp)
  · rcases List.mem_append.1 hp with hp | hp
    · obtain ⟨e1, e2, e3⟩ := h.each p hp
      have e2B := e2.ext f75B
      refine ⟨fun c hc => old c (Sl.there e2B c hc), e2B.beside q3 fun c hc => .inr fun hcp => e1 c hcp hc, fun y hy => ?_⟩
      obtain ⟨g1, g2⟩ := e3 y hy
      have g1B := g1.ext f75B
      exact ⟨⟨g1B.bar.beside q3 fun c hc => .inr fun hcp => g2 c hcp hc, g1.ok, g1.rng, g1.ne⟩, fun c hc => old c (Sl.there g1B.bar c hc)⟩
    · have : p = (.slice (s75.nx + 12) 0 1 (.exact 1), [(K[j].edge, oneT K[j], z)]) := by simpa using hp
      subst this
      refine ⟨fun c hc => old c ?_, .inr ⟨_, 0, 1, .exact 1, rfl, rfl, ?_⟩, fun y hy => ?_⟩
      · have : c = s75.nx + 12 := by simpa [blkOf] using hc
        rw [this]; exact x2.there
      · have := x2'.rd
        simpa [etE] using this
      · have : y = (K[j].edge, oneT K[j], z) := by simpa using hy
        subst this
        exact ⟨⟨hz', oneT_ok hr, oneT_rng hr, oneT_ne _⟩, fun c hc => old c (Sl.there (hz.ext fB) c hc)⟩
  · rw [callsIn_succ hj, if_pos (by simpa using hin), List.flatMap_append, etP_append, h.told]
    rfl
  · rw [List.length_append, List.length_singleton]; have := h.len; omega
  · rw [List.flatMap_append, List.length_append, List.flatMap_cons, List.flatMap_nil, List.append_nil, List.length_singleton]; have := h.len2; omega

end
end Go.Eng.S

